/-
 The law PrinterLong, walked.
-/
import Derived.Test.YtgbooiaedbpenaaDoorPrHd
import Derived.Test.YtgbooiaedbpenaaDoorPrIw
import Derived.Test.YtgbooiaedbpenaaDoorPrTi
import Derived.Deep.AppendLies
namespace Go.Proofs.YtgbooiaedbpenaaDoor
set_option linter.unusedVariables false
set_option linter.unusedSimpArgs false
open Go Go.RowKit Go.Shelf
attribute [local irreducible] Go.wpStill
theorem i64_0 : Pr.I64 0 := Pr.i64s (by decide)
theorem info_row8 : ∃ i, Tryd.prog.info? 40 = some i ∧ i.zero = some (.agg #[.string ⟨#[]⟩, .int .i64 0, .int .i64 0, .int .i64 0, .int .i64 0, .int .i64 0, .slice none 0 0, .int .i64 0]) ∧ i.size = 8 ∧ i.bytes = 88 := by
 have h : (Tryd.prog.info? 40).map (fun i => (i.zero, i.size, i.bytes)) = some (some (.agg #[.string ⟨#[]⟩, .int .i64 0, .int .i64 0, .int .i64 0, .int .i64 0, .int .i64 0, .slice none 0 0, .int .i64 0]), 8, 88) := by kernel_rfl
 cases hi : Tryd.prog.info? 40 with
 | none => rw [hi] at h; cases h
 | some i =>
  rw [hi] at h
  simp only [Option.map_some, Option.some.injEq, Prod.mk.injEq] at h
  exact ⟨i, rfl, h.1, h.2.1, h.2.2⟩
set_option maxHeartbeats 8000000 in
set_option maxRecDepth 100000 in
theorem printerLong_walk (w : World) (HL : Hid (Laid w)) (x : Pr.Rw) (ao : Option Addr) (cap n : Nat) (HI : Hid (InW w x ao cap n)) (T : Nat) (hT : T < 65536) :
 Calls Tryd.prog 4 #[.agg #[.string ⟨x.name.toArray⟩, .int .i64 x.x, .int .i64 x.y, .int .i64 x.f, .int .i64 x.t, .int .i64 x.step, .slice ao n cap, .int .i64 x.at_], .int .u16 (T : Int)] w fun e w' => e = .returned (.bool true) ∧ Chg [] w w' := by
 suffices H : ∀ {R : Ending → World → Prop}, (∀ w', Chg [] w w' → R (.returned (.bool true)) w') → Calls Tryd.prog 4 #[.agg #[.string ⟨x.name.toArray⟩, .int .i64 x.x, .int .i64 x.y, .int .i64 x.f, .int .i64 x.t, .int .i64 x.step, .slice ao n cap, .int .i64 x.at_], .int .u16 (T : Int)] w R from H (fun w' hc => ⟨rfl, hc⟩)
 intro R hR
 have HRR := hd hR
 clear hR
 have hnr : Rch n := HI.out.hr
 have hns : Rch x.name.length := HI.out.hs
 unfold Rch at hnr hns
 go_enter Tryd.func4, Tryd.ntmps4
 go_upto_region 1 with (fail)
 obtain ⟨w1, hw⟩ : ∃ W, W = w.alloc (.cells #[.string ⟨x.name.toArray⟩, .int .i64 x.x, .int .i64 x.y, .int .i64 x.f, .int .i64 x.t, .int .i64 x.step, .slice ao n cap, .int .i64 x.at_] 40) := ⟨_, rfl⟩
 rw [← hw]
 obtain ⟨G, hX⟩ : ∃ X, X = w.heap.size := ⟨_, rfl⟩
 rw [← hX]
 have HG : Hid (Blk w1 G [.string ⟨x.name.toArray⟩, .int .i64 x.x, .int .i64 x.y, .int .i64 x.f, .int .i64 x.t, .int .i64 x.step, .slice ao n cap, .int .i64 x.at_] 40) := hd (by rw [hw, hX]; exact Blk.new w [.string ⟨x.name.toArray⟩, .int .i64 x.x, .int .i64 x.y, .int .i64 x.f, .int .i64 x.t, .int .i64 x.step, .slice ao n cap, .int .i64 x.at_] _)
 have C1 : Hid (Chg [] w w1) := hd (by rw [hw]; exact (Chg.refl _ _).alloc _)
 clear hw hX
 go_wp2_with fail
 refine head_r (hd (HL.out.quiet C1.out)) (fun w2 h2 => ?_)
 have C2 : Hid (Chg [] w1 w2) := hd h2
 clear h2
 have C12 : Hid (Chg [] w w2) := hd (C1.out.trans C2.out (by simp))
 have HG2 := hd (C2.out.blk HG.out (by simp))
 have g0 := HG2.out.cell (i := 0) rfl
 have g6 := HG2.out.cell (i := 6) rfl
 by_cases h20 : 20 < n
 · skip
   have z1 : (20 : Int) < (n : Int) := by omega
   go_wp2_with fail
   exact HRR.out w2 C12.out
 by_cases h60 : 60 < x.name.length
 · skip
   have z1 : ¬ (20 : Int) < (n : Int) := by omega
   have z2 : (60 : Int) < (x.name.length : Int) := by omega
   go_wp2_with fail
   exact HRR.out w2 C12.out
 have z1 : ¬ (20 : Int) < (n : Int) := by omega
 have z2 : ¬ (60 : Int) < (x.name.length : Int) := by omega
 have HSM : Hid (n ≤ 20 ∧ x.name.length ≤ 60) := hd ⟨by omega, by omega⟩
 go_upto_region 5 with (fail)
 clear g0 g6 z1 z2 h20 h60
 obtain ⟨b0, hb0⟩ : ∃ T, T = w2.heap.size := ⟨_, rfl⟩
 obtain ⟨b1, hb1⟩ : ∃ T, T = w2.heap.size + 1 := ⟨_, rfl⟩
 obtain ⟨b2, hb2⟩ : ∃ T, T = w2.heap.size + 2 := ⟨_, rfl⟩
 try rw [← hb2]
 try rw [← hb1]
 try rw [← hb0]
 obtain ⟨w3_0, hu⟩ : ∃ W, W = w2.alloc (.cells #[.string ⟨#[98]⟩, .slice none 0 0, .int .i64 0] 44) := ⟨_, rfl⟩
 rw [← hu]
 have hz1 : w3_0.heap.size = w2.heap.size + 1 := by rw [hu]; simp <;> omega
 have Hb0 : Hid (Blk w3_0 b0 [.string ⟨#[98]⟩, .slice none 0 0, .int .i64 0] 44) := hd (by have h9 := Blk.new w2 [.string ⟨#[98]⟩, .slice none 0 0, .int .i64 0] 44; rw [show w2.heap.size = b0 by omega] at h9; rw [hu]; exact h9)
 have D0 : Hid (Chg [] w2 w3_0) := hd (by rw [hu]; exact (Chg.refl _ _).alloc _)
 clear hu
 obtain ⟨w3_1, hu⟩ : ∃ W, W = w3_0.alloc (.cells #[.string ⟨#[108]⟩, .int .i64 0, .slice (some ⟨b0, 0, none⟩) 1 1, .slice none 0 0, .slice none 0 0, .slice none 0 0, .slice none 0 0, .int .i64 0] 50) := ⟨_, rfl⟩
 rw [← hu]
 have hz2 : w3_1.heap.size = w2.heap.size + 2 := by rw [hu]; simp <;> omega
 have Hb0 := hd (Hb0.out.alloc (.cells #[.string ⟨#[108]⟩, .int .i64 0, .slice (some ⟨b0, 0, none⟩) 1 1, .slice none 0 0, .slice none 0 0, .slice none 0 0, .slice none 0 0, .int .i64 0] 50))
 rw [← hu] at Hb0
 have Hb1 : Hid (Blk w3_1 b1 [.string ⟨#[108]⟩, .int .i64 0, .slice (some ⟨b0, 0, none⟩) 1 1, .slice none 0 0, .slice none 0 0, .slice none 0 0, .slice none 0 0, .int .i64 0] 50) := hd (by have h9 := Blk.new w3_0 [.string ⟨#[108]⟩, .int .i64 0, .slice (some ⟨b0, 0, none⟩) 1 1, .slice none 0 0, .slice none 0 0, .slice none 0 0, .slice none 0 0, .int .i64 0] 50; rw [show w3_0.heap.size = b1 by omega] at h9; rw [hu]; exact h9)
 have D1 : Hid (Chg [] w3_0 w3_1) := hd (by rw [hu]; exact (Chg.refl _ _).alloc _)
 clear hu
 obtain ⟨w3_2, hu⟩ : ∃ W, W = w3_1.alloc (.cells #[.string ⟨#[104]⟩, .int .i64 0, .int .i64 0, .slice (some ⟨b1, 0, none⟩) 1 1] 26) := ⟨_, rfl⟩
 rw [← hu]
 have hz3 : w3_2.heap.size = w2.heap.size + 3 := by rw [hu]; simp <;> omega
 have Hb0 := hd (Hb0.out.alloc (.cells #[.string ⟨#[104]⟩, .int .i64 0, .int .i64 0, .slice (some ⟨b1, 0, none⟩) 1 1] 26))
 rw [← hu] at Hb0
 have Hb1 := hd (Hb1.out.alloc (.cells #[.string ⟨#[104]⟩, .int .i64 0, .int .i64 0, .slice (some ⟨b1, 0, none⟩) 1 1] 26))
 rw [← hu] at Hb1
 have Hb2 : Hid (Blk w3_2 b2 [.string ⟨#[104]⟩, .int .i64 0, .int .i64 0, .slice (some ⟨b1, 0, none⟩) 1 1] 26) := hd (by have h9 := Blk.new w3_1 [.string ⟨#[104]⟩, .int .i64 0, .int .i64 0, .slice (some ⟨b1, 0, none⟩) 1 1] 26; rw [show w3_1.heap.size = b2 by omega] at h9; rw [hu]; exact h9)
 have D2 : Hid (Chg [] w3_1 w3_2) := hd (by rw [hu]; exact (Chg.refl _ _).alloc _)
 clear hu
 have C3 : Hid (Chg [] w2 w3_2) := hd ((D0.out.trans D1.out (by simp)).trans D2.out (by simp))
 have HBS : Hid (b0 < b1 ∧ b1 < b2 ∧ b2 < w3_2.heap.size ∧ w2.heap.size ≤ b0) := hd ⟨by omega, by omega, by omega, by omega⟩
 clear hz1 hz2 hz3 hb0 hb1 hb2
 have HG3 := hd (C3.out.blk HG2.out (by simp))
 have C13 : Hid (Chg [] w w3_2) := hd (C12.out.trans C3.out (by simp))
 have NG : Hid (G < w2.heap.size) := hd HG2.out.lt
 obtain ⟨N, hN⟩ : ∃ z, z = T % 700 := ⟨_, rfl⟩
 have HNN : Hid (N < 700) := hd (by omega)
 have HTN := hd hN
 have hmod : ((T : Int) % 700) = (N : Int) := by omega
 have HMD := hd hmod
 clear hmod
 obtain ⟨ti, hti, htz, hts, htb⟩ : ∃ i, Tryd.prog.info? 40 = some i ∧ i.zero = some (.agg #[.string ⟨#[]⟩, .int .i64 0, .int .i64 0, .int .i64 0, .int .i64 0, .int .i64 0, .slice none 0 0, .int .i64 0]) ∧ i.size = 8 ∧ i.bytes = 88 := info_row8
 have HIF := hd (And.intro hti (And.intro htz (And.intro hts htb)))
 clear hti htz hts htb hN
 go_wp2_with fail
 go_loopw [7] (fun i0 wr => ∃ (j : Nat) (ro : Option Addr) (rc : Nat), i0 = .int .i64 (j : Int) ∧ j ≤ N ∧ Hid (Blk wr b0 [.string ⟨#[98]⟩, .slice ro j rc, .int .i64 0] 44) ∧ Hid (OwR w3_2.heap.size (rwC x ao cap n) j (.slice ro j rc) wr) ∧ Hid (Chg [b0] w3_2 wr)) (fun i0 _ => N - intN i0)
 case atStart => exact ⟨0, none, 0, rfl, Nat.zero_le _, Hb0, hd ⟨by simp, .inl ⟨rfl, rfl⟩⟩, hd (Chg.refl _ _)⟩
 case round =>
  obtain ⟨j, ro, rc, rfl, hj, HB, HO, HC⟩ := hrel
  have hmod := HMD.out
  by_cases hlt : j < N
  · skip
    have z0 : (0 : Int) ≤ (j : Int) := by omega
    have z1 : (j : Int) < (N : Int) := by omega
    have hj7 : j < 700 := by have := HNN.out; omega
    go_upto_region 8 with (fail)
    clear hmod
    obtain ⟨own, hown⟩ : ∃ z, z = (Value.slice ro j rc).ownBlock := ⟨_, rfl⟩
    have HOW := hd hown
    clear hown
    have HGE : Hid (∀ k, own = some k → w3_2.heap.size ≤ k ∧ k < wr.heap.size) := hd (fun k hk => owns_ge HO.out k (by rw [← HOW.out]; exact hk))
    have NB : Hid (∀ g, g < w3_2.heap.size → g ≠ b0 → g ∉ b0 :: own.toList) := hd (fun g hg hne hm => by rcases List.mem_cons.1 hm with h | h; exact hne h; rw [Option.mem_toList] at h; have := (HGE.out g h).1; omega)
    have HGr := hd (HC.out.blk HG3.out (by have h1 := HBS.out; have h2 := NG.out; simp; omega))
    have H1r := hd (HC.out.blk Hb1.out (by have h1 := HBS.out; simp; omega))
    have H2r := hd (HC.out.blk Hb2.out (by have h1 := HBS.out; simp; omega))
    have N0 : Hid (G ∉ b0 :: own.toList) := hd (NB.out G (by have h1 := HBS.out; have h2 := NG.out; omega) (by have h1 := HBS.out; have h2 := NG.out; omega))
    have N1 : Hid (b1 ∉ b0 :: own.toList) := hd (NB.out b1 (by have h1 := HBS.out; omega) (by have h1 := HBS.out; omega))
    have N2 : Hid (b2 ∉ b0 :: own.toList) := hd (NB.out b2 (by have h1 := HBS.out; omega) (by have h1 := HBS.out; omega))
    refine wp_region_held_drew (S := fun W' => Chg (b0 :: own.toList) wr W') (by kernel_rfl) (Chg.refl _ _).drew (fun hHeld => ?_)
    obtain ⟨wd, hwd⟩ : ∃ x, x = wr.drew := ⟨_, rfl⟩
    have CD : Hid (Chg [] wr wd) := hd (by rw [hwd]; exact (Chg.refl _ _).drew)
    rw [← hwd] at hHeld ⊢
    clear hwd
    refine tk 0 ?va0 ?hya0 ?rsa0
    case hya0 => (intro w9 hSw; go_simp; try with_reducible rfl)
    try simp only [qq]
    refine tk 1 ?va1 ?hya1 ?rsa1
    case hya1 => (intro w9 hSw; have t0 := cell_quiet hSw (H2r.out.cell (i := 3) rfl) N2.out; go_simp; try with_reducible rfl)
    try simp only [qq]
    refine tk 2 ?va2 ?hya2 ?rsa2
    case hya2 => (intro w9 hSw; go_simp; try with_reducible rfl)
    try simp only [qq]
    refine tk 3 ?va3 ?hya3 ?rsa3
    case hya3 => (intro w9 hSw; go_simp; try with_reducible rfl)
    try simp only [qq]
    refine tk 4 ?va4 ?hya4 ?rsa4
    case hya4 => (intro w9 hSw; have t0 := cell_quiet hSw (H1r.out.cell (i := 2) rfl) N1.out; go_simp; try with_reducible rfl)
    try simp only [qq]
    refine tk 5 ?va5 ?hya5 ?rsa5
    case hya5 => (intro w9 hSw; go_simp; try with_reducible rfl)
    try simp only [qq]
    refine tk 6 ?va6 ?hya6 ?rsa6
    case hya6 => (intro w9 hSw; have t0 := cell_quiet hSw (H2r.out.cell (i := 3) rfl) N2.out; go_simp; try with_reducible rfl)
    try simp only [qq]
    refine tk 7 ?va7 ?hya7 ?rsa7
    case hya7 => (intro w9 hSw; go_simp; try with_reducible rfl)
    try simp only [qq]
    refine tk 8 ?va8 ?hya8 ?rsa8
    case hya8 => (intro w9 hSw; go_simp; try with_reducible rfl)
    try simp only [qq]
    refine tk 9 ?va9 ?hya9 ?rsa9
    case hya9 => (intro w9 hSw; have t0 := cell_quiet hSw (H1r.out.cell (i := 2) rfl) N1.out; go_simp; try with_reducible rfl)
    try simp only [qq]
    refine tk 10 ?va10 ?hya10 ?rsa10
    case hya10 => (intro w9 hSw; go_simp; try with_reducible rfl)
    try simp only [qq]
    refine tk 11 ?va11 ?hya11 ?rsa11
    case hya11 => (intro w9 hSw; go_simp; try with_reducible rfl)
    try simp only [qq]
    refine tk 13 ?va13 ?hya13 ?rsa13
    case hya13 => (intro w9 hSw; have t0 := cell_quiet hSw (HGr.out.cell (i := 0) rfl) N0.out; have t1 := cell_quiet hSw (HGr.out.cell (i := 1) rfl) N0.out; have t2 := cell_quiet hSw (HGr.out.cell (i := 2) rfl) N0.out; have t3 := cell_quiet hSw (HGr.out.cell (i := 3) rfl) N0.out; have t4 := cell_quiet hSw (HGr.out.cell (i := 4) rfl) N0.out; have t5 := cell_quiet hSw (HGr.out.cell (i := 5) rfl) N0.out; have t6 := cell_quiet hSw (HGr.out.cell (i := 6) rfl) N0.out; have t7 := cell_quiet hSw (HGr.out.cell (i := 7) rfl) N0.out; go_simp; try with_reducible rfl)
    try simp only [qq]
    refine rd2 12 14 (fun K hK => ?_) (fun K hK => ?_)
    · skip
      have c1 := (CD.out.blk HB.out (by simp)).cell (i := 1) rfl
      go_simp
      refine hK.out _ _ hHeld (fun hHeld => ?_)
      clear hK K c1
      try simp only [qq]
      refine rd1 14 (fun K hK => ?_)
      go_simp
      obtain ⟨we, hu⟩ : ∃ W, W = wd.alloc (.cells #[.string ⟨x.name.toArray⟩, .int .i64 x.x, .int .i64 x.y, .int .i64 x.f, .int .i64 x.t, .int .i64 x.step, .slice ao n cap, .int .i64 x.at_] 40) := ⟨_, rfl⟩
      have HN9 : Hid (Blk we wd.heap.size [.string ⟨x.name.toArray⟩, .int .i64 x.x, .int .i64 x.y, .int .i64 x.f, .int .i64 x.t, .int .i64 x.step, .slice ao n cap, .int .i64 x.at_] 40) := hd (by rw [hu]; exact Blk.new wd [.string ⟨x.name.toArray⟩, .int .i64 x.x, .int .i64 x.y, .int .i64 x.f, .int .i64 x.t, .int .i64 x.step, .slice ao n cap, .int .i64 x.at_] _)
      have CE : Hid (Chg [] wd we) := hd (by rw [hu]; exact (Chg.refl _ _).alloc _)
      rw [← hu]
      clear hu
      have HHE := hd hHeld
      refine hK.out _ _ (hHeld.trans (CE.out.mono (by simp)) (fun k hk => .inl hk)) (fun hHeld => ?_)
      clear hK K
      try simp only [qq]
      refine rd1 15 (fun K hK => ?_)
      have CW : Hid (Chg [] wr we) := hd (CD.out.trans CE.out (by simp))
      have HOE : Hid (OwR w3_2.heap.size (rwC x ao cap n) j (.slice ro j rc) we) := hd (owns_keep HO.out CW.out (by simp))
      refine step_append_lies we rfl (.tmp 48) (.tmp 50) 42 rfl w3_2.heap.size 40 ti (.agg #[.string ⟨#[]⟩, .int .i64 0, .int .i64 0, .int .i64 0, .int .i64 0, .int .i64 0, .slice none 0 0, .int .i64 0]) 8 88 Tryd.underlying42 HIF.out.1 HIF.out.2.1 HIF.out.2.2.1 HIF.out.2.2.2 rfl (by decide) (.slice ro j rc) j (List.replicate j (rwC x ao cap n)).flatten (by rfl) HOE.out ⟨wd.heap.size, 0, none⟩ 1 1 [.string ⟨x.name.toArray⟩, .int .i64 x.x, .int .i64 x.y, .int .i64 x.f, .int .i64 x.t, .int .i64 x.step, .slice ao n cap, .int .i64 x.at_] (by rfl) rfl (fun k u hk => by rw [show (⟨wd.heap.size, 0, none⟩ : Addr).add k = ⟨wd.heap.size, k, none⟩ from by rw [addr_add, Nat.zero_add]]; exact HN9.out.cell hk) (by simp [Value.oneCell']) (by decide) (by unfold maxLen; omega) (by omega) (by have h1 := HC.out.size; have h2 := CW.out.size; omega) we.heap.size rfl ?_
      intro g9 cap9 w9 hown9 hgrow9 hat9 hlt9
      have HO9 : Hid (OwR w3_2.heap.size (rwC x ao cap n) (j + 1) (.slice (some ⟨g9, 0, none⟩) (j + 1) cap9) w9) := hd (by show World.ownsRow _ _ _ _ _ _ _; rw [List.replicate_succ', List.flatten_append, List.flatten_singleton]; exact hown9)
      have HG9 : Hid (w3_2.heap.size ≤ g9) := hd (owns_ge HO9.out g9 rfl).1
      have C9 : Hid (Chg own.toList we w9) := hd ((Chg.refl own.toList we).grown hgrow9 (fun k hk => .inl (by rw [HOW.out, Option.mem_toList]; exact hk)))
      have HB9 : Hid (Blk w9 b0 [.string ⟨#[98]⟩, .slice ro j rc, .int .i64 0] 44) := hd (C9.out.blk (CW.out.blk HB.out (by simp)) (fun hm => by rw [Option.mem_toList] at hm; have h1 := (HGE.out b0 hm).1; have h2 := HBS.out; omega))
      clear hown9 hgrow9 hat9 hlt9
      refine hK.out _ _ (hHeld.trans C9.out (fun k hk => .inl (List.mem_cons_of_mem _ hk))) (fun hHeld => ?_)
      clear hK K
      try simp only [qq]
      refine tk 16 ?vb16 ?hyb16 ?rsb16
      case hyb16 => (intro w9 hSw; go_simp; try with_reducible rfl)
      try simp only [qq]
      refine tk 17 ?vb17 ?hyb17 ?rsb17
      case hyb17 => (intro w9 hSw; go_simp; try with_reducible rfl)
      try simp only [qq]
      refine rd1 18 (fun K hK => ?_)
      have y1 := HB9.out.cell (i := 1) rfl
      have y2 := HB9.out.free 1
      go_simp
      obtain ⟨wz, hwz⟩ : ∃ W, W = w9.setCell ⟨b0, 1, none⟩ (.slice (some ⟨g9, 0, none⟩) (j + 1) cap9) := ⟨_, rfl⟩
      rw [← hwz]
      have HZB : Hid (Blk wz b0 [.string ⟨#[98]⟩, .slice (some ⟨g9, 0, none⟩) (j + 1) cap9, .int .i64 0] 44) := hd (by rw [hwz]; exact HB9.out.set 1 _)
      have CZ : Hid (Chg [b0] w9 wz) := hd (by rw [hwz]; exact (Chg.refl _ _).setCell _ _ (.inl (by simp)))
      have HZO : Hid (OwR w3_2.heap.size (rwC x ao cap n) (j + 1) (.slice (some ⟨g9, 0, none⟩) (j + 1) cap9) wz) := hd (owns_keep HO9.out CZ.out (fun k hk => by have h1 := HG9.out; have h2 := HBS.out; simp only [Value.ownBlock, Option.some.injEq] at hk; subst hk; simp; omega))
      have HZC : Hid (Chg [b0] w3_2 wz) := hd (((HC.out.trans (CW.out.mono (by simp)) (fun k hk => .inl hk)).trans C9.out (fun k hk => by rw [Option.mem_toList] at hk; exact .inr (HGE.out k hk).1)).trans CZ.out (fun k hk => .inl hk))
      refine hK.out _ _ (hHeld.trans CZ.out (fun k hk => .inl (by rw [List.mem_singleton] at hk; rw [hk]; exact List.mem_cons_self ..))) (fun hHeld => ?_)
      clear hK K hwz y1 y2
      try simp only [qq]
      refine wpAnyH_done (by kernel_rfl) ?_ _
      try simp only [qq]
      clear hHeld
      go_wp2_with fail
      go_roundw
      case rel => exact ⟨j + 1, some ⟨g9, 0, none⟩, cap9, vint (by omega), by omega, HZB, HZO, HZC⟩
      case measure => simp [intN]; omega
    · skip
      go_simp
      obtain ⟨we, hu⟩ : ∃ W, W = wd.alloc (.cells #[.string ⟨x.name.toArray⟩, .int .i64 x.x, .int .i64 x.y, .int .i64 x.f, .int .i64 x.t, .int .i64 x.step, .slice ao n cap, .int .i64 x.at_] 40) := ⟨_, rfl⟩
      have HN9 : Hid (Blk we wd.heap.size [.string ⟨x.name.toArray⟩, .int .i64 x.x, .int .i64 x.y, .int .i64 x.f, .int .i64 x.t, .int .i64 x.step, .slice ao n cap, .int .i64 x.at_] 40) := hd (by rw [hu]; exact Blk.new wd [.string ⟨x.name.toArray⟩, .int .i64 x.x, .int .i64 x.y, .int .i64 x.f, .int .i64 x.t, .int .i64 x.step, .slice ao n cap, .int .i64 x.at_] _)
      have CE : Hid (Chg [] wd we) := hd (by rw [hu]; exact (Chg.refl _ _).alloc _)
      rw [← hu]
      clear hu
      have HHE := hd hHeld
      refine hK.out _ _ (hHeld.trans (CE.out.mono (by simp)) (fun k hk => .inl hk)) (fun hHeld => ?_)
      clear hK K
      try simp only [qq]
      refine rd1 12 (fun K hK => ?_)
      have c1 := ((CD.out.trans CE.out (by simp)).blk HB.out (by simp)).cell (i := 1) rfl
      go_simp
      refine hK.out _ _ hHeld (fun hHeld => ?_)
      clear hK K c1
      try simp only [qq]
      refine rd1 15 (fun K hK => ?_)
      have CW : Hid (Chg [] wr we) := hd (CD.out.trans CE.out (by simp))
      have HOE : Hid (OwR w3_2.heap.size (rwC x ao cap n) j (.slice ro j rc) we) := hd (owns_keep HO.out CW.out (by simp))
      refine step_append_lies we rfl (.tmp 48) (.tmp 50) 42 rfl w3_2.heap.size 40 ti (.agg #[.string ⟨#[]⟩, .int .i64 0, .int .i64 0, .int .i64 0, .int .i64 0, .int .i64 0, .slice none 0 0, .int .i64 0]) 8 88 Tryd.underlying42 HIF.out.1 HIF.out.2.1 HIF.out.2.2.1 HIF.out.2.2.2 rfl (by decide) (.slice ro j rc) j (List.replicate j (rwC x ao cap n)).flatten (by rfl) HOE.out ⟨wd.heap.size, 0, none⟩ 1 1 [.string ⟨x.name.toArray⟩, .int .i64 x.x, .int .i64 x.y, .int .i64 x.f, .int .i64 x.t, .int .i64 x.step, .slice ao n cap, .int .i64 x.at_] (by rfl) rfl (fun k u hk => by rw [show (⟨wd.heap.size, 0, none⟩ : Addr).add k = ⟨wd.heap.size, k, none⟩ from by rw [addr_add, Nat.zero_add]]; exact HN9.out.cell hk) (by simp [Value.oneCell']) (by decide) (by unfold maxLen; omega) (by omega) (by have h1 := HC.out.size; have h2 := CW.out.size; omega) we.heap.size rfl ?_
      intro g9 cap9 w9 hown9 hgrow9 hat9 hlt9
      have HO9 : Hid (OwR w3_2.heap.size (rwC x ao cap n) (j + 1) (.slice (some ⟨g9, 0, none⟩) (j + 1) cap9) w9) := hd (by show World.ownsRow _ _ _ _ _ _ _; rw [List.replicate_succ', List.flatten_append, List.flatten_singleton]; exact hown9)
      have HG9 : Hid (w3_2.heap.size ≤ g9) := hd (owns_ge HO9.out g9 rfl).1
      have C9 : Hid (Chg own.toList we w9) := hd ((Chg.refl own.toList we).grown hgrow9 (fun k hk => .inl (by rw [HOW.out, Option.mem_toList]; exact hk)))
      have HB9 : Hid (Blk w9 b0 [.string ⟨#[98]⟩, .slice ro j rc, .int .i64 0] 44) := hd (C9.out.blk (CW.out.blk HB.out (by simp)) (fun hm => by rw [Option.mem_toList] at hm; have h1 := (HGE.out b0 hm).1; have h2 := HBS.out; omega))
      clear hown9 hgrow9 hat9 hlt9
      refine hK.out _ _ (hHeld.trans C9.out (fun k hk => .inl (List.mem_cons_of_mem _ hk))) (fun hHeld => ?_)
      clear hK K
      try simp only [qq]
      refine tk 16 ?vc16 ?hyc16 ?rsc16
      case hyc16 => (intro w9 hSw; go_simp; try with_reducible rfl)
      try simp only [qq]
      refine tk 17 ?vc17 ?hyc17 ?rsc17
      case hyc17 => (intro w9 hSw; go_simp; try with_reducible rfl)
      try simp only [qq]
      refine rd1 18 (fun K hK => ?_)
      have y1 := HB9.out.cell (i := 1) rfl
      have y2 := HB9.out.free 1
      go_simp
      obtain ⟨wz, hwz⟩ : ∃ W, W = w9.setCell ⟨b0, 1, none⟩ (.slice (some ⟨g9, 0, none⟩) (j + 1) cap9) := ⟨_, rfl⟩
      rw [← hwz]
      have HZB : Hid (Blk wz b0 [.string ⟨#[98]⟩, .slice (some ⟨g9, 0, none⟩) (j + 1) cap9, .int .i64 0] 44) := hd (by rw [hwz]; exact HB9.out.set 1 _)
      have CZ : Hid (Chg [b0] w9 wz) := hd (by rw [hwz]; exact (Chg.refl _ _).setCell _ _ (.inl (by simp)))
      have HZO : Hid (OwR w3_2.heap.size (rwC x ao cap n) (j + 1) (.slice (some ⟨g9, 0, none⟩) (j + 1) cap9) wz) := hd (owns_keep HO9.out CZ.out (fun k hk => by have h1 := HG9.out; have h2 := HBS.out; simp only [Value.ownBlock, Option.some.injEq] at hk; subst hk; simp; omega))
      have HZC : Hid (Chg [b0] w3_2 wz) := hd (((HC.out.trans (CW.out.mono (by simp)) (fun k hk => .inl hk)).trans C9.out (fun k hk => by rw [Option.mem_toList] at hk; exact .inr (HGE.out k hk).1)).trans CZ.out (fun k hk => .inl hk))
      refine hK.out _ _ (hHeld.trans CZ.out (fun k hk => .inl (by rw [List.mem_singleton] at hk; rw [hk]; exact List.mem_cons_self ..))) (fun hHeld => ?_)
      clear hK K hwz y1 y2
      try simp only [qq]
      refine wpAnyH_done (by kernel_rfl) ?_ _
      try simp only [qq]
      clear hHeld
      go_wp2_with fail
      go_roundw
      case rel => exact ⟨j + 1, some ⟨g9, 0, none⟩, cap9, vint (by omega), by omega, HZB, HZO, HZC⟩
      case measure => simp [intN]; omega
  · skip
    have z1 : ¬ (j : Int) < (N : Int) := by omega
    have hjN : j = N := by omega
    rw [hjN] at HB HO
    clear hjN
    skip
    have HH2 := hd (HC.out.blk Hb2.out (by have h1 := HBS.out; simp; omega))
    have HH1 := hd (HC.out.blk Hb1.out (by have h1 := HBS.out; simp; omega))
    have CW : Hid (Chg [] w wr) := hd ((C13.out.mono (by simp)).trans HC.out (fun k hk => by rw [List.mem_singleton] at hk; subst hk; have h1 := HBS.out; have h2 := C12.out.size; exact .inr (by omega)))
    have HIW := HI.out.keep CW.out
    have HRW := HO.out.rd HIW (by have := HNN.out; omega)
    obtain ⟨hh, hhh⟩ : ∃ z : Pr.Hl, z = ⟨[104], 0, 0, [⟨[108], 0, [⟨[98], List.replicate N x, 0⟩], [], [], [], [], 0⟩]⟩ := ⟨_, rfl⟩
    have HHE := hd hhh
    clear hhh
    have HLV : Hid (RdS 8 Pr.RLv wr (.slice (some ⟨b1, 0, none⟩) 1 1) hh.levels) := hd (by rw [HHE.out]; exact RdS.one HH1.out rfl ⟨_, _, _, _, _, rfl, i64_0, RdS.one HB.out rfl ⟨_, rfl, HRW, by unfold Rch; show (1 : Nat) ≤ _; omega⟩, RdS.nil _ _ _ _ _, RdS.nil _ _ _ _ _, RdS.nil _ _ _ _ _, RdS.nil _ _ _ _ _, by unfold Rch; show (1 : Nat) ≤ _; omega⟩)
    have HSZ : Hid (∀ l ∈ hh.levels, SzL l) := hd (by have h1 := HSM.out; have h2 := HIW.hn; have h3 := HNN.out; rw [HHE.out]; intro l hl; rw [List.mem_singleton] at hl; subst hl; refine ⟨⟨by simp, by simp, by simp, by simp, by simp, by simp⟩, fun y hy => ?_, fun y hy => by simp at hy⟩; rw [List.mem_singleton] at hy; subst hy; refine ⟨by simp, by simp; omega, fun r hr => ?_⟩; rw [List.eq_of_mem_replicate hr]; exact ⟨by omega, by omega⟩)
    have HNM : Hid (hh.name = [104] ∧ hh.sx = 0 ∧ hh.sy = 0 ∧ hh.levels.length = 1) := hd (by rw [HHE.out]; exact ⟨rfl, rfl, rfl, rfl⟩)
    clear HIW HRW
    have k0 := HH2.out.cell (i := 0) rfl
    have k1 := HH2.out.cell (i := 1) rfl
    have k2 := HH2.out.cell (i := 2) rfl
    have k3 := HH2.out.cell (i := 3) rfl
    have HLR := hd (HL.out.quiet CW.out)
    skip
    go_wp2_with fail
    clear hmod z1
    have HH9 : Hid ((Value.agg #[.string ⟨#[104]⟩, .int .i64 0, .int .i64 0, .slice (some ⟨b1, 0, none⟩) 1 1]) = .agg #[.string ⟨hh.name.toArray⟩, .int .i64 hh.sx, .int .i64 hh.sy, .slice (some ⟨b1, 0, none⟩) 1 1]) := hd (by rw [HHE.out])
    rw [HH9.out]
    refine hall_r HLR hh (some ⟨b1, 0, none⟩) 1 1 (hd HNM.out.2.2.2) HLV (hd (by rw [HHE.out]; exact ⟨i64_0, i64_0⟩)) (by omega) (by rw [HNM.out.1]; decide) HSZ (fun w5 h5 => ?_)
    have C5 : Hid (Chg [] wr w5) := hd h5
    clear h5 k0 k1 k2 k3
    obtain ⟨sa, hsa⟩ : ∃ z : ByteArray, z = ⟨(Pr.hall hh).1.toArray⟩ := ⟨_, rfl⟩
    obtain ⟨y1, hy1⟩ : ∃ z : Nat, z = (Pr.hall hh).2 := ⟨_, rfl⟩
    rw [← hsa, ← hy1]
    have HSA := hd hsa
    have HY1 := hd hy1
    clear hsa hy1
    have HH3 := hd (C5.out.blk HH2.out (by simp))
    have k0 := HH3.out.cell (i := 0) rfl
    have k1 := HH3.out.cell (i := 1) rfl
    have k2 := HH3.out.cell (i := 2) rfl
    have k3 := HH3.out.cell (i := 3) rfl
    go_wp2_with fail
    rw [HH9.out]
    refine refHall_r hh (some ⟨b1, 0, none⟩) 1 1 (hd (HLV.out.keep Pr.kq_lv C5.out)) (by rw [HNM.out.1]; decide) HSZ (fun w6 h6 => ?_)
    have C6 : Hid (Chg [] w5 w6) := hd h6
    clear h6 k0 k1 k2 k3
    rw [Pr.refHall_eq, ← HSA.out, ← HY1.out]
    have e3 : ((y1 : Int) == (y1 : Int)) = true := beq_self_eq_true _
    go_wp2_with fail
    exact HRR.out w6 ((CW.out.trans C5.out (by simp)).trans C6.out (by simp))
end Go.Proofs.YtgbooiaedbpenaaDoor
