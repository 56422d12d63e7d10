/-
  The law PrinterRefuses, walked.
-/
import Derived.Test.YtgbooiaedbpenaaDoorPrAp
import Derived.Test.YtgbooiaedbpenaaDoorLwPrLi
import Derived.Test.YtgbooiaedbpenaaDoorPrS
import Derived.Deep.DeepCutAuto
namespace Go.Proofs.YtgbooiaedbpenaaDoor
set_option linter.unusedVariables false
set_option linter.unusedSimpArgs false
open Go Go.RowKit Go.Shelf
attribute [local irreducible] Go.wpStill

theorem info_lv8 : ∃ i z, Tryd.prog.info? 50 = some i ∧ i.zero = some z ∧ i.size = 8 ∧ i.bytes = 152 ∧ z.cells.size = 8 := by
  have h : ((Tryd.prog.info? 50).bind (fun i => i.zero.map (fun z => (i.size, i.bytes, z.cells.size)))) = some (8, 152, 8) := by kernel_rfl
  cases hi : Tryd.prog.info? 50 with
  | none => rw [hi] at h; cases h
  | some i =>
    rw [hi] at h
    simp only [Option.bind_some] at h
    cases hz : i.zero with
    | none => rw [hz] at h; cases h
    | some z =>
      rw [hz] at h
      simp only [Option.map_some, Option.some.injEq, Prod.mk.injEq] at h
      exact ⟨i, z, rfl, hz, h⟩
theorem info_it8 : ∃ i z, Tryd.prog.info? 60 = some i ∧ i.zero = some z ∧ i.size = 9 ∧ i.bytes = 96 ∧ z.cells.size = 9 := by
  have h : ((Tryd.prog.info? 60).bind (fun i => i.zero.map (fun z => (i.size, i.bytes, z.cells.size)))) = some (9, 96, 9) := by kernel_rfl
  cases hi : Tryd.prog.info? 60 with
  | none => rw [hi] at h; cases h
  | some i =>
    rw [hi] at h
    simp only [Option.bind_some] at h
    cases hz : i.zero with
    | none => rw [hz] at h; cases h
    | some z =>
      rw [hz] at h
      simp only [Option.map_some, Option.some.injEq, Prod.mk.injEq] at h
      exact ⟨i, z, rfl, hz, h⟩
theorem one_lv {w : World} : ∀ cs y, Pr.RLv w cs y → ∀ u ∈ cs, u.oneCell' = true := by
  rintro cs y ⟨v1, v2, v3, v4, v5, rfl, _, h1, h2, h3, h4, h5, _⟩ u hu
  obtain ⟨_, _, rfl, _⟩ := h1.form
  obtain ⟨_, _, rfl, _⟩ := h2.form
  obtain ⟨_, _, rfl, _⟩ := h3.form
  obtain ⟨_, _, rfl, _⟩ := h4.form
  obtain ⟨_, _, rfl, _⟩ := h5.form
  simp only [List.mem_cons, List.not_mem_nil, or_false] at hu
  rcases hu with rfl | rfl | rfl | rfl | rfl | rfl | rfl | rfl <;> rfl
theorem one_it {w : World} : ∀ cs y, Pr.RItm w cs y → ∀ u ∈ cs, u.oneCell' = true := by
  rintro cs y ⟨v1, rfl, _, _, _, _, _, _, h1, _⟩ u hu
  obtain ⟨_, _, rfl, _⟩ := h1.form
  simp only [List.mem_cons, List.not_mem_nil, or_false] at hu
  rcases hu with rfl | rfl | rfl | rfl | rfl | rfl | rfl | rfl | rfl <;> rfl
namespace Pr
def lvZ : Lv := ⟨[48], 0, [], [], [], [], [], 0⟩
def itB : Itm := ⟨2, [97, 32, 98], [], 0, (0, 0), (0, 0), 0⟩
def itN (k : Int) : Itm := ⟨2, [97], [[⟨[97, 103, 101], 1, [], k, 0⟩]], 0, (0, 0), (0, 0), 0⟩
theorem lvZ_bad : levelOk lvZ = false := by decide
theorem itB_bad : itemOk itB = false := by decide
theorem itN_bad {k : Int} (h : numOk k = false) : itemOk (itN k) = false := by
  have h1 : listOk [⟨[97, 103, 101], 1, [], k, 0⟩] = false := by
    unfold listOk
    rw [show ([⟨[97, 103, 101], 1, [], k, 0⟩] : List Tst).all testOk = false by simp [testOk, h]]
    simp
  unfold itemOk itN
  simp only [List.all_cons, List.all_nil, Bool.and_true, h1, Bool.and_false]
theorem rlv_zero (w : World) : RLv w [.string ⟨#[48]⟩, .int .i64 0, .slice none 0 0, .slice none 0 0, .slice none 0 0, .slice none 0 0, .slice none 0 0, .int .i64 0] lvZ :=
  ⟨_, _, _, _, _, rfl, i64s (by decide), RdS.nil _ _ _ _ _, RdS.nil _ _ _ _ _, RdS.nil _ _ _ _ _, RdS.nil _ _ _ _ _, RdS.nil _ _ _ _ _, by unfold Rch; decide⟩
theorem ritm_b (w : World) : RItm w [.int .i64 2, .string ⟨#[97, 32, 98]⟩, .slice none 0 0, .int .i64 0, .int .i64 0, .int .i64 0, .int .i64 0, .int .i64 0, .int .i64 0] itB :=
  ⟨_, rfl, i64s (by decide), i64s (by decide), i64s (by decide), i64s (by decide), i64s (by decide), i64s (by decide), RdS.nil _ _ _ _ _, by unfold Rch; decide⟩
theorem ritm_n {w : World} {a b : Nat} {k : Int} (hk : I64 k) (hA : Blk w a [.string ⟨#[97, 103, 101]⟩, .int .i64 1, .string ⟨#[]⟩, .int .i64 k, .int .i64 0] 62) (hB : Blk w b [.slice (some ⟨a, 0, none⟩) 1 1] 63) :
    RItm w [.int .i64 2, .string ⟨#[97]⟩, .slice (some ⟨b, 0, none⟩) 1 1, .int .i64 0, .int .i64 0, .int .i64 0, .int .i64 0, .int .i64 0, .int .i64 0] (itN k) :=
  ⟨_, rfl, i64s (n := 2) (by decide), i64s (n := 0) (by decide), i64s (n := 0) (by decide), i64s (n := 0) (by decide), i64s (n := 0) (by decide), i64s (n := 0) (by decide), RdS.one hB rfl ⟨_, rfl, RdS.one hA rfl ⟨rfl, i64s (n := 1) (by decide), hk, by show Rch 3; unfold Rch; decide, by show Rch 0; unfold Rch; decide⟩⟩, by show Rch 1; unfold Rch; decide⟩
end Pr
theorem sz_lvZ : SzL Pr.lvZ := ⟨by decide, by intro x hx; simp [Pr.lvZ] at hx, by intro x hx; simp [Pr.lvZ] at hx⟩
/-- A list with one thing more at its end, or at its beginning. -/
theorem own_one {w : World} {g : Nat} {cs : List Value} {e : TypeId} {C : Nat} (h : Blk w g cs e) (hc : cs.length = C) {B : Nat} (hB : B ≤ g) : w.ownsRow B e C (.slice (some ⟨g, 0, none⟩) 1 1) 1 cs :=
  ⟨by simp [hc], .inr ⟨g, 1, cs.toArray, rfl, hB, h, Nat.le_refl _, by simp [maxLen], by simp [hc], by simp [← hc]⟩⟩
theorem own_none {w : World} {g : Nat} {e : TypeId} {C : Nat} (h : Blk w g [] e) {B : Nat} (hB : B ≤ g) : w.ownsRow B e C (.slice (some ⟨g, 0, none⟩) 0 0) 0 [] :=
  ⟨by simp, .inr ⟨g, 0, #[], rfl, hB, h, Nat.le_refl _, by simp [maxLen], by simp, by simp⟩⟩
set_option maxHeartbeats 4000000 in
set_option maxRecDepth 100000 in
theorem printerRefuses_walk (w : World) (HL : Hid (Laid w)) (h : Pr.Hl) (ao : Option Addr) (cap n : Nat) (HH : Hid (InH w h ao cap n)) (l : List Pr.Itm) (bo : Option Addr) (bc m : Nat) (HI : Hid (InR w l bo bc m)) (k : Int) (hk : -9223372036854775808 ≤ k ∧ k ≤ 9223372036854775807) :
    Calls Tryd.prog 7 #[.agg #[.string ⟨h.name.toArray⟩, .int .i64 h.sx, .int .i64 h.sy, .slice ao n cap], .agg #[.slice bo m bc], .int .i64 k] w fun e w' => e = .returned (.bool true) ∧ Chg [] w w' := by
  suffices H : ∀ {R : Ending → World → Prop}, (∀ w', Chg [] w w' → R (.returned (.bool true)) w') → Calls Tryd.prog 7 #[.agg #[.string ⟨h.name.toArray⟩, .int .i64 h.sx, .int .i64 h.sy, .slice ao n cap], .agg #[.slice bo m bc], .int .i64 k] w R from H (fun w' hc => ⟨rfl, hc⟩)
  intro R hR
  have HRR := hd hR
  have HK : Hid (Pr.I64 k) := hd hk
  clear hR hk
  go_enter Tryd.func7, Tryd.ntmps7
  go_upto_region 1 with (fail)
  obtain ⟨wa, hwa⟩ : ∃ W, W = w.alloc (.cells #[.string ⟨h.name.toArray⟩, .int .i64 h.sx, .int .i64 h.sy, .slice ao n cap] 26) := ⟨_, rfl⟩
  rw [← hwa]
  obtain ⟨w1, hw1⟩ : ∃ W, W = wa.alloc (.cells #[.slice bo m bc] 29) := ⟨_, rfl⟩
  rw [← hw1]
  obtain ⟨B, hB⟩ : ∃ X, X = w.heap.size + 1 := ⟨_, rfl⟩
  rw [← hB]
  obtain ⟨G, hG⟩ : ∃ X, X = w.heap.size := ⟨_, rfl⟩
  rw [← hG]
  have HG : Hid (Blk w1 G [.string ⟨h.name.toArray⟩, .int .i64 h.sx, .int .i64 h.sy, .slice ao n cap] 26) := hd (by rw [hw1, hwa, hG]; exact (Blk.new w [.string ⟨h.name.toArray⟩, .int .i64 h.sx, .int .i64 h.sy, .slice ao n cap] _).alloc _)
  have HB : Hid (Blk w1 B [.slice bo m bc] 29) := hd (by
    have h9 := Blk.new wa [.slice bo m bc] 29
    rw [show wa.heap.size = B by rw [hwa, hB]; simp] at h9
    rw [hw1]
    exact h9)
  have C1 : Hid (Chg [] w w1) := hd (by rw [hw1, hwa]; exact ((Chg.refl _ _).alloc _).alloc _)
  clear hwa hw1 hB hG
  go_wp2_with fail
  refine head_r (hd (HL.out.quiet C1.out)) (fun w2 h2 => ?_)
  have C2 : Hid (Chg [] w1 w2) := hd h2
  clear h2
  go_upto_region 2 with (fail)
  go_cut [39] (fun s39 wx => ∃ q : Bool, s39 = .bool q ∧ Hid (Chg [] w1 wx) ∧ Hid (q = false → ((n ≤ 60 ∧ h.name.length ≤ 60 ∧ ∀ l ∈ h.levels, SzL l) ∧ (m ≤ 60 ∧ ∀ x ∈ l, SzI x)) ∧ Pr.numOk k = false))
  case first =>
    have g0 := (C2.out.blk HG.out (by simp)).cell (i := 0) rfl
    have g1 := (C2.out.blk HG.out (by simp)).cell (i := 1) rfl
    have g2 := (C2.out.blk HG.out (by simp)).cell (i := 2) rfl
    have g3 := (C2.out.blk HG.out (by simp)).cell (i := 3) rfl
    have H2 := HH.out.keep (C1.out.trans C2.out (by simp))
    go_wp2_with fail
    refine few_r h ao cap n (hd H2.hn) (hd H2.hm) H2.hr (fun w3 q h3 hq => ?_)
    have C3 : Hid (Chg [] w1 w3) := hd (C2.out.trans h3 (by simp))
    have HQ1 := hd hq
    clear h3 hq g0 g1 g2 g3 H2 C2
    cases q with
    | false =>
      go_wp2_with fail
      go_meet
      exact ⟨true, rfl, C3, hd (fun e => by cases e)⟩
    | true =>
      have b0 := (C3.out.blk HB.out (by simp)).cell (i := 0) rfl
      have I3 := HI.out.keep (C1.out.trans C3.out (by simp))
      go_wp2_with fail
      refine fewRules_r l bo bc m (hd I3.hn) (hd I3.hm) I3.hr (fun w4 q h4 hq => ?_)
      have C4 : Hid (Chg [] w1 w4) := hd (C3.out.trans h4 (by simp))
      have HQ2 := hd hq
      clear h4 hq b0 I3 C3
      cases q with
      | false =>
        go_wp2_with fail
        go_meet
        exact ⟨true, rfl, C4, hd (fun e => by cases e)⟩
      | true =>
        by_cases hk0 : 0 ≤ k
        · by_cases hk9 : k ≤ 9999999999
          · go_wp2_with fail
            go_meet
            exact ⟨true, by first | rfl | rw [decide_eq_true hk9], C4, hd (fun e => by cases e)⟩
          · have HK9 := hd hk9
            go_wp2_with fail
            go_meet
            exact ⟨false, by first | rfl | rw [decide_eq_false (by have := HK9.out; omega)], C4, hd (fun _ => ⟨⟨HQ1.out (by simp), HQ2.out (by simp)⟩, by unfold Pr.numOk; rw [decide_eq_false (p := k ≤ 9999999999) (by have := HK9.out; omega), Bool.and_false]⟩)⟩
        · have HK0 := hd hk0
          go_wp2_with fail
          go_meet
          exact ⟨false, by first | rfl | rw [decide_eq_false (by have := HK0.out; omega)], C4, hd (fun _ => ⟨⟨HQ1.out (by simp), HQ2.out (by simp)⟩, by unfold Pr.numOk; rw [decide_eq_false (p := 0 ≤ k) (by have := HK0.out; omega), Bool.false_and]⟩)⟩
  case rest =>
    obtain ⟨q, hq, C4, HQ⟩ := hcut
    subst hq
    obtain ⟨w4, hw4⟩ : ∃ z, z = wc := ⟨_, rfl⟩
    rw [← hw4] at C4 ⊢
    clear hw4 C2
    cases q with
    | true =>
      go_wp2_with fail
      exact HRR.out w4 (C1.out.trans C4.out (by simp))
    | false =>
      obtain ⟨⟨⟨t1, t2, t3⟩, t4, t5⟩, t6⟩ := HQ.out (by simp)
      have HT3 := hd t3
      have HT5 := hd t5
      have HNK := hd t6
      clear t3 t5 t6 HQ
      have g0 := (C4.out.blk HG.out (by simp)).cell (i := 0) rfl
      have g1 := (C4.out.blk HG.out (by simp)).cell (i := 1) rfl
      have g2 := (C4.out.blk HG.out (by simp)).cell (i := 2) rfl
      have g3 := (C4.out.blk HG.out (by simp)).cell (i := 3) rfl
      go_upto_region 5 with (fail)
      obtain ⟨w5, hw⟩ : ∃ W, W = w4.alloc (.cells #[.string ⟨h.name.toArray⟩, .int .i64 h.sx, .int .i64 h.sy, .slice ao n cap] 26) := ⟨_, rfl⟩
      rw [← hw]
      obtain ⟨O, hX⟩ : ∃ X, X = w4.heap.size := ⟨_, rfl⟩
      rw [← hX]
      have HO : Hid (Blk w5 O [.string ⟨h.name.toArray⟩, .int .i64 h.sx, .int .i64 h.sy, .slice ao n cap] 26) := hd (by rw [hw, hX]; exact Blk.new w4 [.string ⟨h.name.toArray⟩, .int .i64 h.sx, .int .i64 h.sy, .slice ao n cap] _)
      have Cw5 : Hid (Chg [] w1 w5) := hd (by rw [hw]; exact C4.out.alloc _)
      have XO : Hid (w1.heap.size ≤ O) := hd (by rw [hX]; exact C4.out.size)
      clear hw hX
      clear g0 g1 g2 g3
      have o2 := HO.out.cell (i := 2) rfl
      have p2 := HO.out.free 2
      go_upto_region 6 with (fail)
      clear o2 p2
      obtain ⟨w6, hw⟩ : ∃ W, W = w5.setCell ⟨O, 2, none⟩ (.int .i64 k) := ⟨_, rfl⟩
      rw [← hw]
      have HO : Hid (Blk w6 O [.string ⟨h.name.toArray⟩, .int .i64 h.sx, .int .i64 k, .slice ao n cap] 26) := hd (by rw [hw]; exact HO.out.set 2 (.int .i64 k))
      have Cw6 : Hid (Chg [] w1 w6) := hd (by rw [hw]; exact Cw5.out.setCell _ _ (.inr XO.out))
      clear hw
      have g0 := (Cw6.out.blk HG.out (by simp)).cell (i := 0) rfl
      have g1 := (Cw6.out.blk HG.out (by simp)).cell (i := 1) rfl
      have g2 := (Cw6.out.blk HG.out (by simp)).cell (i := 2) rfl
      have g3 := (Cw6.out.blk HG.out (by simp)).cell (i := 3) rfl
      go_upto_region 7 with (fail)
      obtain ⟨w7, hw⟩ : ∃ W, W = w6.alloc (.cells #[.string ⟨h.name.toArray⟩, .int .i64 h.sx, .int .i64 h.sy, .slice ao n cap] 26) := ⟨_, rfl⟩
      rw [← hw]
      obtain ⟨T, hX⟩ : ∃ X, X = w6.heap.size := ⟨_, rfl⟩
      rw [← hX]
      have HT : Hid (Blk w7 T [.string ⟨h.name.toArray⟩, .int .i64 h.sx, .int .i64 h.sy, .slice ao n cap] 26) := hd (by rw [hw, hX]; exact Blk.new w6 [.string ⟨h.name.toArray⟩, .int .i64 h.sx, .int .i64 h.sy, .slice ao n cap] _)
      have Cw7 : Hid (Chg [] w1 w7) := hd (by rw [hw]; exact Cw6.out.alloc _)
      have XT : Hid (w1.heap.size ≤ T) := hd (by rw [hX]; exact Cw6.out.size)
      have NOT : O ≠ T := by have h1 := HO.out.lt; omega
      have HO := hd (HO.out.alloc (.cells #[.string ⟨h.name.toArray⟩, .int .i64 h.sx, .int .i64 h.sy, .slice ao n cap] 26))
      rw [← hw] at HO
      clear hw hX
      clear g0 g1 g2 g3
      have o0 := HT.out.cell (i := 0) rfl
      have p0 := HT.out.free 0
      have z1 : ¬ 9223372036854775807 < h.name.length + 1 := by omega
      go_upto_region 8 with (fail)
      clear o0 p0 z1
      rw [show (⟨List.toArray h.name⟩ : ByteArray) ++ ⟨#[45]⟩ = ⟨(h.name ++ [45]).toArray⟩ from str2 _ _]
      obtain ⟨w8, hw⟩ : ∃ W, W = w7.setCell ⟨T, 0, none⟩ (.string ⟨(h.name ++ [45]).toArray⟩) := ⟨_, rfl⟩
      rw [← hw]
      have HT : Hid (Blk w8 T [.string ⟨(h.name ++ [45]).toArray⟩, .int .i64 h.sx, .int .i64 h.sy, .slice ao n cap] 26) := hd (by rw [hw]; exact HT.out.set 0 (.string ⟨(h.name ++ [45]).toArray⟩))
      have Cw8 : Hid (Chg [] w1 w8) := hd (by rw [hw]; exact Cw7.out.setCell _ _ (.inr XT.out))
      have HO := hd (HO.out.other ⟨T, 0, none⟩ (.string ⟨(h.name ++ [45]).toArray⟩) NOT)
      rw [← hw] at HO
      clear hw
      have g0 := (Cw8.out.blk HG.out (by simp)).cell (i := 0) rfl
      have g1 := (Cw8.out.blk HG.out (by simp)).cell (i := 1) rfl
      have g2 := (Cw8.out.blk HG.out (by simp)).cell (i := 2) rfl
      have g3 := (Cw8.out.blk HG.out (by simp)).cell (i := 3) rfl
      go_upto_region 9 with (fail)
      obtain ⟨w9, hw⟩ : ∃ W, W = w8.alloc (.cells #[.string ⟨h.name.toArray⟩, .int .i64 h.sx, .int .i64 h.sy, .slice ao n cap] 26) := ⟨_, rfl⟩
      rw [← hw]
      obtain ⟨U, hX⟩ : ∃ X, X = w8.heap.size := ⟨_, rfl⟩
      rw [← hX]
      have HU : Hid (Blk w9 U [.string ⟨h.name.toArray⟩, .int .i64 h.sx, .int .i64 h.sy, .slice ao n cap] 26) := hd (by rw [hw, hX]; exact Blk.new w8 [.string ⟨h.name.toArray⟩, .int .i64 h.sx, .int .i64 h.sy, .slice ao n cap] _)
      have Cw9 : Hid (Chg [] w1 w9) := hd (by rw [hw]; exact Cw8.out.alloc _)
      have XU : Hid (w1.heap.size ≤ U) := hd (by rw [hX]; exact Cw8.out.size)
      have NOU : O ≠ U := by have h1 := HO.out.lt; omega
      have HO := hd (HO.out.alloc (.cells #[.string ⟨h.name.toArray⟩, .int .i64 h.sx, .int .i64 h.sy, .slice ao n cap] 26))
      rw [← hw] at HO
      have NTU : T ≠ U := by have h1 := HT.out.lt; omega
      have HT := hd (HT.out.alloc (.cells #[.string ⟨h.name.toArray⟩, .int .i64 h.sx, .int .i64 h.sy, .slice ao n cap] 26))
      rw [← hw] at HT
      clear hw hX
      clear g0 g1 g2 g3
      have g0 := (Cw9.out.blk HG.out (by simp)).cell (i := 0) rfl
      have g1 := (Cw9.out.blk HG.out (by simp)).cell (i := 1) rfl
      have g2 := (Cw9.out.blk HG.out (by simp)).cell (i := 2) rfl
      have g3 := (Cw9.out.blk HG.out (by simp)).cell (i := 3) rfl
      obtain ⟨il, zl, hil, zl1, zl2, zl3, zl4⟩ := info_lv8
      have HIL := hd (And.intro hil (And.intro zl1 (And.intro zl2 (And.intro zl3 zl4))))
      clear hil zl1 zl2 zl3 zl4
      have NL := HH.out.hn
      have HNL := hd NL
      clear NL
      have HKE : Hid (Chg [] w1 (w9.alloc (.cells #[] 50))) := hd (Cw9.out.alloc _)
      have KO : Hid (Blk (w9.alloc (.cells #[] 50)) O [.string ⟨h.name.toArray⟩, .int .i64 h.sx, .int .i64 k, .slice ao n cap] 26) := hd (HO.out.alloc _)
      have KT : Hid (Blk (w9.alloc (.cells #[] 50)) T [.string ⟨(h.name ++ [45]).toArray⟩, .int .i64 h.sx, .int .i64 h.sy, .slice ao n cap] 26) := hd (HT.out.alloc _)
      have KU : Hid (Blk (w9.alloc (.cells #[] 50)) U [.string ⟨h.name.toArray⟩, .int .i64 h.sx, .int .i64 h.sy, .slice ao n cap] 26) := hd (HU.out.alloc _)
      have HNE : Hid (O ≠ w9.heap.size ∧ T ≠ w9.heap.size ∧ U ≠ w9.heap.size) := hd ⟨by have := HO.out.lt; omega, by have := HT.out.lt; omega, by have := HU.out.lt; omega⟩
      have HEB : Hid (w1.heap.size ≤ w9.heap.size) := hd Cw9.out.size
      have ge3 := (HKE.out.blk HG.out (by simp)).cell (i := 3) rfl
      go_wp2_with (at_builtin; refine wpList_app rfl (.tmp 51) (.tmp 53) 24 rfl w9.heap.size 50 il zl 8 152 Tryd.underlying24 HIL.out.1 HIL.out.2.1 HIL.out.2.2.1 HIL.out.2.2.2.1 HIL.out.2.2.2.2 (by decide) w9.heap.size 0 0 [] rfl (own_none (Blk.new w9 [] 50) (Nat.le_refl _)) rfl w (C1.out.trans HKE.out (by simp)) HH.out.hm one_lv (by rw [HNL.out]; unfold maxLen; omega) (by rw [HNL.out]; omega) (by simp) ?kk)
      case kk =>
        intro x1 c1 w10 css k1 k2 k3 k4 k5
        try rw [HNL.out] at k4
        try rw [HNL.out]
        try rw [Nat.zero_add] at k4
        try rw [Nat.zero_add]
        try rw [List.nil_append] at k4
        have C95 := hd (chg_grown9 k5)
        have C10 : Hid (Chg [] w1 w10) := hd (HKE.out.trans C95.out (fun q hq => .inr (by rw [List.mem_singleton] at hq; rw [hq]; exact HEB.out)))
        have JO := hd (C95.out.blk KO.out (by simp [HNE.out.1]))
        have JT := hd (C95.out.blk KT.out (by simp [HNE.out.2.1]))
        have JU := hd (C95.out.blk KU.out (by simp [HNE.out.2.2]))
        have K1 := hd (And.intro k1 (And.intro k2 (And.intro k3 k4)))
        clear k1 k2 k3 k4 k5 KO KT KU HNE HKE
        have HKF : Hid (Chg [] w1 (w10.alloc (.cells #[.string ⟨#[48]⟩, .int .i64 0, .slice none 0 0, .slice none 0 0, .slice none 0 0, .slice none 0 0, .slice none 0 0, .int .i64 0] 50))) := hd (C10.out.alloc _)
        have C10F : Hid (Chg [] w10 (w10.alloc (.cells #[.string ⟨#[48]⟩, .int .i64 0, .slice none 0 0, .slice none 0 0, .slice none 0 0, .slice none 0 0, .slice none 0 0, .int .i64 0] 50))) := hd ((Chg.refl _ _).alloc _)
        have KO : Hid (Blk (w10.alloc (.cells #[.string ⟨#[48]⟩, .int .i64 0, .slice none 0 0, .slice none 0 0, .slice none 0 0, .slice none 0 0, .slice none 0 0, .int .i64 0] 50)) O [.string ⟨h.name.toArray⟩, .int .i64 h.sx, .int .i64 k, .slice ao n cap] 26) := hd (JO.out.alloc _)
        have KT : Hid (Blk (w10.alloc (.cells #[.string ⟨#[48]⟩, .int .i64 0, .slice none 0 0, .slice none 0 0, .slice none 0 0, .slice none 0 0, .slice none 0 0, .int .i64 0] 50)) T [.string ⟨(h.name ++ [45]).toArray⟩, .int .i64 h.sx, .int .i64 h.sy, .slice ao n cap] 26) := hd (JT.out.alloc _)
        have KU : Hid (Blk (w10.alloc (.cells #[.string ⟨#[48]⟩, .int .i64 0, .slice none 0 0, .slice none 0 0, .slice none 0 0, .slice none 0 0, .slice none 0 0, .int .i64 0] 50)) U [.string ⟨h.name.toArray⟩, .int .i64 h.sx, .int .i64 h.sy, .slice ao n cap] 26) := hd (JU.out.alloc _)
        have HXB : Hid (w9.heap.size ≤ x1) := hd (by rcases K1.out.2.2.2.2 with ⟨he, _⟩ | ⟨g', cap', cur, he, hB, _⟩; cases he; cases he; exact hB)
        have HXO : Hid (O < x1 ∧ T < x1 ∧ U < x1) := hd ⟨by have := HO.out.lt; have := HXB.out; omega, by have := HT.out.lt; have := HXB.out; omega, by have := HU.out.lt; have := HXB.out; omega⟩
        have HB10 : Hid (w9.heap.size ≤ (w10.alloc (.cells #[.string ⟨#[48]⟩, .int .i64 0, .slice none 0 0, .slice none 0 0, .slice none 0 0, .slice none 0 0, .slice none 0 0, .int .i64 0] 50)).heap.size) := hd (by have h1 := C95.out.size; have h2 := C10F.out.size; simp at h1; omega)
        have HRF : Hid (RdS 8 Pr.RLv (w10.alloc (.cells #[.string ⟨#[48]⟩, .int .i64 0, .slice none 0 0, .slice none 0 0, .slice none 0 0, .slice none 0 0, .slice none 0 0, .int .i64 0] 50)) (.slice (some ⟨w10.heap.size, 0, none⟩) 1 1) [Pr.lvZ]) := hd (RdS.one (Blk.new w10 [.string ⟨#[48]⟩, .int .i64 0, .slice none 0 0, .slice none 0 0, .slice none 0 0, .slice none 0 0, .slice none 0 0, .int .i64 0] 50) rfl (Pr.rlv_zero _))
        have HOW : Hid ((w10.alloc (.cells #[.string ⟨#[48]⟩, .int .i64 0, .slice none 0 0, .slice none 0 0, .slice none 0 0, .slice none 0 0, .slice none 0 0, .int .i64 0] 50)).ownsRow w9.heap.size 50 8 (.slice (some ⟨x1, 0, none⟩) n c1) n css.flatten) := hd (owns_keep K1.out.2.2.2 C10F.out (fun q hq => by simp))
        go_wp2_with (at_builtin; refine wpList_app rfl (.tmp 54) (.tmp 56) 24 rfl w9.heap.size 50 il zl 8 152 Tryd.underlying24 HIL.out.1 HIL.out.2.1 HIL.out.2.2.1 HIL.out.2.2.2.1 HIL.out.2.2.2.2 (by decide) x1 n c1 css.flatten rfl HOW.out rfl _ (Chg.refl _ _) HRF.out one_lv (by simp only [List.length_singleton]; unfold maxLen; omega) (by simp only [List.length_singleton]; omega) HB10.out ?kl)
        case kl =>
          intro x2 c2 w11 css2 k1 k2 k3 k4 k5
          try rw [List.length_singleton] at k4
          try rw [List.length_singleton]
          have C115 := hd (chg_grown9 k5)
          have C11 : Hid (Chg [] w1 w11) := hd (HKF.out.trans C115.out (fun q hq => .inr (by rw [List.mem_singleton] at hq; rw [hq]; exact Nat.le_trans HEB.out HXB.out)))
          have JO := hd (C115.out.blk KO.out (by have := HXO.out.1; simp; omega))
          have JT := hd (C115.out.blk KT.out (by have := HXO.out.2.1; simp; omega))
          have JU := hd (C115.out.blk KU.out (by have := HXO.out.2.2; simp; omega))
          have K2 := hd (And.intro k1 (And.intro k2 (And.intro k3 k4)))
          clear k1 k2 k3 k4 k5 KO KT KU HOW HRF HKF C10F C95 C115 C10 HXO HXB HB10 HEB HO HT HU
          have u3 := JU.out.cell (i := 3) rfl
          have v3 := JU.out.free 3
          go_upto_region 10 with (fail)
          clear u3 v3 g0 g1 g2 g3
          obtain ⟨w12, hw⟩ : ∃ W, W = w11.setCell ⟨U, 3, none⟩ (.slice (some ⟨x2, 0, none⟩) (n + 1) c2) := ⟨_, rfl⟩
          rw [← hw]
          have HU : Hid (Blk w12 U [.string ⟨h.name.toArray⟩, .int .i64 h.sx, .int .i64 h.sy, .slice (some ⟨x2, 0, none⟩) (n + 1) c2] 26) := hd (by rw [hw]; exact JU.out.set 3 _)
          have C12 : Hid (Chg [U] w11 w12) := hd (by rw [hw]; exact (Chg.refl _ _).setCell _ _ (.inl (by simp)))
          have HO := hd (C12.out.blk JO.out (by simp [NOU]))
          have HT := hd (C12.out.blk JT.out (by simp [NTU]))
          have CX : Hid (Chg [] w1 w12) := hd (C11.out.since C12.out XU.out)
          clear hw
          have HOX : Hid (w12.ownsRow w9.heap.size 50 8 (.slice (some ⟨x2, 0, none⟩) (n + 1) c2) (n + 1) (css.flatten ++ css2.flatten)) := hd (owns_keep K2.out.2.2.2 C12.out (fun q hq => by
            simp only [Value.ownBlock, Option.some.injEq] at hq
            subst hq
            rcases K2.out.2.2.2.2 with ⟨he, _⟩ | ⟨g', cap', cur, he, hB, hg, _⟩
            · cases he
            · cases he
              rw [List.mem_singleton]
              intro e
              rw [e] at hg
              have h9 := JU.out
              unfold Blk at h9
              rw [hg] at h9
              injection h9 with h9
              injection h9 with _ h9 _
              exact absurd h9 (by decide)))
          have HRL : Hid (RdS 8 Pr.RLv w12 (.slice (some ⟨x2, 0, none⟩) (n + 1) c2) (h.levels ++ [Pr.lvZ])) := hd (by
            refine RdS.of_own (css := css ++ css2) (by rw [List.flatten_append]; exact HOX.out) (by rw [List.length_append, List.length_append, K1.out.1, K2.out.1]; try rfl) (by rw [List.length_append, HNL.out]; rfl) (by unfold Rch; omega) (fun cs hcs => by rcases List.mem_append.1 hcs with h1 | h1; exact K1.out.2.1 cs h1; exact K2.out.2.1 cs h1) (fun i x cs hx hcs => ?_)
            rw [List.getElem?_append] at hx hcs
            rw [K1.out.1] at hcs
            split at hx
            · rename_i hi
              rw [if_pos hi] at hcs
              exact Pr.kq_lv _ _ _ _ (C1.out.trans CX.out (by simp)) (K1.out.2.2.1 i x cs hx hcs)
            · rename_i hi
              rw [if_neg hi] at hcs
              have hx9 : x = Pr.lvZ := by
                have := List.mem_of_getElem? hx
                rwa [List.mem_singleton] at this
              have hr9 := K2.out.2.2.1 _ x cs hx hcs
              rw [hx9] at hr9 ⊢
              obtain ⟨v1, v2, v3, v4, v5, e, i0, e1, e2, e3, e4, e5, en⟩ := hr9
              exact ⟨v1, v2, v3, v4, v5, e, i0, RdS.empty e1, RdS.empty e2, RdS.empty e3, RdS.empty e4, RdS.empty e5, en⟩)
          clear K1 K2 HOX JO JT JU C11 C12
          have o0 := HO.out.cell (i := 0) rfl
          have o1 := HO.out.cell (i := 1) rfl
          have o2 := HO.out.cell (i := 2) rfl
          have o3 := HO.out.cell (i := 3) rfl
          go_wp2_with fail
          clear o0 o1 o2 o3
          refine hall_r (hd (HL.out.quiet (C1.out.trans CX.out (by simp)))) { h with sy := k } ao cap n (hd HH.out.hn) (hd (HH.out.keep (C1.out.trans CX.out (by simp))).hm) (hd ⟨HH.out.hi.1, HK.out⟩) (by omega) (by show h.name.length ≤ 1000; omega) HT3 (fun w13 hx => ?_)
          have CH := hd hx
          clear hx
          have Cw13 : Hid (Chg [] w1 w13) := hd (CX.out.trans CH.out (by simp))
          have HRL13 := hd (HRL.out.keep Pr.kq_lv CH.out)
          have HT := hd (CH.out.blk HT.out (by simp))
          have HU := hd (CH.out.blk HU.out (by simp))
          clear CH
          rw [show (Pr.hall { h with sy := k }).2 = 1 by rw [Pr.refuse_stage HNK.out]]
          obtain ⟨zw13, hz⟩ : ∃ z : ByteArray, z = ⟨(Pr.hall { h with sy := k }).1.toArray⟩ := ⟨_, rfl⟩
          rw [← hz]
          clear hz
          have o0 := HT.out.cell (i := 0) rfl
          have o1 := HT.out.cell (i := 1) rfl
          have o2 := HT.out.cell (i := 2) rfl
          have o3 := HT.out.cell (i := 3) rfl
          go_wp2_with fail
          clear o0 o1 o2 o3
          refine hall_r (hd (HL.out.quiet (C1.out.trans Cw13.out (by simp)))) { h with name := h.name ++ [45] } ao cap n (hd HH.out.hn) (hd (HH.out.keep (C1.out.trans Cw13.out (by simp))).hm) (hd HH.out.hi) (by omega) (by show (h.name ++ [45]).length ≤ 1000; rw [List.length_append]; simp only [List.length_singleton]; omega) HT3 (fun w14 hx => ?_)
          have CH := hd hx
          clear hx
          have Cw14 : Hid (Chg [] w1 w14) := hd (Cw13.out.trans CH.out (by simp))
          have HRL14 := hd (HRL13.out.keep Pr.kq_lv CH.out)
          have HU := hd (CH.out.blk HU.out (by simp))
          clear CH
          rw [show (Pr.hall { h with name := h.name ++ [45] }).2 = 1 by rw [Pr.refuse_name]]
          obtain ⟨zw14, hz⟩ : ∃ z : ByteArray, z = ⟨(Pr.hall { h with name := h.name ++ [45] }).1.toArray⟩ := ⟨_, rfl⟩
          rw [← hz]
          clear hz
          have o0 := HU.out.cell (i := 0) rfl
          have o1 := HU.out.cell (i := 1) rfl
          have o2 := HU.out.cell (i := 2) rfl
          have o3 := HU.out.cell (i := 3) rfl
          go_wp2_with fail
          clear o0 o1 o2 o3
          refine hall_r (hd (HL.out.quiet (C1.out.trans Cw14.out (by simp)))) { h with levels := h.levels ++ [Pr.lvZ] } (some ⟨x2, 0, none⟩) c2 (n + 1) (hd (by show (h.levels ++ [Pr.lvZ]).length = n + 1; rw [List.length_append, HNL.out]; rfl)) HRL14 (hd HH.out.hi) (by omega) (by show h.name.length ≤ 1000; omega) (hd (fun x hx => by rcases List.mem_append.1 hx with h1 | h1; exact HT3.out x h1; rw [List.mem_singleton] at h1; rw [h1]; exact sz_lvZ)) (fun w15 hx => ?_)
          have CH := hd hx
          clear hx
          have Cw15 : Hid (Chg [] w1 w15) := hd (Cw14.out.trans CH.out (by simp))
          clear CH
          rw [show (Pr.hall { h with levels := h.levels ++ [Pr.lvZ] }).2 = 1 by rw [Pr.refuse_level Pr.lvZ_bad]]
          obtain ⟨zw15, hz⟩ : ∃ z : ByteArray, z = ⟨(Pr.hall { h with levels := h.levels ++ [Pr.lvZ] }).1.toArray⟩ := ⟨_, rfl⟩
          rw [← hz]
          clear hz
          clear HRL HRL13 HRL14 HO HT HU HT3
          obtain ⟨ii, zi, hil, zl1, zl2, zl3, zl4⟩ := info_it8
          have HII := hd (And.intro hil (And.intro zl1 (And.intro zl2 (And.intro zl3 zl4))))
          clear hil zl1 zl2 zl3 zl4 HIL
          have HNI := hd HI.out.hn
          have b0 := (Cw15.out.blk HB.out (by simp)).cell (i := 0) rfl
          have CK : Hid (Chg [] w1 (w15.alloc (.cells #[.int .i64 2, .string ⟨#[97, 32, 98]⟩, .slice none 0 0, .int .i64 0, .int .i64 0, .int .i64 0, .int .i64 0, .int .i64 0, .int .i64 0] 60))) := hd (Cw15.out.alloc _)
          have be0 := (CK.out.blk HB.out (by simp)).cell (i := 0) rfl
          go_wp2_with (at_builtin; refine wpList_app rfl (.tmp 75) (.tmp 77) 27 rfl w15.heap.size 60 ii zi 9 96 Tryd.underlying27 HII.out.1 HII.out.2.1 HII.out.2.2.1 HII.out.2.2.2.1 HII.out.2.2.2.2 (by decide) w15.heap.size 1 1 [.int .i64 2, .string ⟨#[97, 32, 98]⟩, .slice none 0 0, .int .i64 0, .int .i64 0, .int .i64 0, .int .i64 0, .int .i64 0, .int .i64 0] rfl (own_one (Blk.new w15 [.int .i64 2, .string ⟨#[97, 32, 98]⟩, .slice none 0 0, .int .i64 0, .int .i64 0, .int .i64 0, .int .i64 0, .int .i64 0, .int .i64 0] 60) rfl (Nat.le_refl _)) rfl w (C1.out.trans CK.out (by simp)) HI.out.hm one_it (by rw [HNI.out]; unfold maxLen; omega) (by rw [HNI.out]; omega) (by simp) ?km)
          case km =>
            intro x3 c3 w16 css k1 k2 k3 k4 k5
            try rw [HNI.out] at k4
            try rw [HNI.out]
            have C16 : Hid (Chg [] w1 w16) := hd (CK.out.trans (chg_grown9 k5) (fun q hq => .inr (by rw [List.mem_singleton] at hq; rw [hq]; exact Cw15.out.size)))
            have HR4 : Hid (RdS 9 Pr.RItm w16 (.slice (some ⟨x3, 0, none⟩) (1 + m) c3) (Pr.itB :: l)) := hd (by
              refine RdS.of_own (css := [.int .i64 2, .string ⟨#[97, 32, 98]⟩, .slice none 0 0, .int .i64 0, .int .i64 0, .int .i64 0, .int .i64 0, .int .i64 0, .int .i64 0] :: css) (by rw [List.flatten_cons]; exact k4) (by rw [List.length_cons, List.length_cons, k1]) (by rw [List.length_cons, HNI.out]; omega) (by unfold Rch; omega) (fun cs hcs => by rcases List.mem_cons.1 hcs with h1 | h1; rw [h1]; rfl; exact k2 cs h1) (fun i x cs hx hcs => ?_)
              cases i with
              | zero => simp at hx hcs; subst hx hcs; exact Pr.ritm_b _
              | succ i => exact Pr.kq_itm _ _ _ _ (C1.out.trans C16.out (by simp)) (k3 i x cs (by simpa using hx) (by simpa using hcs)))
            clear k1 k2 k3 k4 k5 CK
            obtain ⟨m1, hm1⟩ : ∃ z, z = 1 + m := ⟨_, rfl⟩
            rw [← hm1] at HR4 ⊢
            have HM1 := hd hm1
            have hm2 : m1 ≤ 61 := by omega
            clear hm1 b0
            go_upto_region 14 with (fail)
            obtain ⟨w17, hw⟩ : ∃ W, W = w16.alloc (.cells #[.slice (some ⟨x3, 0, none⟩) m1 c3] 29) := ⟨_, rfl⟩
            rw [← hw]
            obtain ⟨P4, hX⟩ : ∃ X, X = w16.heap.size := ⟨_, rfl⟩
            rw [← hX]
            have HP4 : Hid (Blk w17 P4 [.slice (some ⟨x3, 0, none⟩) m1 c3] 29) := hd (by rw [hw, hX]; exact Blk.new w16 [.slice (some ⟨x3, 0, none⟩) m1 c3] _)
            have C17 : Hid (Chg [] w1 w17) := hd (by rw [hw]; exact C16.out.alloc _)
            have HR5 := hd (HR4.out.keep Pr.kq_itm (show Chg [] w16 w17 by rw [hw]; exact (Chg.refl _ _).alloc _))
            clear hw hX HR4
            have b0 := (C17.out.blk HB.out (by simp)).cell (i := 0) rfl
            have CK : Hid (Chg [] w1 (((w17.alloc (.cells #[.string ⟨#[97, 103, 101]⟩, .int .i64 1, .string ⟨#[]⟩, .int .i64 k, .int .i64 0] 62)).alloc (.cells #[.slice (some ⟨w17.heap.size, 0, none⟩) 1 1] 63)).alloc (.cells #[.int .i64 2, .string ⟨#[97]⟩, .slice (some ⟨(w17.heap.size + 1), 0, none⟩) 1 1, .int .i64 0, .int .i64 0, .int .i64 0, .int .i64 0, .int .i64 0, .int .i64 0] 60))) := hd (((C17.out.alloc _).alloc _).alloc _)
            have CK17 : Hid (Chg [] w17 (((w17.alloc (.cells #[.string ⟨#[97, 103, 101]⟩, .int .i64 1, .string ⟨#[]⟩, .int .i64 k, .int .i64 0] 62)).alloc (.cells #[.slice (some ⟨w17.heap.size, 0, none⟩) 1 1] 63)).alloc (.cells #[.int .i64 2, .string ⟨#[97]⟩, .slice (some ⟨(w17.heap.size + 1), 0, none⟩) 1 1, .int .i64 0, .int .i64 0, .int .i64 0, .int .i64 0, .int .i64 0, .int .i64 0] 60))) := hd ((((Chg.refl _ _).alloc _).alloc _).alloc _)
            have KA : Hid (Blk (((w17.alloc (.cells #[.string ⟨#[97, 103, 101]⟩, .int .i64 1, .string ⟨#[]⟩, .int .i64 k, .int .i64 0] 62)).alloc (.cells #[.slice (some ⟨w17.heap.size, 0, none⟩) 1 1] 63)).alloc (.cells #[.int .i64 2, .string ⟨#[97]⟩, .slice (some ⟨(w17.heap.size + 1), 0, none⟩) 1 1, .int .i64 0, .int .i64 0, .int .i64 0, .int .i64 0, .int .i64 0, .int .i64 0] 60)) w17.heap.size [.string ⟨#[97, 103, 101]⟩, .int .i64 1, .string ⟨#[]⟩, .int .i64 k, .int .i64 0] 62) := hd (((Blk.new w17 [.string ⟨#[97, 103, 101]⟩, .int .i64 1, .string ⟨#[]⟩, .int .i64 k, .int .i64 0] 62).alloc _).alloc _)
            have KB : Hid (Blk (((w17.alloc (.cells #[.string ⟨#[97, 103, 101]⟩, .int .i64 1, .string ⟨#[]⟩, .int .i64 k, .int .i64 0] 62)).alloc (.cells #[.slice (some ⟨w17.heap.size, 0, none⟩) 1 1] 63)).alloc (.cells #[.int .i64 2, .string ⟨#[97]⟩, .slice (some ⟨(w17.heap.size + 1), 0, none⟩) 1 1, .int .i64 0, .int .i64 0, .int .i64 0, .int .i64 0, .int .i64 0, .int .i64 0] 60)) (w17.heap.size + 1) [.slice (some ⟨w17.heap.size, 0, none⟩) 1 1] 63) := hd (by have h9 := (Blk.new (w17.alloc (.cells #[.string ⟨#[97, 103, 101]⟩, .int .i64 1, .string ⟨#[]⟩, .int .i64 k, .int .i64 0] 62)) [.slice (some ⟨w17.heap.size, 0, none⟩) 1 1] 63).alloc (.cells #[.int .i64 2, .string ⟨#[97]⟩, .slice (some ⟨(w17.heap.size + 1), 0, none⟩) 1 1, .int .i64 0, .int .i64 0, .int .i64 0, .int .i64 0, .int .i64 0, .int .i64 0] 60); simpa using h9)
            have KC : Hid (Blk (((w17.alloc (.cells #[.string ⟨#[97, 103, 101]⟩, .int .i64 1, .string ⟨#[]⟩, .int .i64 k, .int .i64 0] 62)).alloc (.cells #[.slice (some ⟨w17.heap.size, 0, none⟩) 1 1] 63)).alloc (.cells #[.int .i64 2, .string ⟨#[97]⟩, .slice (some ⟨(w17.heap.size + 1), 0, none⟩) 1 1, .int .i64 0, .int .i64 0, .int .i64 0, .int .i64 0, .int .i64 0, .int .i64 0] 60)) (w17.heap.size + 2) [.int .i64 2, .string ⟨#[97]⟩, .slice (some ⟨(w17.heap.size + 1), 0, none⟩) 1 1, .int .i64 0, .int .i64 0, .int .i64 0, .int .i64 0, .int .i64 0, .int .i64 0] 60) := hd (by have h9 := Blk.new ((w17.alloc (.cells #[.string ⟨#[97, 103, 101]⟩, .int .i64 1, .string ⟨#[]⟩, .int .i64 k, .int .i64 0] 62)).alloc (.cells #[.slice (some ⟨w17.heap.size, 0, none⟩) 1 1] 63)) [.int .i64 2, .string ⟨#[97]⟩, .slice (some ⟨(w17.heap.size + 1), 0, none⟩) 1 1, .int .i64 0, .int .i64 0, .int .i64 0, .int .i64 0, .int .i64 0, .int .i64 0] 60; simpa using h9)
            have HSZ : Hid (w17.heap.size + 2 ≤ (((w17.alloc (.cells #[.string ⟨#[97, 103, 101]⟩, .int .i64 1, .string ⟨#[]⟩, .int .i64 k, .int .i64 0] 62)).alloc (.cells #[.slice (some ⟨w17.heap.size, 0, none⟩) 1 1] 63)).alloc (.cells #[.int .i64 2, .string ⟨#[97]⟩, .slice (some ⟨(w17.heap.size + 1), 0, none⟩) 1 1, .int .i64 0, .int .i64 0, .int .i64 0, .int .i64 0, .int .i64 0, .int .i64 0] 60)).heap.size ∧ w1.heap.size ≤ w17.heap.size) := hd ⟨by simp, C17.out.size⟩
            have KP : Hid (Blk (((w17.alloc (.cells #[.string ⟨#[97, 103, 101]⟩, .int .i64 1, .string ⟨#[]⟩, .int .i64 k, .int .i64 0] 62)).alloc (.cells #[.slice (some ⟨w17.heap.size, 0, none⟩) 1 1] 63)).alloc (.cells #[.int .i64 2, .string ⟨#[97]⟩, .slice (some ⟨(w17.heap.size + 1), 0, none⟩) 1 1, .int .i64 0, .int .i64 0, .int .i64 0, .int .i64 0, .int .i64 0, .int .i64 0] 60)) P4 [.slice (some ⟨x3, 0, none⟩) m1 c3] 29) := hd (CK17.out.blk HP4.out (by simp))
            have HPL : Hid (P4 < w17.heap.size) := hd HP4.out.lt
            have HR6 := hd (HR5.out.keep Pr.kq_itm CK17.out)
            have be0 := (CK.out.blk HB.out (by simp)).cell (i := 0) rfl
            go_wp2_with (at_builtin; refine wpList_app rfl (.tmp 85) (.tmp 87) 27 rfl (w17.heap.size + 2) 60 ii zi 9 96 Tryd.underlying27 HII.out.1 HII.out.2.1 HII.out.2.2.1 HII.out.2.2.2.1 HII.out.2.2.2.2 (by decide) (w17.heap.size + 2) 1 1 [.int .i64 2, .string ⟨#[97]⟩, .slice (some ⟨(w17.heap.size + 1), 0, none⟩) 1 1, .int .i64 0, .int .i64 0, .int .i64 0, .int .i64 0, .int .i64 0, .int .i64 0] rfl (own_one KC.out rfl (Nat.le_refl _)) rfl w (C1.out.trans CK.out (by simp)) HI.out.hm one_it (by rw [HNI.out]; unfold maxLen; omega) (by rw [HNI.out]; omega) HSZ.out.1 ?kn)
            case kn =>
              intro x4 c4 w18 css k1 k2 k3 k4 k5
              try rw [HNI.out] at k4
              try rw [HNI.out]
              have CG5 := hd (chg_grown9 k5)
              have C18 : Hid (Chg [] w1 w18) := hd (CK.out.trans CG5.out (fun q hq => .inr (by rw [List.mem_singleton] at hq; rw [hq]; have := HSZ.out.2; omega)))
              have KA2 := hd (CG5.out.blk KA.out (by simp))
              have KB2 := hd (CG5.out.blk KB.out (by simp))
              have KP2 := hd (CG5.out.blk KP.out (by have := HPL.out; simp; omega))
              have HR7 : Hid (RdS 9 Pr.RItm w18 (.slice (some ⟨x4, 0, none⟩) (1 + m) c4) (Pr.itN k :: l)) := hd (by
                refine RdS.of_own (css := [.int .i64 2, .string ⟨#[97]⟩, .slice (some ⟨(w17.heap.size + 1), 0, none⟩) 1 1, .int .i64 0, .int .i64 0, .int .i64 0, .int .i64 0, .int .i64 0, .int .i64 0] :: css) (by rw [List.flatten_cons]; exact k4) (by rw [List.length_cons, List.length_cons, k1]) (by rw [List.length_cons, HNI.out]; omega) (by unfold Rch; omega) (fun cs hcs => by rcases List.mem_cons.1 hcs with h1 | h1; rw [h1]; rfl; exact k2 cs h1) (fun i x cs hx hcs => ?_)
                cases i with
                | zero =>
                  simp at hx hcs
                  subst hx hcs
                  exact Pr.ritm_n HK.out KA2.out KB2.out
                | succ i => exact Pr.kq_itm _ _ _ _ (C1.out.trans C18.out (by simp)) (k3 i x cs (by simpa using hx) (by simpa using hcs)))
              have C178 : Hid (Chg [] w17 w18) := hd (CK17.out.trans CG5.out (fun q hq => .inr (by rw [List.mem_singleton] at hq; rw [hq]; omega)))
              have HR8 := hd (HR5.out.keep Pr.kq_itm C178.out)
              clear k1 k2 k3 k4 k5 CK CK17 KA KB KC KA2 KB2 KP HR5 HR6 CG5 C178 HSZ b0
              obtain ⟨m3, hm3⟩ : ∃ z, z = 1 + m := ⟨_, rfl⟩
              rw [← hm3] at HR7 ⊢
              have HM3 := hd hm3
              have hm4 : m3 ≤ 61 := by omega
              clear hm3
              go_upto_region 15 with (fail)
              obtain ⟨w19, hw⟩ : ∃ W, W = w18.alloc (.cells #[.slice (some ⟨x4, 0, none⟩) m3 c4] 29) := ⟨_, rfl⟩
              rw [← hw]
              obtain ⟨P5, hX⟩ : ∃ X, X = w18.heap.size := ⟨_, rfl⟩
              rw [← hX]
              have HP5 : Hid (Blk w19 P5 [.slice (some ⟨x4, 0, none⟩) m3 c4] 29) := hd (by rw [hw, hX]; exact Blk.new w18 [.slice (some ⟨x4, 0, none⟩) m3 c4] _)
              have C189 : Hid (Chg [] w18 w19) := hd (by rw [hw]; exact (Chg.refl _ _).alloc _)
              have C19 : Hid (Chg [] w1 w19) := hd (C18.out.trans C189.out (by simp))
              have HR9 := hd (HR8.out.keep Pr.kq_itm C189.out)
              have HR0 := hd (HR7.out.keep Pr.kq_itm C189.out)
              have HP9 := hd (C189.out.blk KP2.out (by simp))
              clear hw hX HR7 HR8 KP2 C189
              have o0 := HP9.out.cell (i := 0) rfl
              go_wp2_with fail
              clear o0
              refine rules_r (hd (HL.out.quiet (C1.out.trans C19.out (by simp)))) (Pr.itB :: l) (some ⟨x3, 0, none⟩) c3 m1 (hd (by rw [List.length_cons, HNI.out, HM1.out]; omega)) HR9 (by omega) (hd (fun x hx => by rcases List.mem_cons.1 hx with rfl | h1; exact ⟨by decide, fun y hy => by simp [Pr.itB] at hy⟩; exact HT5.out x h1)) (fun w20 hx => ?_)
              have CH := hd hx
              clear hx
              have C20 : Hid (Chg [] w1 w20) := hd (C19.out.trans CH.out (by simp))
              have HQ5 := hd (CH.out.blk HP5.out (by simp))
              have HR1 := hd (HR0.out.keep Pr.kq_itm CH.out)
              clear CH HR9 HR0 HP9 HP5
              rw [show (Pr.rules (Pr.itB :: l)).2 = 1 by rw [Pr.refuse_item Pr.itB_bad]]
              obtain ⟨z20, hz⟩ : ∃ z : ByteArray, z = ⟨(Pr.rules (Pr.itB :: l)).1.toArray⟩ := ⟨_, rfl⟩
              rw [← hz]
              clear hz
              have o0 := HQ5.out.cell (i := 0) rfl
              go_wp2_with fail
              clear o0
              refine rules_r (hd (HL.out.quiet (C1.out.trans C20.out (by simp)))) (Pr.itN k :: l) (some ⟨x4, 0, none⟩) c4 m3 (hd (by rw [List.length_cons, HNI.out, HM3.out]; omega)) HR1 (by omega) (hd (fun x hx => by rcases List.mem_cons.1 hx with rfl | h1; exact ⟨by simp [Pr.itN], fun y hy t ht => by simp only [Pr.itN, List.mem_singleton] at hy; rw [hy] at ht; rw [List.mem_singleton] at ht; rw [ht]; exact ⟨by simp, by simp⟩⟩; exact HT5.out x h1)) (fun w21 hx => ?_)
              have C21 : Hid (Chg [] w1 w21) := hd (C20.out.trans hx (by simp))
              clear hx
              rw [show (Pr.rules (Pr.itN k :: l)).2 = 1 by rw [Pr.refuse_item (Pr.itN_bad HNK.out)]]
              obtain ⟨z21, hz⟩ : ∃ z : ByteArray, z = ⟨(Pr.rules (Pr.itN k :: l)).1.toArray⟩ := ⟨_, rfl⟩
              rw [← hz]
              clear hz
              go_wp2_with fail
              exact HRR.out w21 (C1.out.trans C21.out (by simp))
end Go.Proofs.YtgbooiaedbpenaaDoor
