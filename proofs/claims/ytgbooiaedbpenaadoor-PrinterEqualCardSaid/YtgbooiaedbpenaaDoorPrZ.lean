/-
  Printer, layer 14: ratios of rules.
-/
import Derived.Test.YtgbooiaedbpenaaDoorPrP
namespace Go.Proofs.YtgbooiaedbpenaaDoor
set_option linter.unusedVariables false
set_option linter.unusedSimpArgs false
open Go Go.RowKit Go.Shelf
attribute [local irreducible] Go.wpStill

theorem Wst.ne9 {T : TypeId} {b deep : Nat} {bad : Bool} {out : Bytes} {v : Value} {w : World} (h : Wst T b deep bad out v w) {X : Nat} {cs : List Value} {e : TypeId} (hb : Blk w X cs e) (he : e ≠ 5) : v.ownBlock ≠ some X := by
  obtain ⟨o, h1, _⟩ := h
  exact h1.ne hb he
theorem trim1 (n : Int) : Lib.trimPrefix (Pr.nums [n]) [32] = Lib.itoa n := by
  have e : Pr.nums [n] = 32 :: Lib.itoa n := by simp [Pr.nums]
  rw [e]
  simp [Lib.trimPrefix, Lib.hasPrefix]
set_option maxHeartbeats 4000000 in
set_option maxRecDepth 100000 in
theorem ratio_r {T : TypeId} {w0 : World} (HL : Hid (Laid w0)) {b deep : Nat} (HB0 : Hid (w0.heap.size ≤ b)) {w : World} (HQ : Hid (Chg [] w0 w)) {bad : Bool} {out : Bytes} {v : Value} (HW : Hid (Wst T b deep bad out v w)) (x : Int × Int) (HI : Hid (Pr.I64 x.1 ∧ Pr.I64 x.2)) {R : Ending → World → Prop}
    (h : ∀ w', Wst T b deep (bad || !Pr.ratioOk x) out v w' → Wr b v w v w' → R (.returned (.string ⟨(Pr.ratioS x).toArray⟩)) w') :
    Calls Tryd.prog 53 #[.pointer (some ⟨b, 0, none⟩), .agg #[.int .i64 x.1, .int .i64 x.2]] w R := by
  have HRR := hd h
  clear h
  go_enter Tryd.func53, Tryd.ntmps53
  go_upto_region 1 with (fail)
  obtain ⟨w4, hw4⟩ : ∃ W, W = w.alloc (.cells #[.int .i64 x.1, .int .i64 x.2] 58) := ⟨_, rfl⟩
  rw [← hw4]
  obtain ⟨G, hG⟩ : ∃ X, X = w.heap.size := ⟨_, rfl⟩
  rw [← hG]
  have HG : Hid (Blk w4 G [.int .i64 x.1, .int .i64 x.2] 58) := hd (by rw [hw4, hG]; exact Blk.new w [.int .i64 x.1, .int .i64 x.2] _)
  have C4 : Hid (Chg [] w w4) := hd (by rw [hw4]; exact (Chg.refl _ _).alloc _)
  have NG : G ≠ b := by have := HW.out.lt; omega
  obtain ⟨vj, hvj⟩ : ∃ z, z = v := ⟨_, rfl⟩
  have HWJ4 := hd (HW.out.quiet C4.out)
  rw [← hvj] at HWJ4
  have HVJ := hd hvj
  have HQB : Hid (Chg [] w0 w4) := hd (HQ.out.trans C4.out (by simp))
  have HOB : Hid (∀ k ∈ b :: vj.ownBlock.toList, w0.heap.size ≤ k) := hd (by intro k hk; have h1 := HB0.out; rcases List.mem_cons.1 hk with rfl | hk; exact h1; rw [Option.mem_toList] at hk; have := own_ge HWJ4.out k hk; omega)
  have NGO : G ∉ b :: vj.ownBlock.toList := by simp only [List.mem_cons, Option.mem_toList, not_or]; exact ⟨NG, HWJ4.out.ne9 HG.out (by decide)⟩
  have NGH := hd NGO
  clear hw4 hG NGO hvj
  refine wp_region_held_drew (S := fun W' => Chg (b :: vj.ownBlock.toList) w4 W') (by kernel_rfl) (Chg.refl _ _).drew (fun hHeld => ?_)
  obtain ⟨wd, hwd⟩ : ∃ x, x = w4.drew := ⟨_, rfl⟩
  have CD : Hid (Chg [] w4 wd) := hd (by rw [hwd]; exact (Chg.refl _ _).drew)
  rw [← hwd] at hHeld ⊢
  clear hwd
  have HWd := hd (HWJ4.out.quiet CD.out)
  refine wpAnyH_take (i := 0) (v := ?vr0) rfl (by kernel_rfl) (by kernel_rfl) (by kernel_rfl) (fun _ _ _ h => h) (Or.inl ⟨by kernel_rfl, ?hyr0⟩) (by assumption) ?rsr0
  case hyr0 => (intro w9 hSw; skip; go_simp; try with_reducible rfl)
  try simp only [Act.put, List.setIfInBounds_toArray, List.set_cons_zero, List.set_cons_succ, List.getElem_toArray, List.getElem_cons_succ, List.getElem_cons_zero]
  refine wpAnyH_take (i := 1) (v := ?vr1) rfl (by kernel_rfl) (by kernel_rfl) (by kernel_rfl) (fun _ _ _ h => h) (Or.inl ⟨by kernel_rfl, ?hyr1⟩) (by assumption) ?rsr1
  case hyr1 => (intro w9 hSw; skip; go_simp; try with_reducible rfl)
  try simp only [Act.put, List.setIfInBounds_toArray, List.set_cons_zero, List.set_cons_succ, List.getElem_toArray, List.getElem_cons_succ, List.getElem_cons_zero]
  refine wpAnyH_take (i := 2) (v := ?vr2) rfl (by kernel_rfl) (by kernel_rfl) (by kernel_rfl) (fun _ _ _ h => h) (Or.inl ⟨by kernel_rfl, ?hyr2⟩) (by assumption) ?rsr2
  case hyr2 => (intro w9 hSw; skip; go_simp; try with_reducible rfl)
  try simp only [Act.put, List.setIfInBounds_toArray, List.set_cons_zero, List.set_cons_succ, List.getElem_toArray, List.getElem_cons_succ, List.getElem_cons_zero]
  refine wpAnyH_take (i := 3) (v := ?vr3) rfl (by kernel_rfl) (by kernel_rfl) (by kernel_rfl) (fun _ _ _ h => h) (Or.inl ⟨by kernel_rfl, ?hyr3⟩) (by assumption) ?rsr3
  case hyr3 => (intro w9 hSw; skip; go_simp; try with_reducible rfl)
  try simp only [Act.put, List.setIfInBounds_toArray, List.set_cons_zero, List.set_cons_succ, List.getElem_toArray, List.getElem_cons_succ, List.getElem_cons_zero]
  refine wpAnyH_take (i := 4) (v := ?vr4) rfl (by kernel_rfl) (by kernel_rfl) (by kernel_rfl) (fun _ _ _ h => h) (Or.inl ⟨by kernel_rfl, ?hyr4⟩) (by assumption) ?rsr4
  case hyr4 => (intro w9 hSw; have e0 := cell_quiet hSw (HG.out.cell (i := 0) rfl) NGH.out; go_simp; try with_reducible rfl)
  try simp only [Act.put, List.setIfInBounds_toArray, List.set_cons_zero, List.set_cons_succ, List.getElem_toArray, List.getElem_cons_succ, List.getElem_cons_zero]
  refine wpAnyH_take (i := 8) (v := ?vr8) rfl (by kernel_rfl) (by kernel_rfl) (by kernel_rfl) (fun _ _ _ h => h) (Or.inl ⟨by kernel_rfl, ?hyr8⟩) (by assumption) ?rsr8
  case hyr8 => (intro w9 hSw; skip; go_simp; try with_reducible rfl)
  try simp only [Act.put, List.setIfInBounds_toArray, List.set_cons_zero, List.set_cons_succ, List.getElem_toArray, List.getElem_cons_succ, List.getElem_cons_zero]
  refine wpAnyH_take (i := 9) (v := ?vr9) rfl (by kernel_rfl) (by kernel_rfl) (by kernel_rfl) (fun _ _ _ h => h) (Or.inl ⟨by kernel_rfl, ?hyr9⟩) (by assumption) ?rsr9
  case hyr9 => (intro w9 hSw; skip; go_simp; try with_reducible rfl)
  try simp only [Act.put, List.setIfInBounds_toArray, List.set_cons_zero, List.set_cons_succ, List.getElem_toArray, List.getElem_cons_succ, List.getElem_cons_zero]
  refine wpAnyH_take (i := 10) (v := ?vr10) rfl (by kernel_rfl) (by kernel_rfl) (by kernel_rfl) (fun _ _ _ h => h) (Or.inl ⟨by kernel_rfl, ?hyr10⟩) (by assumption) ?rsr10
  case hyr10 => (intro w9 hSw; skip; go_simp; try with_reducible rfl)
  try simp only [Act.put, List.setIfInBounds_toArray, List.set_cons_zero, List.set_cons_succ, List.getElem_toArray, List.getElem_cons_succ, List.getElem_cons_zero]
  refine wpAnyH_take (i := 11) (v := ?vr11) rfl (by kernel_rfl) (by kernel_rfl) (by kernel_rfl) (fun _ _ _ h => h) (Or.inl ⟨by kernel_rfl, ?hyr11⟩) (by assumption) ?rsr11
  case hyr11 => (intro w9 hSw; skip; go_simp; try with_reducible rfl)
  try simp only [Act.put, List.setIfInBounds_toArray, List.set_cons_zero, List.set_cons_succ, List.getElem_toArray, List.getElem_cons_succ, List.getElem_cons_zero]
  refine wpAnyH_take (i := 12) (v := ?vr12) rfl (by kernel_rfl) (by kernel_rfl) (by kernel_rfl) (fun _ _ _ h => h) (Or.inl ⟨by kernel_rfl, ?hyr12⟩) (by assumption) ?rsr12
  case hyr12 => (intro w9 hSw; have e1 := cell_quiet hSw (HG.out.cell (i := 1) rfl) NGH.out; go_simp; try with_reducible rfl)
  try simp only [Act.put, List.setIfInBounds_toArray, List.set_cons_zero, List.set_cons_succ, List.getElem_toArray, List.getElem_cons_succ, List.getElem_cons_zero]
  refine wpAnyH_ready (rs := [5, 13]) (by kernel_rfl) (by simp) (AllReadyH.cons rfl (fun K hK => ?_) (AllReadyH.cons rfl (fun K hK => ?_) AllReadyH.nil))
  · skip
    go_simp
    obtain ⟨wra1, hw⟩ : ∃ W, W = wd.alloc (.cells #[.int .i64 x.1] 3) := ⟨_, rfl⟩
    rw [← hw]
    obtain ⟨X1, hX⟩ : ∃ X, X = wd.heap.size := ⟨_, rfl⟩
    rw [← hX]
    have HX1 : Hid (Blk wra1 X1 [.int .i64 x.1] 3 ∧ X1 ≠ b) := hd ⟨by rw [hw, hX]; exact Blk.new wd [.int .i64 x.1] _, by have := HWd.out.lt; omega⟩
    have Cw : Hid (Chg [] wd wra1) := hd (by rw [hw]; exact (Chg.refl _ _).alloc _)
    have HWwra1 := hd (HWd.out.quiet Cw.out)
    refine hK.out _ _ (hHeld.trans Cw.out (by simp)) (fun hHeld => ?_)
    clear hK K hw hX
    try simp only [Act.put, List.setIfInBounds_toArray, List.set_cons_zero, List.set_cons_succ, List.getElem_toArray, List.getElem_cons_succ, List.getElem_cons_zero]
    clear Cw
    refine wpAnyH_ready (rs := [6, 13]) (by kernel_rfl) (by simp) (AllReadyH.cons rfl (fun K hK => ?_) (AllReadyH.cons rfl (fun K hK => ?_) AllReadyH.nil))
    · skip
      go_simp
      refine numbers_r HL HB0 (hd ((HQB.out.trans hHeld (fun k hk => .inr (HOB.out k hk))))) HWwra1 [x.1] 1 ⟨rfl, by decide⟩ (by intro q hq; rw [List.mem_singleton] at hq; rw [hq]; exact HI.out.1) HX1.out.1 HX1.out.2 (fun wraa2 h3 h4 => ?_)
      have HWwraa2 := hd h3
      refine hK.out _ _ (hHeld.trans h4 (fun k hk => .inl (by rw [List.mem_singleton] at hk; simp [hk]))) (fun hHeld => ?_)
      clear hK K h3 h4
      try simp only [Act.put, List.setIfInBounds_toArray, List.set_cons_zero, List.set_cons_succ, List.getElem_toArray, List.getElem_cons_succ, List.getElem_cons_zero]
      have gna : (Pr.nums [x.1]).length ≤ 22 := Pr.nums_len [x.1] (by intro q hq; rw [List.mem_singleton] at hq; rw [hq]; exact HI.out.1)
      obtain ⟨na, h9⟩ : ∃ z, z = Pr.nums [x.1] := ⟨_, rfl⟩
      rw [← h9] at gna
      rw [← h9]
      have Hna := hd h9
      clear h9
      have hz : ¬ 9223372036854775807 < na.length + 1 := by omega
      refine wpAnyH_take (i := 7) (v := ?vraa7) rfl (by kernel_rfl) (by kernel_rfl) (by kernel_rfl) (fun _ _ _ h => h) (Or.inl ⟨by kernel_rfl, ?hyraa7⟩) (by assumption) ?rsraa7
      case hyraa7 => (intro w9 hSw; skip; go_simp; try with_reducible rfl)
      try simp only [Act.put, List.setIfInBounds_toArray, List.set_cons_zero, List.set_cons_succ, List.getElem_toArray, List.getElem_cons_succ, List.getElem_cons_zero]
      rw [show (⟨List.toArray na⟩ : ByteArray) ++ ⟨List.toArray ([47] : Bytes)⟩ = ⟨(na ++ ([47] : Bytes)).toArray⟩ from str2 _ _]
      obtain ⟨a1, h9⟩ : ∃ z, z = na ++ ([47] : Bytes) := ⟨_, rfl⟩
      rw [← h9]
      have ga1 : a1.length ≤ 30 := by rw [h9, List.length_append]; show na.length + 1 ≤ _; omega
      have Ha1 := hd h9
      clear h9 hz
      refine wpAnyH_ready (rs := [13]) (by kernel_rfl) (by simp) (AllReadyH.cons rfl (fun K hK => ?_) AllReadyH.nil)
      go_simp
      obtain ⟨wraa3, hw⟩ : ∃ W, W = wraa2.alloc (.cells #[.int .i64 x.2] 3) := ⟨_, rfl⟩
      rw [← hw]
      obtain ⟨X2, hX⟩ : ∃ X, X = wraa2.heap.size := ⟨_, rfl⟩
      rw [← hX]
      have HX2 : Hid (Blk wraa3 X2 [.int .i64 x.2] 3 ∧ X2 ≠ b) := hd ⟨by rw [hw, hX]; exact Blk.new wraa2 [.int .i64 x.2] _, by have := HWwraa2.out.lt; omega⟩
      have Cw : Hid (Chg [] wraa2 wraa3) := hd (by rw [hw]; exact (Chg.refl _ _).alloc _)
      have HWwraa3 := hd (HWwraa2.out.quiet Cw.out)
      refine hK.out _ _ (hHeld.trans Cw.out (by simp)) (fun hHeld => ?_)
      clear hK K hw hX
      try simp only [Act.put, List.setIfInBounds_toArray, List.set_cons_zero, List.set_cons_succ, List.getElem_toArray, List.getElem_cons_succ, List.getElem_cons_zero]
      clear Cw
      refine wpAnyH_ready (rs := [14]) (by kernel_rfl) (by simp) (AllReadyH.cons rfl (fun K hK => ?_) AllReadyH.nil)
      go_simp
      refine numbers_r HL HB0 (hd ((HQB.out.trans hHeld (fun k hk => .inr (HOB.out k hk))))) HWwraa3 [x.2] 1 ⟨rfl, by decide⟩ (by intro q hq; rw [List.mem_singleton] at hq; rw [hq]; exact HI.out.2) HX2.out.1 HX2.out.2 (fun wraa4 h3 h4 => ?_)
      have HWwraa4 := hd h3
      refine hK.out _ _ (hHeld.trans h4 (fun k hk => .inl (by rw [List.mem_singleton] at hk; simp [hk]))) (fun hHeld => ?_)
      clear hK K h3 h4
      try simp only [Act.put, List.setIfInBounds_toArray, List.set_cons_zero, List.set_cons_succ, List.getElem_toArray, List.getElem_cons_succ, List.getElem_cons_zero]
      have gnb : (Pr.nums [x.2]).length ≤ 22 := Pr.nums_len [x.2] (by intro q hq; rw [List.mem_singleton] at hq; rw [hq]; exact HI.out.2)
      obtain ⟨nb, h9⟩ : ∃ z, z = Pr.nums [x.2] := ⟨_, rfl⟩
      rw [← h9] at gnb
      rw [← h9]
      have Hnb := hd h9
      clear h9
      refine wpAnyH_ready (rs := [15]) (by kernel_rfl) (by simp) (AllReadyH.cons rfl (fun K hK => ?_) AllReadyH.nil)
      go_simp
      refine (Tryd.strings_TrimPrefix ⟨nb.toArray⟩ ⟨#[32]⟩ wraa4).mono ?_
      rintro e wraa5 ⟨rfl, hwe⟩
      have hwe := hwe.symm
      subst hwe
      rw [show Lib.trimPrefix (⟨nb.toArray⟩ : ByteArray).data.toList (⟨#[32]⟩ : ByteArray).data.toList = Lib.itoa x.2 from by show Lib.trimPrefix nb [32] = _; rw [Hnb.out]; exact trim1 x.2]
      refine hK.out _ _ hHeld (fun hHeld => ?_)
      clear hK K
      try simp only [Act.put, List.setIfInBounds_toArray, List.set_cons_zero, List.set_cons_succ, List.getElem_toArray, List.getElem_cons_succ, List.getElem_cons_zero]
      have git : (Lib.itoa x.2).length ≤ 21 := Pr.itoa_len x.2 HI.out.2
      obtain ⟨it, h9⟩ : ∃ z, z = Lib.itoa x.2 := ⟨_, rfl⟩
      rw [← h9] at git
      rw [← h9]
      have Hit := hd h9
      clear h9
      have hz : ¬ 9223372036854775807 < a1.length + it.length := by omega
      refine wpAnyH_take (i := 16) (v := ?vraa16) rfl (by kernel_rfl) (by kernel_rfl) (by kernel_rfl) (fun _ _ _ h => h) (Or.inl ⟨by kernel_rfl, ?hyraa16⟩) (by assumption) ?rsraa16
      case hyraa16 => (intro w9 hSw; skip; go_simp; try with_reducible rfl)
      try simp only [Act.put, List.setIfInBounds_toArray, List.set_cons_zero, List.set_cons_succ, List.getElem_toArray, List.getElem_cons_succ, List.getElem_cons_zero]
      rw [show (⟨List.toArray a1⟩ : ByteArray) ++ ⟨List.toArray it⟩ = ⟨(a1 ++ it).toArray⟩ from str2 _ _]
      obtain ⟨a2, h9⟩ : ∃ z, z = a1 ++ it := ⟨_, rfl⟩
      rw [← h9]
      have ga2 : a2.length ≤ 60 := by rw [h9, List.length_append]; show a1.length + it.length ≤ _; omega
      have Ha2 := hd h9
      clear h9 hz
      refine wpAnyH_take (i := 17) (v := ?vraa17) rfl (by kernel_rfl) (by kernel_rfl) (by kernel_rfl) (fun _ _ _ h => h) (Or.inl ⟨by kernel_rfl, ?hyraa17⟩) (by assumption) ?rsraa17
      case hyraa17 => (intro w9 hSw; skip; go_simp; try with_reducible rfl)
      try simp only [Act.put, List.setIfInBounds_toArray, List.set_cons_zero, List.set_cons_succ, List.getElem_toArray, List.getElem_cons_succ, List.getElem_cons_zero]
      refine wpAnyH_done (by kernel_rfl) ?_ _
      try simp only [Act.put, List.setIfInBounds_toArray, List.set_cons_zero, List.set_cons_succ, List.getElem_toArray, List.getElem_cons_succ, List.getElem_cons_zero]
      have HH := hd hHeld
      clear hHeld
      have HF : Hid (Wst T b deep (bad || !Pr.ratioOk x) out v wraa4) := hd (by have h9 := HWwraa4.out; rw [HVJ.out, Bool.or_assoc, ← Bool.not_and] at h9; rw [show Pr.ratioOk x = (Pr.numsOk [x.1] && Pr.numsOk [x.2]) by simp [Pr.ratioOk, Pr.numsOk]]; exact h9)
      have HR5 : Hid (Wr b v w v wraa4) := hd (by have h9 := HH.out; rw [HVJ.out] at h9; exact ⟨(C4.out.mono (by simp)).trans h9 (fun k hk => .inl hk), fun k hk => .inl hk⟩)
      have HS : Hid (a2 = Pr.ratioS x) := hd (by rw [Ha2.out, Ha1.out, Hna.out, Hit.out]; rfl)
      go_wp2_with fail
      rw [HS.out]
      exact HRR.out wraa4 HF.out HR5.out
    · skip
      go_simp
      obtain ⟨wrab2, hw⟩ : ∃ W, W = wra1.alloc (.cells #[.int .i64 x.2] 3) := ⟨_, rfl⟩
      rw [← hw]
      obtain ⟨X2, hX⟩ : ∃ X, X = wra1.heap.size := ⟨_, rfl⟩
      rw [← hX]
      have HX2 : Hid (Blk wrab2 X2 [.int .i64 x.2] 3 ∧ X2 ≠ b) := hd ⟨by rw [hw, hX]; exact Blk.new wra1 [.int .i64 x.2] _, by have := HWwra1.out.lt; omega⟩
      have Cw : Hid (Chg [] wra1 wrab2) := hd (by rw [hw]; exact (Chg.refl _ _).alloc _)
      have HWwrab2 := hd (HWwra1.out.quiet Cw.out)
      refine hK.out _ _ (hHeld.trans Cw.out (by simp)) (fun hHeld => ?_)
      clear hK K hw hX
      try simp only [Act.put, List.setIfInBounds_toArray, List.set_cons_zero, List.set_cons_succ, List.getElem_toArray, List.getElem_cons_succ, List.getElem_cons_zero]
      have HX1 := hd (And.intro (Cw.out.blk HX1.out.1 (by simp)) HX1.out.2)
      clear Cw
      refine wpAnyH_ready (rs := [6]) (by kernel_rfl) (by simp) (AllReadyH.cons rfl (fun K hK => ?_) AllReadyH.nil)
      go_simp
      refine numbers_r HL HB0 (hd ((HQB.out.trans hHeld (fun k hk => .inr (HOB.out k hk))))) HWwrab2 [x.1] 1 ⟨rfl, by decide⟩ (by intro q hq; rw [List.mem_singleton] at hq; rw [hq]; exact HI.out.1) HX1.out.1 HX1.out.2 (fun wrab3 h3 h4 => ?_)
      have HX2 := hd (And.intro (h4.blk HX2.out.1 (by simp [HX2.out.2])) HX2.out.2)
      have HWwrab3 := hd h3
      refine hK.out _ _ (hHeld.trans h4 (fun k hk => .inl (by rw [List.mem_singleton] at hk; simp [hk]))) (fun hHeld => ?_)
      clear hK K h3 h4
      try simp only [Act.put, List.setIfInBounds_toArray, List.set_cons_zero, List.set_cons_succ, List.getElem_toArray, List.getElem_cons_succ, List.getElem_cons_zero]
      have gna : (Pr.nums [x.1]).length ≤ 22 := Pr.nums_len [x.1] (by intro q hq; rw [List.mem_singleton] at hq; rw [hq]; exact HI.out.1)
      obtain ⟨na, h9⟩ : ∃ z, z = Pr.nums [x.1] := ⟨_, rfl⟩
      rw [← h9] at gna
      rw [← h9]
      have Hna := hd h9
      clear h9
      have hz : ¬ 9223372036854775807 < na.length + 1 := by omega
      refine wpAnyH_take (i := 7) (v := ?vrab7) rfl (by kernel_rfl) (by kernel_rfl) (by kernel_rfl) (fun _ _ _ h => h) (Or.inl ⟨by kernel_rfl, ?hyrab7⟩) (by assumption) ?rsrab7
      case hyrab7 => (intro w9 hSw; skip; go_simp; try with_reducible rfl)
      try simp only [Act.put, List.setIfInBounds_toArray, List.set_cons_zero, List.set_cons_succ, List.getElem_toArray, List.getElem_cons_succ, List.getElem_cons_zero]
      rw [show (⟨List.toArray na⟩ : ByteArray) ++ ⟨List.toArray ([47] : Bytes)⟩ = ⟨(na ++ ([47] : Bytes)).toArray⟩ from str2 _ _]
      obtain ⟨a1, h9⟩ : ∃ z, z = na ++ ([47] : Bytes) := ⟨_, rfl⟩
      rw [← h9]
      have ga1 : a1.length ≤ 30 := by rw [h9, List.length_append]; show na.length + 1 ≤ _; omega
      have Ha1 := hd h9
      clear h9 hz
      refine wpAnyH_ready (rs := [14]) (by kernel_rfl) (by simp) (AllReadyH.cons rfl (fun K hK => ?_) AllReadyH.nil)
      go_simp
      refine numbers_r HL HB0 (hd ((HQB.out.trans hHeld (fun k hk => .inr (HOB.out k hk))))) HWwrab3 [x.2] 1 ⟨rfl, by decide⟩ (by intro q hq; rw [List.mem_singleton] at hq; rw [hq]; exact HI.out.2) HX2.out.1 HX2.out.2 (fun wrab4 h3 h4 => ?_)
      have HWwrab4 := hd h3
      refine hK.out _ _ (hHeld.trans h4 (fun k hk => .inl (by rw [List.mem_singleton] at hk; simp [hk]))) (fun hHeld => ?_)
      clear hK K h3 h4
      try simp only [Act.put, List.setIfInBounds_toArray, List.set_cons_zero, List.set_cons_succ, List.getElem_toArray, List.getElem_cons_succ, List.getElem_cons_zero]
      have gnb : (Pr.nums [x.2]).length ≤ 22 := Pr.nums_len [x.2] (by intro q hq; rw [List.mem_singleton] at hq; rw [hq]; exact HI.out.2)
      obtain ⟨nb, h9⟩ : ∃ z, z = Pr.nums [x.2] := ⟨_, rfl⟩
      rw [← h9] at gnb
      rw [← h9]
      have Hnb := hd h9
      clear h9
      refine wpAnyH_ready (rs := [15]) (by kernel_rfl) (by simp) (AllReadyH.cons rfl (fun K hK => ?_) AllReadyH.nil)
      go_simp
      refine (Tryd.strings_TrimPrefix ⟨nb.toArray⟩ ⟨#[32]⟩ wrab4).mono ?_
      rintro e wrab5 ⟨rfl, hwe⟩
      have hwe := hwe.symm
      subst hwe
      rw [show Lib.trimPrefix (⟨nb.toArray⟩ : ByteArray).data.toList (⟨#[32]⟩ : ByteArray).data.toList = Lib.itoa x.2 from by show Lib.trimPrefix nb [32] = _; rw [Hnb.out]; exact trim1 x.2]
      refine hK.out _ _ hHeld (fun hHeld => ?_)
      clear hK K
      try simp only [Act.put, List.setIfInBounds_toArray, List.set_cons_zero, List.set_cons_succ, List.getElem_toArray, List.getElem_cons_succ, List.getElem_cons_zero]
      have git : (Lib.itoa x.2).length ≤ 21 := Pr.itoa_len x.2 HI.out.2
      obtain ⟨it, h9⟩ : ∃ z, z = Lib.itoa x.2 := ⟨_, rfl⟩
      rw [← h9] at git
      rw [← h9]
      have Hit := hd h9
      clear h9
      have hz : ¬ 9223372036854775807 < a1.length + it.length := by omega
      refine wpAnyH_take (i := 16) (v := ?vrab16) rfl (by kernel_rfl) (by kernel_rfl) (by kernel_rfl) (fun _ _ _ h => h) (Or.inl ⟨by kernel_rfl, ?hyrab16⟩) (by assumption) ?rsrab16
      case hyrab16 => (intro w9 hSw; skip; go_simp; try with_reducible rfl)
      try simp only [Act.put, List.setIfInBounds_toArray, List.set_cons_zero, List.set_cons_succ, List.getElem_toArray, List.getElem_cons_succ, List.getElem_cons_zero]
      rw [show (⟨List.toArray a1⟩ : ByteArray) ++ ⟨List.toArray it⟩ = ⟨(a1 ++ it).toArray⟩ from str2 _ _]
      obtain ⟨a2, h9⟩ : ∃ z, z = a1 ++ it := ⟨_, rfl⟩
      rw [← h9]
      have ga2 : a2.length ≤ 60 := by rw [h9, List.length_append]; show a1.length + it.length ≤ _; omega
      have Ha2 := hd h9
      clear h9 hz
      refine wpAnyH_take (i := 17) (v := ?vrab17) rfl (by kernel_rfl) (by kernel_rfl) (by kernel_rfl) (fun _ _ _ h => h) (Or.inl ⟨by kernel_rfl, ?hyrab17⟩) (by assumption) ?rsrab17
      case hyrab17 => (intro w9 hSw; skip; go_simp; try with_reducible rfl)
      try simp only [Act.put, List.setIfInBounds_toArray, List.set_cons_zero, List.set_cons_succ, List.getElem_toArray, List.getElem_cons_succ, List.getElem_cons_zero]
      refine wpAnyH_done (by kernel_rfl) ?_ _
      try simp only [Act.put, List.setIfInBounds_toArray, List.set_cons_zero, List.set_cons_succ, List.getElem_toArray, List.getElem_cons_succ, List.getElem_cons_zero]
      have HH := hd hHeld
      clear hHeld
      have HF : Hid (Wst T b deep (bad || !Pr.ratioOk x) out v wrab4) := hd (by have h9 := HWwrab4.out; rw [HVJ.out, Bool.or_assoc, ← Bool.not_and] at h9; rw [show Pr.ratioOk x = (Pr.numsOk [x.1] && Pr.numsOk [x.2]) by simp [Pr.ratioOk, Pr.numsOk]]; exact h9)
      have HR5 : Hid (Wr b v w v wrab4) := hd (by have h9 := HH.out; rw [HVJ.out] at h9; exact ⟨(C4.out.mono (by simp)).trans h9 (fun k hk => .inl hk), fun k hk => .inl hk⟩)
      have HS : Hid (a2 = Pr.ratioS x) := hd (by rw [Ha2.out, Ha1.out, Hna.out, Hit.out]; rfl)
      go_wp2_with fail
      rw [HS.out]
      exact HRR.out wrab4 HF.out HR5.out
  · skip
    go_simp
    obtain ⟨wrb1, hw⟩ : ∃ W, W = wd.alloc (.cells #[.int .i64 x.2] 3) := ⟨_, rfl⟩
    rw [← hw]
    obtain ⟨X2, hX⟩ : ∃ X, X = wd.heap.size := ⟨_, rfl⟩
    rw [← hX]
    have HX2 : Hid (Blk wrb1 X2 [.int .i64 x.2] 3 ∧ X2 ≠ b) := hd ⟨by rw [hw, hX]; exact Blk.new wd [.int .i64 x.2] _, by have := HWd.out.lt; omega⟩
    have Cw : Hid (Chg [] wd wrb1) := hd (by rw [hw]; exact (Chg.refl _ _).alloc _)
    have HWwrb1 := hd (HWd.out.quiet Cw.out)
    refine hK.out _ _ (hHeld.trans Cw.out (by simp)) (fun hHeld => ?_)
    clear hK K hw hX
    try simp only [Act.put, List.setIfInBounds_toArray, List.set_cons_zero, List.set_cons_succ, List.getElem_toArray, List.getElem_cons_succ, List.getElem_cons_zero]
    clear Cw
    refine wpAnyH_ready (rs := [5]) (by kernel_rfl) (by simp) (AllReadyH.cons rfl (fun K hK => ?_) AllReadyH.nil)
    go_simp
    obtain ⟨wrb2, hw⟩ : ∃ W, W = wrb1.alloc (.cells #[.int .i64 x.1] 3) := ⟨_, rfl⟩
    rw [← hw]
    obtain ⟨X1, hX⟩ : ∃ X, X = wrb1.heap.size := ⟨_, rfl⟩
    rw [← hX]
    have HX1 : Hid (Blk wrb2 X1 [.int .i64 x.1] 3 ∧ X1 ≠ b) := hd ⟨by rw [hw, hX]; exact Blk.new wrb1 [.int .i64 x.1] _, by have := HWwrb1.out.lt; omega⟩
    have Cw : Hid (Chg [] wrb1 wrb2) := hd (by rw [hw]; exact (Chg.refl _ _).alloc _)
    have HWwrb2 := hd (HWwrb1.out.quiet Cw.out)
    refine hK.out _ _ (hHeld.trans Cw.out (by simp)) (fun hHeld => ?_)
    clear hK K hw hX
    try simp only [Act.put, List.setIfInBounds_toArray, List.set_cons_zero, List.set_cons_succ, List.getElem_toArray, List.getElem_cons_succ, List.getElem_cons_zero]
    have HX2 := hd (And.intro (Cw.out.blk HX2.out.1 (by simp)) HX2.out.2)
    clear Cw
    refine wpAnyH_ready (rs := [6]) (by kernel_rfl) (by simp) (AllReadyH.cons rfl (fun K hK => ?_) AllReadyH.nil)
    go_simp
    refine numbers_r HL HB0 (hd ((HQB.out.trans hHeld (fun k hk => .inr (HOB.out k hk))))) HWwrb2 [x.1] 1 ⟨rfl, by decide⟩ (by intro q hq; rw [List.mem_singleton] at hq; rw [hq]; exact HI.out.1) HX1.out.1 HX1.out.2 (fun wrb3 h3 h4 => ?_)
    have HX2 := hd (And.intro (h4.blk HX2.out.1 (by simp [HX2.out.2])) HX2.out.2)
    have HWwrb3 := hd h3
    refine hK.out _ _ (hHeld.trans h4 (fun k hk => .inl (by rw [List.mem_singleton] at hk; simp [hk]))) (fun hHeld => ?_)
    clear hK K h3 h4
    try simp only [Act.put, List.setIfInBounds_toArray, List.set_cons_zero, List.set_cons_succ, List.getElem_toArray, List.getElem_cons_succ, List.getElem_cons_zero]
    have gna : (Pr.nums [x.1]).length ≤ 22 := Pr.nums_len [x.1] (by intro q hq; rw [List.mem_singleton] at hq; rw [hq]; exact HI.out.1)
    obtain ⟨na, h9⟩ : ∃ z, z = Pr.nums [x.1] := ⟨_, rfl⟩
    rw [← h9] at gna
    rw [← h9]
    have Hna := hd h9
    clear h9
    have hz : ¬ 9223372036854775807 < na.length + 1 := by omega
    refine wpAnyH_take (i := 7) (v := ?vrb7) rfl (by kernel_rfl) (by kernel_rfl) (by kernel_rfl) (fun _ _ _ h => h) (Or.inl ⟨by kernel_rfl, ?hyrb7⟩) (by assumption) ?rsrb7
    case hyrb7 => (intro w9 hSw; skip; go_simp; try with_reducible rfl)
    try simp only [Act.put, List.setIfInBounds_toArray, List.set_cons_zero, List.set_cons_succ, List.getElem_toArray, List.getElem_cons_succ, List.getElem_cons_zero]
    rw [show (⟨List.toArray na⟩ : ByteArray) ++ ⟨List.toArray ([47] : Bytes)⟩ = ⟨(na ++ ([47] : Bytes)).toArray⟩ from str2 _ _]
    obtain ⟨a1, h9⟩ : ∃ z, z = na ++ ([47] : Bytes) := ⟨_, rfl⟩
    rw [← h9]
    have ga1 : a1.length ≤ 30 := by rw [h9, List.length_append]; show na.length + 1 ≤ _; omega
    have Ha1 := hd h9
    clear h9 hz
    refine wpAnyH_ready (rs := [14]) (by kernel_rfl) (by simp) (AllReadyH.cons rfl (fun K hK => ?_) AllReadyH.nil)
    go_simp
    refine numbers_r HL HB0 (hd ((HQB.out.trans hHeld (fun k hk => .inr (HOB.out k hk))))) HWwrb3 [x.2] 1 ⟨rfl, by decide⟩ (by intro q hq; rw [List.mem_singleton] at hq; rw [hq]; exact HI.out.2) HX2.out.1 HX2.out.2 (fun wrb4 h3 h4 => ?_)
    have HWwrb4 := hd h3
    refine hK.out _ _ (hHeld.trans h4 (fun k hk => .inl (by rw [List.mem_singleton] at hk; simp [hk]))) (fun hHeld => ?_)
    clear hK K h3 h4
    try simp only [Act.put, List.setIfInBounds_toArray, List.set_cons_zero, List.set_cons_succ, List.getElem_toArray, List.getElem_cons_succ, List.getElem_cons_zero]
    have gnb : (Pr.nums [x.2]).length ≤ 22 := Pr.nums_len [x.2] (by intro q hq; rw [List.mem_singleton] at hq; rw [hq]; exact HI.out.2)
    obtain ⟨nb, h9⟩ : ∃ z, z = Pr.nums [x.2] := ⟨_, rfl⟩
    rw [← h9] at gnb
    rw [← h9]
    have Hnb := hd h9
    clear h9
    refine wpAnyH_ready (rs := [15]) (by kernel_rfl) (by simp) (AllReadyH.cons rfl (fun K hK => ?_) AllReadyH.nil)
    go_simp
    refine (Tryd.strings_TrimPrefix ⟨nb.toArray⟩ ⟨#[32]⟩ wrb4).mono ?_
    rintro e wrb5 ⟨rfl, hwe⟩
    have hwe := hwe.symm
    subst hwe
    rw [show Lib.trimPrefix (⟨nb.toArray⟩ : ByteArray).data.toList (⟨#[32]⟩ : ByteArray).data.toList = Lib.itoa x.2 from by show Lib.trimPrefix nb [32] = _; rw [Hnb.out]; exact trim1 x.2]
    refine hK.out _ _ hHeld (fun hHeld => ?_)
    clear hK K
    try simp only [Act.put, List.setIfInBounds_toArray, List.set_cons_zero, List.set_cons_succ, List.getElem_toArray, List.getElem_cons_succ, List.getElem_cons_zero]
    have git : (Lib.itoa x.2).length ≤ 21 := Pr.itoa_len x.2 HI.out.2
    obtain ⟨it, h9⟩ : ∃ z, z = Lib.itoa x.2 := ⟨_, rfl⟩
    rw [← h9] at git
    rw [← h9]
    have Hit := hd h9
    clear h9
    have hz : ¬ 9223372036854775807 < a1.length + it.length := by omega
    refine wpAnyH_take (i := 16) (v := ?vrb16) rfl (by kernel_rfl) (by kernel_rfl) (by kernel_rfl) (fun _ _ _ h => h) (Or.inl ⟨by kernel_rfl, ?hyrb16⟩) (by assumption) ?rsrb16
    case hyrb16 => (intro w9 hSw; skip; go_simp; try with_reducible rfl)
    try simp only [Act.put, List.setIfInBounds_toArray, List.set_cons_zero, List.set_cons_succ, List.getElem_toArray, List.getElem_cons_succ, List.getElem_cons_zero]
    rw [show (⟨List.toArray a1⟩ : ByteArray) ++ ⟨List.toArray it⟩ = ⟨(a1 ++ it).toArray⟩ from str2 _ _]
    obtain ⟨a2, h9⟩ : ∃ z, z = a1 ++ it := ⟨_, rfl⟩
    rw [← h9]
    have ga2 : a2.length ≤ 60 := by rw [h9, List.length_append]; show a1.length + it.length ≤ _; omega
    have Ha2 := hd h9
    clear h9 hz
    refine wpAnyH_take (i := 17) (v := ?vrb17) rfl (by kernel_rfl) (by kernel_rfl) (by kernel_rfl) (fun _ _ _ h => h) (Or.inl ⟨by kernel_rfl, ?hyrb17⟩) (by assumption) ?rsrb17
    case hyrb17 => (intro w9 hSw; skip; go_simp; try with_reducible rfl)
    try simp only [Act.put, List.setIfInBounds_toArray, List.set_cons_zero, List.set_cons_succ, List.getElem_toArray, List.getElem_cons_succ, List.getElem_cons_zero]
    refine wpAnyH_done (by kernel_rfl) ?_ _
    try simp only [Act.put, List.setIfInBounds_toArray, List.set_cons_zero, List.set_cons_succ, List.getElem_toArray, List.getElem_cons_succ, List.getElem_cons_zero]
    have HH := hd hHeld
    clear hHeld
    have HF : Hid (Wst T b deep (bad || !Pr.ratioOk x) out v wrb4) := hd (by have h9 := HWwrb4.out; rw [HVJ.out, Bool.or_assoc, ← Bool.not_and] at h9; rw [show Pr.ratioOk x = (Pr.numsOk [x.1] && Pr.numsOk [x.2]) by simp [Pr.ratioOk, Pr.numsOk]]; exact h9)
    have HR5 : Hid (Wr b v w v wrb4) := hd (by have h9 := HH.out; rw [HVJ.out] at h9; exact ⟨(C4.out.mono (by simp)).trans h9 (fun k hk => .inl hk), fun k hk => .inl hk⟩)
    have HS : Hid (a2 = Pr.ratioS x) := hd (by rw [Ha2.out, Ha1.out, Hna.out, Hit.out]; rfl)
    go_wp2_with fail
    rw [HS.out]
    exact HRR.out wrb4 HF.out HR5.out
end Go.Proofs.YtgbooiaedbpenaaDoor
