/-
 Printer, the reference: halls that can be written; four numbers.
-/
import Derived.Test.YtgbooiaedbpenaaDoorPrTc
namespace Go.Proofs.YtgbooiaedbpenaaDoor
set_option linter.unusedVariables false
set_option linter.unusedSimpArgs false
open Go Go.RowKit Go.Shelf
attribute [local irreducible] Go.wpStill
theorem hall_parts (h : Pr.Hl) : Pr.hallOk h = false ↔ Pr.nameOk h.name = false ∨ Pr.numsOk [h.sx, h.sy] = false ∨ h.levels.all Pr.levelOk = false := by
 simp only [Pr.hallOk, Bool.and_eq_false_iff, or_assoc]
set_option maxHeartbeats 8000000 in
set_option maxRecDepth 100000 in
theorem hall8_r {w0 w : World} (HQ : Hid (Chg [] w0 w)) (h : Pr.Hl) (p : Option Addr) (k n : Nat) (HM : Hid (RdS 8 Pr.RLv w0 (.slice p n k) h.levels)) (bn : h.name.length ≤ 1000) (HSL : Hid (∀ l ∈ h.levels, SzL l)) {R : Ending → World → Prop} (hR : ∀ w', Chg [] w w' → R (.returned (.bool (Pr.hallOk h))) w') :
 Calls Tryd.prog 25 #[.agg #[.string ⟨h.name.toArray⟩, .int .i64 h.sx, .int .i64 h.sy, .slice p n k]] w R := by
 have HRR := hd hR
 clear hR
 obtain ⟨u0, v0, s0⟩ := HM.out.cp
 have HN := hd s0
 clear s0
 go_enter Tryd.func25, Tryd.ntmps25
 go_upto_region 1 with (fail)
 obtain ⟨w1, hw⟩ : ∃ W, W = w.alloc (.cells #[.string ⟨h.name.toArray⟩, .int .i64 h.sx, .int .i64 h.sy, .slice p n k] 26) := ⟨_, rfl⟩
 rw [← hw]
 obtain ⟨G, hX⟩ : ∃ X, X = w.heap.size := ⟨_, rfl⟩
 rw [← hX]
 have HG : Hid (Blk w1 G [.string ⟨h.name.toArray⟩, .int .i64 h.sx, .int .i64 h.sy, .slice p n k] 26) := hd (by rw [hw, hX]; exact Blk.new w [.string ⟨h.name.toArray⟩, .int .i64 h.sx, .int .i64 h.sy, .slice p n k] _)
 have C1 : Hid (Chg [] w w1) := hd (by rw [hw]; exact (Chg.refl _ _).alloc _)
 clear hw hX
 have g0 := HG.out.cell (i := 0) rfl
 have g1 := HG.out.cell (i := 1) rfl
 have g2 := HG.out.cell (i := 2) rfl
 go_wp2_with fail
 refine name8_r h.name (by omega) ?_
 obtain ⟨q, hq⟩ : ∃ q, q = Pr.nameOk h.name := ⟨_, rfl⟩
 rw [← hq]
 have Hq := hd hq.symm
 clear hq
 cases q with
 | false =>
  have HF : Hid (Pr.hallOk h = false) := hd ((hall_parts h).2 (.inl (Hq.out)))
  go_wp2_with fail
  have h9 := HRR.out w1 (C1.out)
  rw [HF.out] at h9
  exact h9
 | true =>
  go_wp2_with fail
  refine number_r [h.sx, h.sy] 2 ⟨rfl, by decide⟩ (hd (Blk.new w1 [.int .i64 h.sx, .int .i64 h.sy] 3)) ?_
  obtain ⟨w2, hw⟩ : ∃ W, W = w1.alloc (.cells #[.int .i64 h.sx, .int .i64 h.sy] 3) := ⟨_, rfl⟩
  rw [← hw]
  have C2 : Hid (Chg [] w1 w2) := hd (by rw [hw]; exact (Chg.refl _ _).alloc _)
  clear hw
  obtain ⟨q2, hq⟩ : ∃ q, q = Pr.numsOk [h.sx, h.sy] := ⟨_, rfl⟩
  rw [← hq]
  have Hq2 := hd hq.symm
  clear hq
  cases q2 with
  | false =>
   have HF : Hid (Pr.hallOk h = false) := hd ((hall_parts h).2 (.inr (.inl (Hq2.out))))
   go_wp2_with fail
   have h9 := HRR.out w2 (C1.out.trans C2.out (by simp))
   rw [HF.out] at h9
   exact h9
  | true =>
   have C12 : Hid (Chg [] w w2) := hd (C1.out.trans C2.out (by simp))
   have HG2 := hd (C2.out.blk HG.out (by simp))
   have HQ2 : Hid (Chg [] w0 w2) := hd (HQ.out.trans C12.out (by simp))
   clear g0 g1 g2
   go_wp2_with fail
   go_loopw [3] (fun i0 wr => ∃ j : Nat, i0 = .int .i64 (j : Int) ∧ j ≤ n ∧ Hid (Chg [] w2 wr) ∧ Hid ((h.levels.take j).all Pr.levelOk = true)) (fun i0 _ => n - intN i0)
   case atStart => exact ⟨0, rfl, Nat.zero_le _, hd (Chg.refl _ _), hd rfl⟩
   case round =>
    obtain ⟨j, rfl, hj, HC, HO⟩ := hrel
    have x3 := (HC.out.blk HG2.out (by simp)).cell (i := 3) rfl
    by_cases hlt : j < n
    · skip
      have z0 : (0 : Int) ≤ (j : Int) := by omega
      have z1 : (j : Int) < (n : Int) := by omega
      have z2 : (j : Int) ≤ (k : Int) := by omega
      have HQR : Hid (Chg [] w0 wr) := hd (HQ2.out.trans HC.out (by simp))
      obtain ⟨x, g, og, cs, hx, ha, -, ⟨u1, u2, u3, u4, u5, hcs, i0, h0, h1, h2, h3, h4, -⟩, hcc⟩ := HM.out.at_ HQR.out (j := j) (by rw [HN.out]; exact hlt)
      subst ha
      obtain ⟨p0, k0, rfl, _, _⟩ := h0.form
      obtain ⟨n0, hn0⟩ : ∃ z, z = x.blocks.length := ⟨_, rfl⟩
      rw [← hn0] at h0 hcs
      obtain ⟨p1, k1, rfl, _, _⟩ := h1.form
      obtain ⟨n1, hn1⟩ : ∃ z, z = x.areas.length := ⟨_, rfl⟩
      rw [← hn1] at h1 hcs
      obtain ⟨p2, k2, rfl, _, _⟩ := h2.form
      obtain ⟨n2, hn2⟩ : ∃ z, z = x.aisles.length := ⟨_, rfl⟩
      rw [← hn2] at h2 hcs
      obtain ⟨p3, k3, rfl, _, _⟩ := h3.form
      obtain ⟨n3, hn3⟩ : ∃ z, z = x.pillars.length := ⟨_, rfl⟩
      rw [← hn3] at h3 hcs
      obtain ⟨p4, k4, rfl, _, _⟩ := h4.form
      obtain ⟨n4, hn4⟩ : ∃ z, z = x.doors.length := ⟨_, rfl⟩
      rw [← hn4] at h4 hcs
      have HLR : Hid (LvR w0 x p0 p1 p2 p3 p4 n0 n1 n2 n3 n4 k0 k1 k2 k3 k4) := hd ⟨h0, h1, h2, h3, h4⟩
      have c0 : wr.cell? ⟨g, og + j * 8, none⟩ = some (.string ⟨x.name.toArray⟩) := by have h9 := hcc 0 _ (by rw [hcs]; rfl); simpa [Pr.iv, Pr.sv] using h9
      have c1 : wr.cell? ⟨g, og + j * 8 + 1, none⟩ = some (.int .i64 x.height) := by have h9 := hcc 1 _ (by rw [hcs]; rfl); simpa [Pr.iv, Pr.sv] using h9
      have c2 : wr.cell? ⟨g, og + j * 8 + 2, none⟩ = some (.slice p0 n0 k0) := by have h9 := hcc 2 _ (by rw [hcs]; rfl); simpa [Pr.iv, Pr.sv] using h9
      have c3 : wr.cell? ⟨g, og + j * 8 + 3, none⟩ = some (.slice p1 n1 k1) := by have h9 := hcc 3 _ (by rw [hcs]; rfl); simpa [Pr.iv, Pr.sv] using h9
      have c4 : wr.cell? ⟨g, og + j * 8 + 4, none⟩ = some (.slice p2 n2 k2) := by have h9 := hcc 4 _ (by rw [hcs]; rfl); simpa [Pr.iv, Pr.sv] using h9
      have c5 : wr.cell? ⟨g, og + j * 8 + 5, none⟩ = some (.slice p3 n3 k3) := by have h9 := hcc 5 _ (by rw [hcs]; rfl); simpa [Pr.iv, Pr.sv] using h9
      have c6 : wr.cell? ⟨g, og + j * 8 + 6, none⟩ = some (.slice p4 n4 k4) := by have h9 := hcc 6 _ (by rw [hcs]; rfl); simpa [Pr.iv, Pr.sv] using h9
      have c7 : wr.cell? ⟨g, og + j * 8 + 7, none⟩ = some (.int .i64 x.at_) := by have h9 := hcc 7 _ (by rw [hcs]; rfl); simpa [Pr.iv, Pr.sv] using h9
      have HX := hd hx
      clear hcs hcc h0 h1 h2 h3 h4 i0
      have HZ := hd (HSL.out x (List.mem_of_getElem? HX.out))
      clear hx hn0 hn1 hn2 hn3 hn4
      go_wp2_with fail
      refine level8_r HQR x p0 p1 p2 p3 p4 n0 n1 n2 n3 n4 k0 k1 k2 k3 k4 HLR HZ (fun wy hy => ?_)
      have HCY : Hid (Chg [] w2 wy) := hd (HC.out.trans hy (by simp))
      clear hy c0 c1 c2 c3 c4 c5 c6 c7
      obtain ⟨q, hq⟩ : ∃ q, q = Pr.levelOk x := ⟨_, rfl⟩
      rw [← hq]
      have Hql := hd hq.symm
      clear hq
      cases q with
      | false =>
       have HF : Hid (Pr.hallOk h = false) := hd ((hall_parts h).2 (.inr (.inr ((all_bad HX.out Hql.out)))))
       go_wp2_with fail
       have h9 := HRR.out wy (C12.out.trans HCY.out (by simp))
       rw [HF.out] at h9
       exact h9
      | true =>
       go_wp2_with fail
       go_roundw
       case rel => first | exact ⟨j + 1, vint (by omega), by omega, HCY, hd (all_step HX.out HO.out Hql.out)⟩ | ((repeat apply Exists.intro); exact ⟨⟨j + 1, vint (by omega), by omega, HCY, hd (all_step HX.out HO.out Hql.out)⟩, rfl⟩)
       case measure => simp [intN]; omega
    · skip
      have z1 : ¬ (j : Int) < (n : Int) := by omega
      have HL : Hid (h.levels.all Pr.levelOk = true) := hd (all_fin (by rw [HN.out]; omega) HO.out)
      have HE : Hid (Pr.hallOk h = true) := hd (by unfold Pr.hallOk; rw [Hq.out, Hq2.out, HL.out]; rfl)
      go_wp2_with fail
      have h9 := HRR.out wr (C12.out.trans HC.out (by simp))
      rw [HE.out] at h9
      exact h9
/-- Four numbers behind a text. -/
theorem rect8_r {w : World} (s : Bytes) (hs : s.length ≤ 100000000) (x : Pr.Bx) (HK : Hid (Pr.boxOk x = true)) {R : Ending → World → Prop} (h : ∀ w', Chg [] w w' → R (.returned (.string ⟨(s ++ Pr.nums (Pr.boxN x)).toArray⟩)) w') : Calls Tryd.prog 50 #[.string ⟨s.toArray⟩, .agg #[.int .i64 x.x, .int .i64 x.y, .int .i64 x.x2, .int .i64 x.y2]] w R := by
 have HRR := hd h
 clear h
 go_enter Tryd.func50, Tryd.ntmps50
 go_upto_region 1 with (fail)
 obtain ⟨w1, hw⟩ : ∃ W, W = w.alloc (.cells #[.int .i64 x.x, .int .i64 x.y, .int .i64 x.x2, .int .i64 x.y2] 68) := ⟨_, rfl⟩
 rw [← hw]
 obtain ⟨G, hX⟩ : ∃ X, X = w.heap.size := ⟨_, rfl⟩
 rw [← hX]
 have HG : Hid (Blk w1 G [.int .i64 x.x, .int .i64 x.y, .int .i64 x.x2, .int .i64 x.y2] 68) := hd (by rw [hw, hX]; exact Blk.new w [.int .i64 x.x, .int .i64 x.y, .int .i64 x.x2, .int .i64 x.y2] _)
 have C1 : Hid (Chg [] w w1) := hd (by rw [hw]; exact (Chg.refl _ _).alloc _)
 clear hw hX
 have g0 := HG.out.cell (i := 0) rfl
 have g1 := HG.out.cell (i := 1) rfl
 have g2 := HG.out.cell (i := 2) rfl
 have g3 := HG.out.cell (i := 3) rfl
 go_wp2_with fail
 refine words8_r s hs [x.x, x.y, x.x2, x.y2] 4 ⟨rfl, by decide⟩ HK (hd (Blk.new w1 [.int .i64 x.x, .int .i64 x.y, .int .i64 x.x2, .int .i64 x.y2] 3)) ?_
 obtain ⟨w2, hw⟩ : ∃ W, W = w1.alloc (.cells #[.int .i64 x.x, .int .i64 x.y, .int .i64 x.x2, .int .i64 x.y2] 3) := ⟨_, rfl⟩
 rw [← hw]
 have C2 : Hid (Chg [] w1 w2) := hd (by rw [hw]; exact (Chg.refl _ _).alloc _)
 clear hw g0 g1 g2 g3
 go_wp2_with fail
 exact HRR.out w2 (C1.out.trans C2.out (by simp))
end Go.Proofs.YtgbooiaedbpenaaDoor
