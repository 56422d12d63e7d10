/-
 Printer, the reference: rectangles and rows that can be written.
-/
import Derived.Test.YtgbooiaedbpenaaDoorPrTa
import Derived.Test.YtgbooiaedbpenaaDoorPrIn
import Derived.Deep.DeepCutAuto
namespace Go.Proofs.YtgbooiaedbpenaaDoor
set_option linter.unusedVariables false
set_option linter.unusedSimpArgs false
open Go Go.RowKit Go.Shelf
attribute [local irreducible] Go.wpStill
theorem box8_r {w : World} (x : Pr.Bx) {R : Ending → World → Prop} (h : ∀ w', Chg [] w w' → R (.returned (.bool (Pr.boxOk x))) w') : Calls Tryd.prog 69 #[.agg #[.int .i64 x.x, .int .i64 x.y, .int .i64 x.x2, .int .i64 x.y2]] w R := by
 have HRR := hd h
 clear h
 go_enter Tryd.func69, Tryd.ntmps69
 go_upto_region 1 with (fail)
 obtain ⟨w1, hw⟩ : ∃ W, W = w.alloc (.cells #[.int .i64 x.x, .int .i64 x.y, .int .i64 x.x2, .int .i64 x.y2] 68) := ⟨_, rfl⟩
 rw [← hw]
 obtain ⟨G, hX⟩ : ∃ X, X = w.heap.size := ⟨_, rfl⟩
 rw [← hX]
 have HG : Hid (Blk w1 G [.int .i64 x.x, .int .i64 x.y, .int .i64 x.x2, .int .i64 x.y2] 68) := hd (by rw [hw, hX]; exact Blk.new w [.int .i64 x.x, .int .i64 x.y, .int .i64 x.x2, .int .i64 x.y2] _)
 have C1 : Hid (Chg [] w w1) := hd (by rw [hw]; exact (Chg.refl _ _).alloc _)
 clear hw hX
 have g0 := HG.out.cell (i := 0) rfl
 have g1 := HG.out.cell (i := 1) rfl
 have g2 := HG.out.cell (i := 2) rfl
 have g3 := HG.out.cell (i := 3) rfl
 go_wp2_with fail
 refine number_r [x.x, x.y, x.x2, x.y2] 4 ⟨rfl, by decide⟩ (hd (Blk.new w1 [.int .i64 x.x, .int .i64 x.y, .int .i64 x.x2, .int .i64 x.y2] 3)) ?_
 obtain ⟨w2, hw⟩ : ∃ W, W = w1.alloc (.cells #[.int .i64 x.x, .int .i64 x.y, .int .i64 x.x2, .int .i64 x.y2] 3) := ⟨_, rfl⟩
 rw [← hw]
 have C2 : Hid (Chg [] w1 w2) := hd (by rw [hw]; exact (Chg.refl _ _).alloc _)
 clear hw
 obtain ⟨q, hq⟩ : ∃ q, q = Pr.numsOk [x.x, x.y, x.x2, x.y2] := ⟨_, rfl⟩
 rw [← hq]
 have Hq := hd hq.symm
 clear hq
 clear g0 g1 g2 g3
 have HE : Hid (Pr.boxOk x = q) := hd (by rw [← Hq.out]; rfl)
 go_wp2_with fail
 have h9 := HRR.out w2 (C1.out.trans C2.out (by simp))
 rw [HE.out] at h9
 exact h9
set_option maxHeartbeats 2000000 in
set_option maxRecDepth 100000 in
theorem row8_r {w0 w : World} (HQ : Hid (Chg [] w0 w)) (r : Pr.Rw) (p : Option Addr) (k n : Nat) (HM : Hid (RdS 3 Pr.RMk w0 (.slice p n k) r.marks)) (bn : r.name.length ≤ 1000) {R : Ending → World → Prop} (h : ∀ w', Chg [] w w' → R (.returned (.bool (Pr.rowOk r))) w') :
 Calls Tryd.prog 68 #[.agg #[.string ⟨r.name.toArray⟩, .int .i64 r.x, .int .i64 r.y, .int .i64 r.f, .int .i64 r.t, .int .i64 r.step, .slice p n k, .int .i64 r.at_]] w R := by
 have HRR := hd h
 clear h
 obtain ⟨hk1, hr1, hn1⟩ := HM.out.cp
 have HN := hd hn1
 clear hn1
 go_enter Tryd.func68, Tryd.ntmps68
 go_upto_region 1 with (fail)
 obtain ⟨w1, hw⟩ : ∃ W, W = w.alloc (.cells #[.string ⟨r.name.toArray⟩, .int .i64 r.x, .int .i64 r.y, .int .i64 r.f, .int .i64 r.t, .int .i64 r.step, .slice p n k, .int .i64 r.at_] 40) := ⟨_, rfl⟩
 rw [← hw]
 obtain ⟨G, hX⟩ : ∃ X, X = w.heap.size := ⟨_, rfl⟩
 rw [← hX]
 have HG : Hid (Blk w1 G [.string ⟨r.name.toArray⟩, .int .i64 r.x, .int .i64 r.y, .int .i64 r.f, .int .i64 r.t, .int .i64 r.step, .slice p n k, .int .i64 r.at_] 40) := hd (by rw [hw, hX]; exact Blk.new w [.string ⟨r.name.toArray⟩, .int .i64 r.x, .int .i64 r.y, .int .i64 r.f, .int .i64 r.t, .int .i64 r.step, .slice p n k, .int .i64 r.at_] _)
 have C1 : Hid (Chg [] w w1) := hd (by rw [hw]; exact (Chg.refl _ _).alloc _)
 clear hw hX
 have g0 := HG.out.cell (i := 0) rfl
 have g1 := HG.out.cell (i := 1) rfl
 have g2 := HG.out.cell (i := 2) rfl
 have g3 := HG.out.cell (i := 3) rfl
 have g4 := HG.out.cell (i := 4) rfl
 have g5 := HG.out.cell (i := 5) rfl
 have g6 := HG.out.cell (i := 6) rfl
 go_wp2_with fail
 refine name8_r r.name (by omega) ?_
 obtain ⟨q, hq⟩ : ∃ q, q = Pr.nameOk r.name := ⟨_, rfl⟩
 rw [← hq]
 have Hq := hd hq.symm
 clear hq
 cases q with
 | false =>
  have HF : Hid (Pr.rowOk r = false) := hd (by unfold Pr.rowOk; rw [Hq.out]; rfl)
  go_wp2_with fail
  have h9 := HRR.out w1 (C1.out)
  rw [HF.out] at h9
  exact h9
 | true =>
  go_wp2_with fail
  refine number_r [r.x, r.y, r.f, r.t, r.step] 5 ⟨rfl, by decide⟩ (hd (Blk.new w1 [.int .i64 r.x, .int .i64 r.y, .int .i64 r.f, .int .i64 r.t, .int .i64 r.step] 3)) ?_
  obtain ⟨w2, hw⟩ : ∃ W, W = w1.alloc (.cells #[.int .i64 r.x, .int .i64 r.y, .int .i64 r.f, .int .i64 r.t, .int .i64 r.step] 3) := ⟨_, rfl⟩
  rw [← hw]
  have C2 : Hid (Chg [] w1 w2) := hd (by rw [hw]; exact (Chg.refl _ _).alloc _)
  clear hw
  obtain ⟨q2, hq⟩ : ∃ q, q = Pr.numsOk [r.x, r.y, r.f, r.t, r.step] := ⟨_, rfl⟩
  rw [← hq]
  have Hq2 := hd hq.symm
  clear hq
  cases q2 with
  | false =>
   have HF : Hid (Pr.rowOk r = false) := hd (by unfold Pr.rowOk; rw [Hq2.out, Bool.false_and, Bool.and_false])
   go_wp2_with fail
   have h9 := HRR.out w2 (C1.out.trans C2.out (by simp))
   rw [HF.out] at h9
   exact h9
  | true =>
   have C12 : Hid (Chg [] w w2) := hd (C1.out.trans C2.out (by simp))
   have HG2 := hd (C2.out.blk HG.out (by simp))
   clear g0 g1 g2 g3 g4 g5 g6
   go_wp2_with fail
   go_loopw [3] (fun i0 wr => ∃ j : Nat, i0 = .int .i64 (j : Int) ∧ j ≤ n ∧ Hid (Chg [] w2 wr) ∧ Hid ((r.marks.take j).all Pr.markOk = true)) (fun i0 _ => n - intN i0)
   case atStart => exact ⟨0, rfl, Nat.zero_le _, hd (Chg.refl _ _), hd rfl⟩
   case round =>
    obtain ⟨j, rfl, hj, HC, HO⟩ := hrel
    have g6 := (HC.out.blk HG2.out (by simp)).cell (i := 6) rfl
    by_cases hlt : j < n
    · skip
      have q0 : (0 : Int) ≤ (j : Int) := by omega
      have q1 : (j : Int) < (n : Int) := by omega
      have z2 : (j : Int) ≤ (k : Int) := by omega
      have HQR : Hid (Chg [] w0 wr) := hd ((HQ.out.trans C12.out (by simp)).trans HC.out (by simp))
      obtain ⟨m, g, og, cs, hx, ha, -, ⟨hcs, -⟩, hcc⟩ := HM.out.at_ HQR.out (j := j) (by rw [HN.out]; exact hlt)
      subst ha
      have c0 : wr.cell? ⟨g, og + j * 3, none⟩ = some (.int .i64 m.kind) := by have h9 := hcc 0 _ (by rw [hcs]; rfl); simpa [Pr.iv, Pr.sv] using h9
      have c1 : wr.cell? ⟨g, og + j * 3 + 1, none⟩ = some (.int .i64 m.seat) := by have h9 := hcc 1 _ (by rw [hcs]; rfl); simpa [Pr.iv, Pr.sv] using h9
      have c2 : wr.cell? ⟨g, og + j * 3 + 2, none⟩ = some (.int .i64 m.w) := by have h9 := hcc 2 _ (by rw [hcs]; rfl); simpa [Pr.iv, Pr.sv] using h9
      have HX := hd hx
      have HBAD : Hid (Pr.markOk m = false → Pr.rowOk r = false) := hd (fun h => by unfold Pr.rowOk; rw [show r.marks.all Pr.markOk = false from List.all_eq_false.2 ⟨m, List.mem_of_getElem? HX.out, by rw [h]; decide⟩]; simp)
      clear hx hcs hcc
      go_upto_region 7 with (fail)
      obtain ⟨w4, hw⟩ : ∃ W, W = wr.alloc (.cells #[.int .i64 m.kind, .int .i64 m.seat, .int .i64 m.w] 66) := ⟨_, rfl⟩
      rw [← hw]
      obtain ⟨D, hX⟩ : ∃ X, X = wr.heap.size := ⟨_, rfl⟩
      rw [← hX]
      have HD : Hid (Blk w4 D [.int .i64 m.kind, .int .i64 m.seat, .int .i64 m.w] 66) := hd (by rw [hw, hX]; exact Blk.new wr [.int .i64 m.kind, .int .i64 m.seat, .int .i64 m.w] _)
      have C4 : Hid (Chg [] wr w4) := hd (by rw [hw]; exact (Chg.refl _ _).alloc _)
      clear hw hX
      clear c0 c1 c2 g6
      have d0 := HD.out.cell (i := 0) rfl
      have d1 := HD.out.cell (i := 1) rfl
      have d2 := HD.out.cell (i := 2) rfl
      have C24 : Hid (Chg [] w2 w4) := hd (HC.out.trans C4.out (by simp))
      by_cases hk1 : m.kind < 1
      · skip
        have HF : Hid (Pr.rowOk r = false) := hd (HBAD.out (by unfold Pr.markOk; rw [decide_eq_false (by omega)]; rfl))
        go_wp2_with fail
        have h9 := HRR.out w4 (C12.out.trans C24.out (by simp))
        rw [HF.out] at h9
        exact h9
      by_cases hk4 : 4 < m.kind
      · skip
        have HF : Hid (Pr.rowOk r = false) := hd (HBAD.out (by unfold Pr.markOk; rw [decide_eq_false (p := m.kind ≤ 4) (by omega)]; simp))
        go_wp2_with fail
        have h9 := HRR.out w4 (C12.out.trans C24.out (by simp))
        rw [HF.out] at h9
        exact h9
      go_wp2_with fail
      refine number_r [m.seat, m.w] 2 ⟨rfl, by decide⟩ (hd (Blk.new w4 [.int .i64 m.seat, .int .i64 m.w] 3)) ?_
      obtain ⟨w5, hw⟩ : ∃ W, W = w4.alloc (.cells #[.int .i64 m.seat, .int .i64 m.w] 3) := ⟨_, rfl⟩
      rw [← hw]
      have C5 : Hid (Chg [] w4 w5) := hd (by rw [hw]; exact (Chg.refl _ _).alloc _)
      clear hw
      obtain ⟨q3, hq⟩ : ∃ q, q = Pr.numsOk [m.seat, m.w] := ⟨_, rfl⟩
      rw [← hq]
      have Hq3 := hd hq.symm
      clear hq
      have C25 : Hid (Chg [] w2 w5) := hd (C24.out.trans C5.out (by simp))
      have d0 := (C5.out.blk HD.out (by simp)).cell (i := 0) rfl
      have d2 := (C5.out.blk HD.out (by simp)).cell (i := 2) rfl
      cases q3 with
      | false =>
       have HF : Hid (Pr.rowOk r = false) := hd (HBAD.out (by have h9 := Hq3.out; simp only [Pr.numsOk, List.all_cons, List.all_nil, Bool.and_true] at h9; unfold Pr.markOk; rw [h9]; simp))
       go_wp2_with fail
       have h9 := HRR.out w5 (C12.out.trans C25.out (by simp))
       rw [HF.out] at h9
       exact h9
      | true =>
       have HNN : Hid (Pr.numOk m.seat = true ∧ Pr.numOk m.w = true) := hd (by have h9 := Hq3.out; simp only [Pr.numsOk, List.all_cons, List.all_nil, Bool.and_true, Bool.and_eq_true] at h9; exact h9)
       have HKK : Hid (1 ≤ m.kind ∧ m.kind ≤ 4) := hd ⟨by omega, by omega⟩
       have HTK : Hid (r.marks.take (j + 1) = r.marks.take j ++ [m]) := hd (by obtain ⟨a1, rfl⟩ := List.getElem?_eq_some_iff.1 HX.out; exact List.take_succ_eq_append_getElem a1)
       by_cases h4 : m.kind = 4
       · skip
         have HOK : Hid (Pr.markOk m = true) := hd (by unfold Pr.markOk; rw [decide_eq_true HKK.out.1, decide_eq_true HKK.out.2, decide_eq_true (.inl h4), HNN.out.1, HNN.out.2]; rfl)
         have e1 : (m.kind == 4) = true := by rw [h4]; rfl
         have e2 : (m.kind != 4) = false := by rw [h4]; rfl
         clear h4
         go_wp2_with fail
         go_roundw
         case rel => exact ⟨j + 1, vint (by omega), by omega, C25, hd (by rw [HTK.out, List.all_append, HO.out, List.all_cons, List.all_nil, HOK.out]; rfl)⟩
         case measure => simp [intN]; omega
       have e1 : (m.kind == 4) = false := by rw [beq_eq_false_iff_ne]; exact h4
       have e2 : (m.kind != 4) = true := by simp [h4]
       by_cases hw0 : m.w = 0
       · skip
         have HOK : Hid (Pr.markOk m = true) := hd (by unfold Pr.markOk; rw [decide_eq_true HKK.out.1, decide_eq_true HKK.out.2, decide_eq_true (.inr hw0), HNN.out.1, HNN.out.2]; rfl)
         have e3 : (m.w == 0) = true := by rw [hw0]; rfl
         have e4 : (m.w != 0) = false := by rw [hw0]; rfl
         clear hw0
         go_wp2_with fail
         go_roundw
         case rel => exact ⟨j + 1, vint (by omega), by omega, C25, hd (by rw [HTK.out, List.all_append, HO.out, List.all_cons, List.all_nil, HOK.out]; rfl)⟩
         case measure => simp [intN]; omega
       have e3 : (m.w == 0) = false := by rw [beq_eq_false_iff_ne]; exact hw0
       have e4 : (m.w != 0) = true := by simp [hw0]
       have H4 := hd (And.intro h4 hw0)
       have HF : Hid (Pr.rowOk r = false) := hd (HBAD.out (by unfold Pr.markOk; rw [decide_eq_false (p := m.kind = 4 ∨ m.w = 0) (fun h => h.elim H4.out.1 H4.out.2)]; simp))
       go_wp2_with fail
       have h9 := HRR.out w5 (C12.out.trans C25.out (by simp))
       rw [HF.out] at h9
       exact h9
    · skip
      have q1 : ¬ (j : Int) < (n : Int) := by omega
      have HE : Hid (Pr.rowOk r = true) := hd (by have h9 := HO.out; rw [List.take_of_length_le (by rw [HN.out]; omega)] at h9; unfold Pr.rowOk; rw [Hq.out, Hq2.out, h9]; rfl)
      go_wp2_with fail
      have h9 := HRR.out wr (C12.out.trans HC.out (by simp))
      rw [HE.out] at h9
      exact h9
end Go.Proofs.YtgbooiaedbpenaaDoor
