/-
 Printer, layer 15: an optional ratio behind a word.
-/
import Derived.Test.YtgbooiaedbpenaaGreatDoorPrZ
namespace Go.Proofs.YtgbooiaedbpenaaGreatDoor
set_option linter.unusedVariables false
set_option linter.unusedSimpArgs false
open Go Go.RowKit Go.Shelf
attribute [local irreducible] Go.wpStill

set_option maxHeartbeats 1000000 in
set_option maxRecDepth 100000 in
theorem part_r {T : TypeId} {w0 : World} (HL : Hid (Laid w0)) {b deep : Nat} (HB0 : Hid (w0.heap.size ≤ b)) {w : World} (HQ : Hid (Chg [] w0 w)) {bad : Bool} {out : Bytes} {v : Value} (HW : Hid (Wst T b deep bad out v w)) (s : Bytes) (hs : s.length ≤ 20) (x : Int × Int) (HI : Hid (Pr.I64 x.1 ∧ Pr.I64 x.2)) {R : Ending → World → Prop}
 (h : ∀ w', Wst T b deep (bad || !Pr.partOk x) out v w' → Wr b v w v w' → R (.returned (.string ⟨(Pr.partS s x).toArray⟩)) w') :
 Calls Tryz.prog 38 #[.pointer (some ⟨b, 0, none⟩), .string ⟨s.toArray⟩, .agg #[.int .i64 x.1, .int .i64 x.2]] w R := by
 have HRR := hd h
 clear h
 obtain ⟨a, c⟩ := x
 go_enter Tryz.func38, Tryz.ntmps38
 go_upto_region 1 with (fail)
 obtain ⟨w4, hw4⟩ : ∃ W, W = w.alloc (.cells #[.int .i64 a, .int .i64 c] 69) := ⟨_, rfl⟩
 rw [← hw4]
 obtain ⟨G, hG⟩ : ∃ X, X = w.heap.size := ⟨_, rfl⟩
 rw [← hG]
 have HG : Hid (Blk w4 G [.int .i64 a, .int .i64 c] 69) := hd (by rw [hw4, hG]; exact Blk.new w [.int .i64 a, .int .i64 c] _)
 have C4 : Hid (Chg [] w w4) := hd (by rw [hw4]; exact (Chg.refl _ _).alloc _)
 clear hw4 hG
 have g0 := HG.out.cell (i := 0) rfl
 have g1 := HG.out.cell (i := 1) rfl
 by_cases hx : a = 0 ∧ c = 1
 · obtain ⟨rfl, rfl⟩ := hx
   go_wp2_with fail
   refine HRR.out w4 ?_ (Wr.cell (C4.out.mono (by simp)))
   have h9 := HW.out.quiet C4.out
   rw [show (bad || !Pr.partOk (0, 1)) = bad by simp [Pr.partOk]]
   exact h9
 · have HX := hd hx
   have hcs : a ≠ 0 ∨ (a = 0 ∧ c ≠ 1) := by
    by_cases ha : a = 0
    · exact .inr ⟨ha, fun hc => hx ⟨ha, hc⟩⟩
    · exact .inl ha
   have hs1 : ∀ k : Nat, k ≤ 100 → ¬ 9223372036854775807 < s.length + k := fun k hk => by omega
   have HS1 := hd hs1
   have HQ4 : Hid (Chg [] w0 w4) := hd (HQ.out.trans C4.out (by simp))
   have HW4 := hd (HW.out.quiet C4.out)
   have HV : Hid (Pr.partS s (a, c) = s ++ Pr.ratioS (a, c) ∧ Pr.partOk (a, c) = Pr.ratioOk (a, c)) := hd (by
    have hne : ¬ ((a, c) : Int × Int) = (0, 1) := fun h => by
     injection h with h1 h2
     exact HX.out ⟨h1, h2⟩
    unfold Pr.partS Pr.partOk
    rw [if_neg hne, decide_eq_false hne, Bool.false_or]
    exact ⟨rfl, rfl⟩)
   have hrl : (Pr.ratioS (a, c)).length ≤ 50 := by
    have h1 := Pr.nums_len [a] (by intro q hq; rw [List.mem_singleton] at hq; rw [hq]; exact HI.out.1)
    have h2 := Pr.itoa_len c HI.out.2
    simp only [Pr.ratioS, List.length_append, List.length_cons, List.length_nil] at h1 ⊢
    omega
   have HRL := hd hrl
   clear hx hrl hs1
   have main : ∀ {R' : Ending → World → Prop}, (∀ w', Wst T b deep (bad || !Pr.ratioOk (a, c)) out v w' → Wr b v w4 v w' → R' (.returned (.string ⟨(Pr.ratioS (a, c)).toArray⟩)) w') → Calls Tryz.prog 39 #[.pointer (some ⟨b, 0, none⟩), .agg #[.int .i64 a, .int .i64 c]] w4 R' := fun hr => ratio_r HL HB0 HQ4 HW4 (a, c) HI hr
   have fin : ∀ w', Wst T b deep (bad || !Pr.ratioOk (a, c)) out v w' → Wr b v w4 v w' → R (.returned (.string ⟨(s ++ Pr.ratioS (a, c)).toArray⟩)) w' := fun w' h1 h2 => by
    have h3 := HRR.out w' (by rw [HV.out.2]; exact h1) ((Wr.cell (C4.out.mono (by simp))).trans h2)
    rw [HV.out.1] at h3
    exact h3
   have FIN := hd fin
   clear fin
   rcases hcs with h1 | ⟨rfl, h1⟩
   · have e1 : (a == 0) = false := by simpa using h1
     go_wp2_with fail
     refine main (fun w5 h5 h6 => ?_)
     have H5 := hd h5
     have H6 := hd h6
     clear h5 h6 g0 g1
     obtain ⟨rs, hrs⟩ : ∃ z, z = Pr.ratioS (a, c) := ⟨_, rfl⟩
     rw [← hrs] at FIN HRL ⊢
     have hz : ¬ 9223372036854775807 < s.length + rs.length := by have := HRL.out; omega
     clear hrs
     go_wp2_with fail
     rw [str2]
     exact FIN.out w5 H5.out H6.out
   · have e1 : (c == 1) = false := by simpa using h1
     go_wp2_with fail
     refine main (fun w5 h5 h6 => ?_)
     have H5 := hd h5
     have H6 := hd h6
     clear h5 h6 g0 g1
     obtain ⟨rs, hrs⟩ : ∃ z, z = Pr.ratioS (0, c) := ⟨_, rfl⟩
     rw [← hrs] at FIN HRL ⊢
     have hz : ¬ 9223372036854775807 < s.length + rs.length := by have := HRL.out; omega
     clear hrs
     go_wp2_with fail
     rw [str2]
     exact FIN.out w5 H5.out H6.out
end Go.Proofs.YtgbooiaedbpenaaGreatDoor
