/-
  Rule: for every text RuleMatchesReference returns true (the walk).
-/
import Derived.Test.YtmfjebpefneboaaDoorRnI
namespace Go.Proofs.YtmfjebpefneboaaDoor
set_option linter.unusedVariables false
set_option linter.unusedSimpArgs false
open Go Go.RowKit Go.Shelf
/-- Parse, with letters for what comes back. -/
theorem parse_r {w : World} {s : Bytes} (hs : s.length ≤ 100000) {sb : ByteArray} (HSB : Hid (sb = ⟨s.toArray⟩)) {R : Ending → World → Prop}
    (h : ∀ (ao : Option Addr) (n cap E : Nat) (A : Int) (w' : World), Hid (ListS w.heap.size 42 9 (Ci w.heap.size) (Rl.parse s).1 (.slice ao n cap) w') → Hid (Chg [] w w') → Hid ((Rl.parse s).1.length = n ∧ (Rl.parse s).2.1 = E ∧ (Rl.parse s).2.2 = A) →
      R (.returned (.tuple #[.agg #[.slice ao n cap], .int .i64 (E : Int), .int .i64 A])) w') : Calls Tryd.prog 11 #[.string sb] w R := by
  rw [HSB.out]
  refine (parse_spec w s hs).mono ?_
  rintro e w' ⟨v, rfl, hl, hc⟩
  obtain ⟨ao, cap, rfl⟩ := hl.form
  exact h ao _ cap _ _ w' (Lib.hid hl) (Lib.hid hc) (Lib.hid ⟨rfl, rfl, rfl⟩)
theorem hsize {s : Bytes} {sb : ByteArray} (HSB : Hid (sb = ⟨s.toArray⟩)) : sb.size = s.length := by rw [HSB.out]; exact size_of s
theorem refparse_r {w : World} {s : Bytes} (hs : s.length ≤ 100000) {sb : ByteArray} (HSB : Hid (sb = ⟨s.toArray⟩)) {R : Ending → World → Prop}
    (h : ∀ (ao : Option Addr) (n cap E : Nat) (A : Int) (w' : World), Hid (ListS w.heap.size 42 9 (Ci w.heap.size) (Rl.parse s).1 (.slice ao n cap) w') → Hid (Chg [] w w') → Hid ((Rl.parse s).1.length = n ∧ (Rl.parse s).2.1 = E ∧ (Rl.parse s).2.2 = A) →
      R (.returned (.tuple #[.agg #[.slice ao n cap], .int .i64 (E : Int), .int .i64 A])) w') : Calls Tryd.prog 12 #[.string sb] w R := by
  rw [HSB.out]
  refine (refparse_spec w s hs).mono ?_
  rw [Rl.ref_parse s (Rl.wf_lex s)]
  rintro e w' ⟨v, rfl, hl, hc⟩
  obtain ⟨ao, cap, rfl⟩ := hl.form
  exact h ao _ cap _ _ w' (Lib.hid hl) (Lib.hid hc) (Lib.hid ⟨rfl, rfl, rfl⟩)
set_option maxHeartbeats 1000000 in
theorem ruleMatchesReference_walk (w : World) (s : Bytes) (hs0 : s.length ≤ 9223372036854775807) :
    Calls Tryd.prog 3 #[.string ⟨s.toArray⟩] w fun e w' => e = .returned (.bool true) ∧ Chg [] w w' := by
  obtain ⟨sb, hsb⟩ : ∃ sb : ByteArray, sb = ⟨s.toArray⟩ := ⟨_, rfl⟩
  rw [← hsb]
  have HSB := Lib.hid hsb
  have hsz := hsize HSB
  clear hsb
  go_enter Tryd.func3, Tryd.ntmps3
  go_wp2_with fail
  refine (head_spec07 w).mono ?_
  rintro e w1 ⟨rfl, hc⟩
  have HC1 := Lib.hid hc
  clear hc
  by_cases hl : 20100 < s.length
  · have q0 : (20100 : Int) < ((sb.size : Nat) : Int) := by rw [hsz]; omega
    go_wp2_with fail
    go_ret
    exact ⟨rfl, HC1.out⟩
  · have q0 : ¬ (20100 : Int) < ((sb.size : Nat) : Int) := by rw [hsz]; omega
    have hs : s.length ≤ 100000 := by omega
    have HS := Lib.hid hs
    clear hs hl hsz
    go_wp2_with fail
    refine parse_r HS.out HSB (fun ao n cap E A w2 HL2 HC2 HE2 => ?_)
    go_wp2_with fail
    obtain ⟨W3, hW3⟩ : ∃ W, W = w2.alloc (.cells #[.slice ao n cap] 25) := ⟨_, rfl⟩
    rw [← hW3]
    obtain ⟨X4, hX4⟩ : ∃ X, X = w2.heap.size := ⟨_, rfl⟩
    rw [← hX4]
    have HX4 : Hid (Blk W3 X4 [.slice ao n cap] 25) := Lib.hid (by rw [hW3, hX4]; exact Blk.new w2 _ _)
    have HC3 : Hid (Chg [] w2 W3) := Lib.hid (by rw [hW3]; exact (Chg.refl _ _).alloc _)
    clear hW3 hX4
    refine refparse_r HS.out HSB (fun bo k bp E' A' w4 HL4 HC4 HE4 => ?_)
    obtain rfl : E' = E := by rw [← HE4.out.2.1, ← HE2.out.2.1]
    obtain rfl : A' = A := by rw [← HE4.out.2.2, ← HE2.out.2.2]
    have qe : ((E' : Int) == (E' : Int)) = true := beq_self_eq_true _
    have qa : ((A' : Int) == (A' : Int)) = true := beq_self_eq_true _
    have x4 := (((HC4.out.blk HX4.out (by simp)).alloc (.cells #[.slice bo k bp] 25))).cell (i := 0) rfl
    go_wp2_with fail
    have hcf : Hid (Chg [] w1 (w4.alloc (.cells #[.slice bo k bp] 25))) := Lib.hid (((HC2.out.trans HC3.out (by simp)).trans HC4.out (by simp)).alloc _)
    have HA : Hid (ListS w1.heap.size 42 9 (Ci w1.heap.size) (Rl.parse s).1 (.slice ao n cap) (w4.alloc (.cells #[.slice bo k bp] 25))) := Lib.hid (HL2.out.keep (kp_i _) ((HC3.out.trans HC4.out (by simp)).alloc _) (TyB.nil _ _ _))
    have HB : Hid (ListS W3.heap.size 42 9 (Ci W3.heap.size) (Rl.parse s).1 (.slice bo k bp) (w4.alloc (.cells #[.slice bo k bp] 25))) := Lib.hid (HL4.out.keep (kp_i _) ((Chg.refl [] _).alloc _) (TyB.nil _ _ _))
    refine (same_rules _ _ _ true (Lib.hid (SimL.refl _)) _ _ _ _ HA HB).mono ?_
    rintro e w5 ⟨rfl, hc5⟩
    have HC5 := Lib.hid hc5
    clear hc5 x4 qe qa
    go_wp2_with fail
    go_ret
    exact ⟨rfl, (HC1.out.trans hcf.out (by simp)).trans HC5.out (by simp)⟩
end Go.Proofs.YtmfjebpefneboaaDoor
