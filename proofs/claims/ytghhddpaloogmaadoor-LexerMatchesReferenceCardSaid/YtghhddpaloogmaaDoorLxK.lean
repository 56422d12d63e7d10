/-
  Layer 14: the examples of the chapter hold (head).
-/
import Derived.Test.YtghhddpaloogmaaDoorLxJ
namespace Go.Proofs.YtghhddpaloogmaaDoor
set_option linter.unusedVariables false
set_option linter.unusedSimpArgs false
open Go Go.RowKit Go.Shelf

theorem Lx.ex0 : Lx.lex [114, 111, 119, 32, 97, 49, 32, 97, 116, 32, 55, 62, 61, 120, 35, 32, 121] = ([⟨1, [114, 111, 119], 0, 0⟩, ⟨1, [97, 49], 0, 4⟩, ⟨1, [97, 116], 0, 7⟩, ⟨2, [55], 7, 10⟩, ⟨3, [62, 61], 0, 11⟩, ⟨1, [120], 0, 13⟩], 0, 0) := by decide +kernel
theorem Lx.ex1 : Lx.lex [97, 32, 33, 98] = ([], 5, 2) := by decide +kernel
theorem Lx.ex2 : Lx.lex [55, 120] = ([], 6, 0) := by decide +kernel
theorem Lx.ex3 : Lx.lex [49, 50, 51, 52, 53, 54, 55, 56, 57, 48, 49] = ([], 6, 0) := by decide +kernel
theorem Lx.ex4 : Lx.lex [10, 97, 98, 99, 100, 101, 102, 103, 104, 105, 106, 107, 108, 109, 110, 111, 112, 113, 114, 115, 116, 117, 118, 119, 120, 121] = ([], 3, 1) := by decide +kernel
theorem lex_ex0 (w : World) : Calls Tryd.prog 12 #[.string ⟨#[114, 111, 119, 32, 97, 49, 32, 97, 116, 32, 55, 62, 61, 120, 35, 32, 121]⟩] w fun e w' => ∃ v, e = .returned (.tuple #[v, .int .i64 0, .int .i64 0]) ∧ TokS w' v (Lx.lex [114, 111, 119, 32, 97, 49, 32, 97, 116, 32, 55, 62, 61, 120, 35, 32, 121]).1 ∧ Chg [] w w' := by
  have h := lex_spec w [114, 111, 119, 32, 97, 49, 32, 97, 116, 32, 55, 62, 61, 120, 35, 32, 121] (by decide)
  rw [Lx.ex0] at h ⊢
  exact h
theorem lex_ex1 (w : World) : Calls Tryd.prog 12 #[.string ⟨#[97, 32, 33, 98]⟩] w fun e w' => ∃ v, e = .returned (.tuple #[v, .int .i64 5, .int .i64 2]) ∧ TokS w' v (Lx.lex [97, 32, 33, 98]).1 ∧ Chg [] w w' := by
  have h := lex_spec w [97, 32, 33, 98] (by decide)
  rw [Lx.ex1] at h ⊢
  exact h
theorem lex_ex2 (w : World) : Calls Tryd.prog 12 #[.string ⟨#[55, 120]⟩] w fun e w' => ∃ v, e = .returned (.tuple #[v, .int .i64 6, .int .i64 0]) ∧ TokS w' v (Lx.lex [55, 120]).1 ∧ Chg [] w w' := by
  have h := lex_spec w [55, 120] (by decide)
  rw [Lx.ex2] at h ⊢
  exact h
theorem lex_ex3 (w : World) : Calls Tryd.prog 12 #[.string ⟨#[49, 50, 51, 52, 53, 54, 55, 56, 57, 48, 49]⟩] w fun e w' => ∃ v, e = .returned (.tuple #[v, .int .i64 6, .int .i64 0]) ∧ TokS w' v (Lx.lex [49, 50, 51, 52, 53, 54, 55, 56, 57, 48, 49]).1 ∧ Chg [] w w' := by
  have h := lex_spec w [49, 50, 51, 52, 53, 54, 55, 56, 57, 48, 49] (by decide)
  rw [Lx.ex3] at h ⊢
  exact h
theorem lex_ex4 (w : World) : Calls Tryd.prog 12 #[.string ⟨#[10, 97, 98, 99, 100, 101, 102, 103, 104, 105, 106, 107, 108, 109, 110, 111, 112, 113, 114, 115, 116, 117, 118, 119, 120, 121]⟩] w fun e w' => ∃ v, e = .returned (.tuple #[v, .int .i64 3, .int .i64 1]) ∧ TokS w' v (Lx.lex [10, 97, 98, 99, 100, 101, 102, 103, 104, 105, 106, 107, 108, 109, 110, 111, 112, 113, 114, 115, 116, 117, 118, 119, 120, 121]).1 ∧ Chg [] w w' := by
  have h := lex_spec w [10, 97, 98, 99, 100, 101, 102, 103, 104, 105, 106, 107, 108, 109, 110, 111, 112, 113, 114, 115, 116, 117, 118, 119, 120, 121] (by decide)
  rw [Lx.ex4] at h ⊢
  exact h
theorem head_spec (w : World) : Calls Tryd.prog 11 #[] w fun e w' => e = .returned (.bool true) ∧ Chg [] w w' := by
  go_enter Tryd.func11, Tryd.ntmps11
  go_wp2_with fail
  refine (lex_ex0 _).mono ?_
  rintro e w1 ⟨v0, rfl, ht, hc0⟩
  rw [Lx.ex0] at ht
  have HT := Lib.hid ht
  have HC0 := Lib.hid hc0
  clear ht hc0
  go_wp2_with fail
  refine (lex_ex1 _).mono ?_
  rintro e w2 ⟨v1, rfl, _, hc1⟩
  have HC1 := Lib.hid (HC0.out.trans hc1 (by simp))
  have HT := Lib.hid (HT.out.quiet hc1)
  clear hc1
  go_wp2_with fail
  refine (lex_ex2 _).mono ?_
  rintro e w3 ⟨v2, rfl, _, hc2⟩
  have HC2 := Lib.hid (HC1.out.trans hc2 (by simp))
  have HT := Lib.hid (HT.out.quiet hc2)
  clear hc2
  go_wp2_with fail
  refine (lex_ex3 _).mono ?_
  rintro e w4 ⟨v3, rfl, _, hc3⟩
  have HC3 := Lib.hid (HC2.out.trans hc3 (by simp))
  have HT := Lib.hid (HT.out.quiet hc3)
  clear hc3
  go_wp2_with fail
  refine (lex_ex4 _).mono ?_
  rintro e w5 ⟨v4, rfl, _, hc4⟩
  have HC4 := Lib.hid (HC3.out.trans hc4 (by simp))
  have HT := Lib.hid (HT.out.quiet hc4)
  clear hc4
  obtain ⟨ao, cap, rfl, hcap, hk⟩ := HT.out
  obtain ⟨g, off, rfl, a0, a1, a2, a3⟩ := hk 1 _ rfl
  obtain ⟨_, _, e2, b0, b1, b2, b3⟩ := hk 3 _ rfl
  cases e2
  obtain ⟨_, _, e2, c0, c1, c2, c3⟩ := hk 4 _ rfl
  cases e2
  obtain ⟨_, _, e2, d0, d1, d2, d3⟩ := hk 5 _ rfl
  cases e2
  simp only [List.length_cons, List.length_nil, Nat.reduceAdd, Nat.reduceMul, Nat.add_assoc] at *
  clear hk HT
  go_wp2_with fail
  go_ret
  exact ⟨rfl, HC4.out⟩
end Go.Proofs.YtghhddpaloogmaaDoor
