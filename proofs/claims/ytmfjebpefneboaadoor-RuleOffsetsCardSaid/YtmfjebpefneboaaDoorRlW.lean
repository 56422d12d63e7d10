/-
  Rule: what RuleOffsets has still to find, at the heads of its loops.
-/
import Derived.Test.YtmfjebpefneboaaDoorRlV
namespace Go.Proofs.YtmfjebpefneboaaDoor
set_option linter.unusedVariables false
open Lx (Tk)
namespace Rl
theorem parse_nonzero {s : Bytes} (h : (parse s).2.1 ≠ 0) : (parse s).1 = [] := by
  unfold parse at h ⊢
  by_cases h0 : (Lx.lex s).2.1 ≠ 0
  · rw [if_pos h0]
  · rw [if_neg h0] at h ⊢
    cases k1 : items 200 [] (Lx.lex s).1 with
    | ok z r =>
      rw [k1] at h
      exact absurd rfl h
    | bad c r => rfl
/-! ### What is still to be found, at the heads of the three loops -/
def RI (l : List Tk) (last : Int) (xs : List Itm) : Prop := ∃ r, chkI l last xs r
def RG (l : List Tk) (last : Int) (gs : List (List Tst)) (xs : List Itm) : Prop := ∃ m, chkG l last gs m ∧ RI l m xs
def RT (l : List Tk) (last : Int) (ts : List Tst) (gs : List (List Tst)) (xs : List Itm) : Prop := ∃ m, chkT l last ts m ∧ RG l m gs xs
theorem RI.cons {l : List Tk} {last : Int} {x : Itm} {xs : List Itm} (h : RI l last (x :: xs)) : ((∃ j, x.kind = 1 + j ∧ kindsL[j]? = some (tokAt l x.at_).text) ∧ last < (x.at_ : Int)) ∧ RG l x.at_ x.whn xs := by
  obtain ⟨r, h1, m, h2, h3⟩ := h
  exact ⟨h1, m, h2, r, h3⟩
theorem RG.nil {l : List Tk} {last : Int} {xs : List Itm} (h : RG l last [] xs) : RI l last xs := by
  obtain ⟨m, h1, h2⟩ := h
  have h1 : m = last := h1
  rwa [h1] at h2
theorem RG.cons {l : List Tk} {last : Int} {g : List Tst} {gs : List (List Tst)} {xs : List Itm} (h : RG l last (g :: gs) xs) : g ≠ [] ∧ RT l last g gs xs := by
  obtain ⟨r, ⟨h1, m, h2, h3⟩, h4⟩ := h
  exact ⟨h1, m, h2, r, h3, h4⟩
theorem RT.nil {l : List Tk} {last : Int} {gs : List (List Tst)} {xs : List Itm} (h : RT l last [] gs xs) : RG l last gs xs := by
  obtain ⟨m, h1, h2⟩ := h
  have h1 : m = last := h1
  rwa [h1] at h2
theorem RT.cons {l : List Tk} {last : Int} {t : Tst} {ts : List Tst} {gs : List (List Tst)} {xs : List Itm} (h : RT l last (t :: ts) gs xs) : (last < (t.at_ : Int) ∧ (tokAt l t.at_).kind = 1 ∧ (tokAt l t.at_).text = t.attr) ∧ RT l t.at_ ts gs xs := by
  obtain ⟨r, ⟨h1, h2⟩, h4⟩ := h
  exact ⟨h1, r, h2, h4⟩
theorem drop_at {α : Type} {l : List α} {k : Nat} {x : α} (h : l[k]? = some x) : l.drop k = x :: l.drop (k + 1) := by
  obtain ⟨h1, h2⟩ := List.getElem?_eq_some_iff.1 h
  rw [← h2]
  exact List.drop_eq_getElem_cons h1
end Rl
end Go.Proofs.YtmfjebpefneboaaDoor
