/-
  Printer, plain laws: the reference's texts, written as long as there are at most 20000 bytes and then read by the lexer, against the program's.
-/
import Derived.Test.YtgbooiaedbpenaaDoorPrL
namespace Go.Proofs.YtgbooiaedbpenaaDoor
set_option linter.unusedVariables false
set_option linter.unusedSimpArgs false
open Go Go.RowKit

namespace Pr
/-- What the reference does at the end. -/
def rend (s : Bytes) : Bytes × Nat := if (Lx.lex s).2.1 ≠ 0 then ([], 3) else (s, 0)
theorem lex_long {s : Bytes} (h : 20000 < s.length) : (Lx.lex s).2.1 ≠ 0 := by
  unfold Lx.lex
  rw [if_pos h]
  decide
theorem rend_long {s : Bytes} (h : 20000 < s.length) : rend s = ([], 3) := if_pos (lex_long h)
theorem Lws.rend {l : List (Nat × Bytes)} {ts : List Lx.Tk} (h : Lws l ts) : Pr.fin true (puts [] l) = Pr.rend (full l) := by
  rw [h.fin]
  unfold Pr.rend
  by_cases c : (Lx.lex (full l)).2.1 = 0
  · rw [if_pos c, if_neg (fun h => h c)]
  · rw [if_neg c, if_pos c]
/-- The head of a hall as the reference writes it. -/
def refHead (h : Hl) : Bytes := tHall ++ h.name ++ tStage ++ nums [h.sx, h.sy] ++ [32, 123, 10]
def refFloor (l : Lv) : Bytes := full (levelL l)
def refHall (h : Hl) : Bytes × Nat := if hallOk h = false then ([], 1) else rend (adds (refHead h) (h.levels.map refFloor) ++ [125, 10])
def refRules (l : List Itm) : Bytes × Nat := if rulesOk l = false then ([], 1) else rend (adds [] (l.map (fun x => lineB (itemL x))))
theorem full_append (l m : List (Nat × Bytes)) : full (l ++ m) = full l ++ full m := List.flatMap_append
theorem full_cons (x : Nat × Bytes) (l : List (Nat × Bytes)) : full (x :: l) = lineB x ++ full l := rfl
theorem full_flat {α : Type} (f : α → List (Nat × Bytes)) : ∀ l : List α, full (l.flatMap f) = (l.map (fun x => full (f x))).flatten
  | [] => rfl
  | x :: l => by rw [List.flatMap_cons, full_append, full_flat f l]; rfl
theorem hallF (h : Hl) : full (hallL h) = (refHead h ++ (h.levels.map refFloor).flatten) ++ [125, 10] := by
  have e : hallL h = (0, tHall ++ h.name ++ tStage ++ nums [h.sx, h.sy] ++ tOpen) :: (h.levels.flatMap levelL ++ [(0, tClose)]) := rfl
  rw [e, full_cons, full_append, full_flat]
  show lineB _ ++ ((h.levels.map refFloor).flatten ++ [125, 10]) = _
  rw [← List.append_assoc]
  congr 1
  congr 1
  unfold lineB refHead
  simp [tOpen]
theorem adds_end {s0 : Bytes} {l : List Bytes} (c : Bytes) : rend (adds s0 l ++ c) = rend ((s0 ++ l.flatten) ++ c) := by
  by_cases h : (s0 ++ l.flatten).length ≤ 20000
  · rw [adds_full l s0 h]
  · have h1 := adds_over l s0 (by omega)
    rw [rend_long (by rw [List.length_append]; omega), rend_long (by rw [List.length_append]; omega)]
theorem refHall_eq (h : Hl) : refHall h = hall h := by
  unfold refHall hall
  by_cases ho : hallOk h = true
  · rw [ho, if_neg (by decide), adds_end, ← hallF]
    exact (hall_lws ho).rend.symm
  · have ho : hallOk h = false := by simpa using ho
    rw [ho, if_pos rfl]
    rfl
theorem refRules_eq (l : List Itm) : refRules l = rules l := by
  unfold refRules rules
  by_cases ho : rulesOk l = true
  · rw [ho, if_neg (by decide)]
    have h1 := adds_end (s0 := []) (l := l.map (fun x => lineB (itemL x))) []
    rw [List.append_nil, List.append_nil, List.nil_append] at h1
    rw [h1]
    have h2 := (rules_lws (List.all_eq_true.1 (and2 ho).2)).rend
    have h3 : full (l.map itemL) = (l.map (fun x => lineB (itemL x))).flatten := by
      rw [← full_eq, List.map_map]
      rfl
    rw [← h3]
    exact h2.symm
  · have ho : rulesOk l = false := by simpa using ho
    rw [ho, if_pos rfl]
    rfl
end Pr
end Go.Proofs.YtgbooiaedbpenaaDoor
