/-
 Printer, layer 2: plain laws of what is written line by line.
-/
import Derived.Test.YtgbooiaedbpenaaGreatDoorPrA
namespace Go.Proofs.YtgbooiaedbpenaaGreatDoor
set_option linter.unusedVariables false
set_option linter.unusedSimpArgs false
open Go Go.RowKit

namespace Pr
/-- Pieces that are added as long as there are at most 20000 bytes. -/
def adds (out : Bytes) (l : List Bytes) : Bytes := l.foldl (fun o x => if o.length ≤ 20000 then o ++ x else o) out
theorem adds_cons (out x : Bytes) (l : List Bytes) : adds out (x :: l) = adds (if out.length ≤ 20000 then out ++ x else out) l := rfl
theorem adds_big {out : Bytes} (h : 20000 < out.length) : ∀ l : List Bytes, adds out l = out
 | [] => rfl
 | x :: l => by
  rw [adds_cons, if_neg (by omega)]
  exact adds_big h l
theorem adds_append (out : Bytes) (l m : List Bytes) : adds out (l ++ m) = adds (adds out l) m := by
 unfold adds
 rw [List.foldl_append]
theorem adds_full : ∀ (l : List Bytes) (out : Bytes), (out ++ l.flatten).length ≤ 20000 → adds out l = out ++ l.flatten
 | [], out, _ => by simp [adds]
 | x :: l, out, h => by
  simp only [List.flatten_cons, List.length_append] at h
  rw [adds_cons, if_pos (by omega), adds_full l _ (by simp only [List.length_append]; omega)]
  simp
theorem adds_over : ∀ (l : List Bytes) (out : Bytes), 20000 < (out ++ l.flatten).length → 20000 < (adds out l).length
 | [], out, h => by simpa [adds] using h
 | x :: l, out, h => by
  rw [adds_cons]
  by_cases ho : out.length ≤ 20000
  · rw [if_pos ho]
    exact adds_over l _ (by simpa using h)
  · rw [if_neg ho, adds_big (by omega)]
    omega
def lineB (x : Nat × Bytes) : Bytes := List.replicate x.1 9 ++ x.2 ++ [10]
def full (l : List (Nat × Bytes)) : Bytes := l.flatMap lineB
theorem puts_adds (out : Bytes) : ∀ l : List (Nat × Bytes), puts out l = adds out (l.map lineB) := by
 intro l
 unfold puts adds
 rw [List.foldl_map]
 rfl
theorem puts_append (out : Bytes) (l m : List (Nat × Bytes)) : puts out (l ++ m) = puts (puts out l) m := by
 unfold puts
 rw [List.foldl_append]
theorem puts_cons (out : Bytes) (x : Nat × Bytes) (l : List (Nat × Bytes)) : puts out (x :: l) = puts (put x.1 out x.2) l := rfl
theorem full_eq (l : List (Nat × Bytes)) : (l.map lineB).flatten = full l := by
 unfold full
 rw [List.flatMap_def]
theorem puts_full {out : Bytes} {l : List (Nat × Bytes)} (h : (out ++ full l).length ≤ 20000) : puts out l = out ++ full l := by
 rw [puts_adds, adds_full _ _ (by rw [full_eq]; exact h), full_eq]
theorem puts_over {out : Bytes} {l : List (Nat × Bytes)} (h : 20000 < (out ++ full l).length) : 20000 < (puts out l).length := by
 rw [puts_adds]
 exact adds_over _ _ (by rw [full_eq]; exact h)
/-- What is returned depends on the whole text alone. -/
theorem fin_full (ok : Bool) (l : List (Nat × Bytes)) : fin ok (puts [] l) = if ok = false then ([], 1) else if 20000 < (full l).length ∨ 5000 < tokens (full l) then ([], 3) else (full l, 0) := by
 unfold fin
 by_cases hl : (full l).length ≤ 20000
 · rw [puts_full (out := []) (by simpa using hl)]
   simp
 · have h1 : 20000 < (puts [] l).length := puts_over (out := []) (by simp; omega)
   have h2 : 20000 < (full l).length := by omega
   cases ok
   · simp
   · simp [h1, h2]
theorem put_len (d : Nat) (out s : Bytes) {m : Nat} (h : out.length ≤ 20000 + m) (hs : d + s.length + 1 ≤ m) : (put d out s).length ≤ 20000 + m := by
 unfold put
 split
 · simp only [List.length_append, List.length_replicate, List.length_singleton]
   omega
 · exact h
theorem itoa_len (n : Int) (h : -9223372036854775808 ≤ n ∧ n ≤ 9223372036854775807) : (Lib.itoa n).length ≤ 21 := Lib.itoa_length_le n h.1 h.2
/-- An int of the machine. -/
def I64 (n : Int) : Prop := -9223372036854775808 ≤ n ∧ n ≤ 9223372036854775807
theorem nums_nil : nums [] = [] := rfl
theorem nums_append (a b : List Int) : nums (a ++ b) = nums a ++ nums b := List.flatMap_append
theorem nums_len : ∀ l : List Int, (∀ n ∈ l, I64 n) → (nums l).length ≤ 22 * l.length
 | [], _ => by simp [nums]
 | n :: l, h => by
  have h1 := itoa_len n (h n (by simp))
  have h2 := nums_len l (fun k hk => h k (by simp [hk]))
  simp only [nums, List.flatMap_cons, List.length_append, List.length_cons] at h2 ⊢
  omega
theorem numsOk_append (a b : List Int) : numsOk (a ++ b) = (numsOk a && numsOk b) := List.all_append
end Pr
end Go.Proofs.YtgbooiaedbpenaaGreatDoor
