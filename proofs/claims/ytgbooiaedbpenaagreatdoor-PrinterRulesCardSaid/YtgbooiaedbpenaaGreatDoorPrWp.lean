/-
 Printer, plain laws: what the library's Cut and Join are in the printer's words.
-/
import Derived.Test.YtgbooiaedbpenaaGreatDoorPrB
import Derived.Lib.Join
import Derived.Lib.CutLaws
namespace Go.Proofs.YtgbooiaedbpenaaGreatDoor
set_option linter.unusedVariables false
set_option linter.unusedSimpArgs false
open Go Go.RowKit

namespace Pr
theorem cut_lib : ∀ s : Bytes, Lib.cut s [46] = ((cut s).1, (cut s).2.getD [], (cut s).2.isSome)
 | [] => rfl
 | c :: r => by
  have ih := cut_lib r
  have hge := Lib.index_ge r [46]
  unfold Lib.cut at ih ⊢
  have hp : List.isPrefixOf [46] (c :: r) = ((46 : UInt8) == c) := by simp [List.isPrefixOf]
  unfold Lib.index
  rw [hp]
  unfold cut
  by_cases h : c = 46
  · subst h
    simp
  · have h' : ((46 : UInt8) == c) = false := by rw [beq_eq_false_iff_ne]; exact fun e => h e.symm
    rw [h', if_neg h]
    simp only [Bool.false_eq_true, if_false]
    by_cases hi : Lib.index r [46] = -1
    · rw [hi] at ih ⊢
      simp only [beq_self_eq_true, if_true]
      simp only [show ¬ ((0 : Int) ≤ -1) by omega, if_false] at ih ⊢
      injection ih with h1 h2
      injection h2 with h2 h3
      rw [← h1, ← h2, ← h3]
    · have hb : (Lib.index r [46] == -1) = false := by rw [beq_eq_false_iff_ne]; exact hi
      rw [hb]
      simp only [Bool.false_eq_true, if_false]
      rw [if_pos (by omega)] at ih ⊢
      injection ih with h1 h2
      injection h2 with h2 h3
      rw [← h1, ← h2, ← h3]
      have e : (Lib.index r [46] + 1).toNat = (Lib.index r [46]).toNat + 1 := by omega
      rw [e]
      simp only [List.take_succ_cons, List.length_singleton]
      rw [show (Lib.index r [46]).toNat + 1 + 1 = ((Lib.index r [46]).toNat + 1) + 1 from rfl, List.drop_succ_cons]
theorem join_lib (sep : Bytes) : ∀ l : List Bytes, Lib.join l sep = join sep l
 | [] => rfl
 | [x] => Lib.join_one x sep
 | x :: y :: r => by
  have ih := join_lib sep (y :: r)
  rw [Lib.join_cons] at ih ⊢
  simp only [Lib.joinTail, List.map_cons, List.flatten_cons] at ih ⊢
  rw [show join sep (x :: y :: r) = x ++ sep ++ join sep (y :: r) from rfl, ← ih]
  simp
theorem join_len (sep : Bytes) (m : Nat) (hs : sep.length ≤ m) : ∀ l : List Bytes, (∀ x ∈ l, x.length ≤ m) → (join sep l).length ≤ l.length * (2 * m)
 | [], _ => by simp [join]
 | [x], h => by have := h x (by simp); simp only [join, List.length_singleton]; omega
 | x :: y :: r, h => by
  have ih := join_len sep m hs (y :: r) (fun z hz => h z (by simp [hz]))
  have := h x (by simp)
  rw [show join sep (x :: y :: r) = x ++ sep ++ join sep (y :: r) from rfl]
  simp only [List.length_append, List.length_cons] at ih ⊢
  rw [Nat.add_mul (r.length + 1) 1]
  omega
theorem whensS_snoc (y : List Tst) : ∀ (w : Bytes) (l : List (List Tst)), whensS w (l ++ [y]) = whensS w l ++ ((if l = [] then w else tOr) ++ join tAnd (y.map testS))
 | w, [] => by simp [whensS]
 | w, x :: l => by
  rw [List.cons_append]
  show w ++ join tAnd (x.map testS) ++ whensS tOr (l ++ [y]) = w ++ join tAnd (x.map testS) ++ whensS tOr l ++ _
  rw [whensS_snoc y tOr l]
  cases l with
  | nil => simp [whensS]
  | cons z l => simp
end Pr
end Go.Proofs.YtgbooiaedbpenaaGreatDoor
