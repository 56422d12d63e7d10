/-
  Printer, plain laws: what is found out about a line when it is looked through.
-/
import Derived.Test.YtgbooiaedbpenaaDoorPrO
namespace Go.Proofs.YtgbooiaedbpenaaDoor
set_option linter.unusedVariables false
set_option linter.unusedSimpArgs false
open Go Go.RowKit

namespace Pr
/-- A line without its line feed. -/
def lineT (x : Nat × Bytes) : Bytes := List.replicate x.1 9 ++ x.2
theorem lineB_T (x : Nat × Bytes) : lineB x = lineT x ++ [10] := rfl
/-- What is asked of a line that has d tabs. -/
structure LineK (d : Nat) (L : Bytes) : Prop where
  lt : d < L.length
  tab : ∀ j, j < d → L[j]? = some 9
  end_ : ∀ c, L[d]? = some c → c ≠ 9 ∧ c ≠ 32
  last : ∀ c, L[L.length - 1]? = some c → c ≠ 32
  in_ : ∀ k, d ≤ k → ∀ c e, L[k]? = some c → L[k + 1]? = some e → c ≠ 9 ∧ ¬ (c = 32 ∧ e = 32)
  nl : ∀ (k : Nat) (c : UInt8), L[k]? = some c → c ≠ 10
theorem lineT_get {x : Nat × Bytes} {k : Nat} (h : x.1 ≤ k) : (lineT x)[k]? = x.2[k - x.1]? := by
  unfold lineT
  rw [List.getElem?_append_right (by simpa using h)]
  simp
theorem lineT_len (x : Nat × Bytes) : (lineT x).length = x.1 + x.2.length := by simp [lineT]
theorem lineT_last {x : Nat × Bytes} (h : x.2 ≠ []) : (lineT x)[(lineT x).length - 1]? = x.2.getLast? := by
  have h1 := List.length_pos_iff.2 h
  rw [lineT_len, lineT_get (by omega), List.getLast?_eq_getElem?]
  congr 1
  omega
theorem Lg.line {x : Nat × Bytes} (h : Lg x.2) : LineK x.1 (lineT x) where
  lt := by
    have := List.length_pos_iff.2 h.1
    rw [lineT_len]
    omega
  tab := fun j hj => by
    unfold lineT
    rw [List.getElem?_append_left (by simpa using hj)]
    simp [hj]
  end_ := fun c hc => by
    rw [lineT_get (Nat.le_refl _), Nat.sub_self] at hc
    have hm : c ∈ x.2 := List.mem_of_getElem? hc
    cases hx : x.2 with
    | nil => exact absurd hx h.1
    | cons a q =>
      rw [hx] at hc
      cases hc
      exact ⟨(h.2.2.2.1 c hm).1, h.2.1 c q hx⟩
  last := fun c hc => by
    rw [lineT_last h.1] at hc
    rintro rfl
    exact h.2.2.1 hc
  in_ := fun k hk c e hc he => by
    rw [lineT_get hk] at hc
    rw [lineT_get (by omega), show k + 1 - x.1 = (k - x.1) + 1 by omega] at he
    refine ⟨(h.2.2.2.1 c (List.mem_of_getElem? hc)).1, ?_⟩
    rintro ⟨rfl, rfl⟩
    refine h.2.2.2.2 (x.2.take (k - x.1)) (x.2.drop (k - x.1 + 2)) ?_
    have h1 : x.2.drop (k - x.1) = 32 :: x.2.drop (k - x.1 + 1) := by
      obtain ⟨hl, e1⟩ := List.getElem?_eq_some_iff.1 hc
      rw [List.drop_eq_getElem_cons hl, e1]
    have h2 : x.2.drop (k - x.1 + 1) = 32 :: x.2.drop (k - x.1 + 2) := by
      obtain ⟨hl, e1⟩ := List.getElem?_eq_some_iff.1 he
      rw [List.drop_eq_getElem_cons hl, e1]
    rw [← h2, ← h1, List.take_append_drop]
  nl := fun k c hc => by
    by_cases hk : x.1 ≤ k
    · rw [lineT_get hk] at hc
      exact (h.2.2.2.1 c (List.mem_of_getElem? hc)).2
    · unfold lineT at hc
      rw [List.getElem?_append_left (by rw [List.length_replicate]; omega)] at hc
      rw [(List.mem_replicate.1 (List.mem_of_getElem? hc)).2]
      decide
/-- Where the look through a text of lines stands: done lines p, lines that are left q, the depth in front of them. -/
structure LAt (l p q : List (Nat × Bytes)) (a : Nat) : Prop where
  eq : l = p ++ q
  lg : ∀ x ∈ q, Lg x.2
  dp : Dp a q 0
theorem LAt.start {l : List (Nat × Bytes)} (h : ∀ x ∈ l, Lg x.2) (hd : Dp 0 l 0) : LAt l [] l 0 := ⟨rfl, h, hd⟩
/-- The depth behind a line. -/
def nextD (x : Nat × Bytes) : Nat := if x.2.getLast? = some 123 then x.1 + 1 else x.1
theorem LAt.step {l p q : List (Nat × Bytes)} {x : Nat × Bytes} {a : Nat} (h : LAt l p (x :: q) a) :
    a = (if x.2.getLast? = some 125 then x.1 + 1 else x.1) ∧ LineK x.1 (lineT x) ∧ x.2 ≠ [] ∧ LAt l (p ++ [x]) q (nextD x) :=
  ⟨h.dp.1, (h.lg x (by simp)).line, (h.lg x (by simp)).1, by rw [h.eq]; simp, fun y hy => h.lg y (by simp [hy]), h.dp.2⟩
theorem LAt.full {l p q : List (Nat × Bytes)} {a : Nat} (h : LAt l p q a) : Pr.full l = Pr.full p ++ Pr.full q := by
  rw [h.eq]
  exact List.flatMap_append
theorem LAt.nil {l p : List (Nat × Bytes)} {a : Nat} (h : LAt l p [] a) : a = 0 ∧ Pr.full l = Pr.full p := ⟨h.dp, by rw [h.full]; simp [Pr.full]⟩
theorem LAt.cons {l p q : List (Nat × Bytes)} {x : Nat × Bytes} {a : Nat} (h : LAt l p (x :: q) a) : Pr.full l = Pr.full p ++ (lineT x ++ 10 :: Pr.full q) := by
  rw [h.full]
  show _ ++ (lineB x ++ Pr.full q) = _
  rw [lineB_T, List.append_assoc]
  rfl
/-- Halls and rules that can be written: their lines. -/
theorem hall_lines {h : Hl} (ho : hallOk h = true) : (∀ x ∈ hallL h, Lg x.2) ∧ Dp 0 (hallL h) 0 := ⟨(hall_lws ho).2.2.2, hall_dp h⟩
theorem rules_lines {l : List Itm} (ho : rulesOk l = true) : (∀ x ∈ l.map itemL, Lg x.2) ∧ Dp 0 (l.map itemL) 0 := ⟨(rules_lws (List.all_eq_true.1 (and2 ho).2)).2.2.2, rules_dp l⟩
/-- A text that is returned: none, or one of lines. -/
theorem fin_lines {ok : Bool} {l : List (Nat × Bytes)} (h : ok = true → (∀ x ∈ l, Lg x.2) ∧ Dp 0 l 0) : ∃ m : List (Nat × Bytes), (fin ok (puts [] l)).1 = full m ∧ (∀ x ∈ m, Lg x.2) ∧ Dp 0 m 0 := by
  rw [fin_full]
  split
  · exact ⟨[], rfl, fun x hx => by simp at hx, rfl⟩
  · rename_i ho
    split
    · exact ⟨[], rfl, fun x hx => by simp at hx, rfl⟩
    · exact ⟨l, rfl, h (by simpa using ho)⟩
end Pr
end Go.Proofs.YtgbooiaedbpenaaDoor
