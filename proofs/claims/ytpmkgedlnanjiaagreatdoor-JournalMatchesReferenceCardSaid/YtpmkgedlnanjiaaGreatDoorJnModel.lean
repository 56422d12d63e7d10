/-
  The journal of layer 44 as plain data, over any digest: what each function computes. No program in sight.
-/
import Derived.Test.YtpmkgedlnanjiaaGreatDoorDkModel
import Derived.Lib.ItoaLen
namespace Go.Proofs.YtpmkgedlnanjiaaGreatDoor
open Go
namespace Jn
/-- The first number of some with a property. -/
@[irreducible] def first (N : Nat) (P : Nat → Bool) : Option Nat := (List.range N).find? P
/-- A number with leading zeros. -/
def dgt (n : Nat) (w : Nat) : Bytes := List.replicate (w - (Lib.itoa (n : Int)).length) 48 ++ Lib.itoa (n : Int)
/-- A content, cut or filled up to 48 bytes. -/
def fit (c : Bytes) : Bytes := c.take 48 ++ List.replicate (48 - c.length) 0
def zero : Bytes := List.replicate 64 0
section
variable (sm : Bytes → Bytes)
def sealed (p : Nat) (c : Bytes) : Bytes := sm (dgt p 8 ++ fit c) ++ fit c
def head (p n : Nat) : Bytes := sealed sm p (dgt n 8)
def sector (p : Nat) (s : Bytes) : Bytes := sealed sm p (dgt s.length 2 ++ s)
/-- The count of a head. -/
def cnt (p : Nat) (s : Bytes) (room : Nat) : Option Nat := if s = zero then some 0 else first (room + 1) (fun n => decide (head sm p n = s))
/-- The piece of a sector. -/
def piece (p : Nat) (s : Bytes) : Option Bytes := (first 47 (fun n => decide (1 ≤ n ∧ sector sm p ((s.drop 18).take n) = s))).map (fun n => (s.drop 18).take n)
end
/-- The pieces of a text. -/
def split : Nat → Bytes → List Bytes
  | 0, _ => []
  | k + 1, s => if s = [] then [] else s.take 46 :: split k (s.drop 46)
def pieces (s : Bytes) : List Bytes := split s.length s
def text (l : List Bytes) : Bytes := l.flatMap (fun s => Lib.itoa (s.length : Int) ++ [58] ++ s)
/-- What stands before the first colon, and behind it. -/
def cutC : Bytes → Option (Bytes × Bytes)
  | [] => none
  | c :: r => if c = 58 then some ([], r) else (cutC r).map (fun x => (c :: x.1, x.2))
/-- The length that digits are, if they are written as one. -/
def lenOf (s : Bytes) : Option Nat := first 2001 (fun n => decide (Lib.itoa (n : Int) = s))
/-- The records of a text. -/
def parse : Nat → Bytes → Option (List Bytes)
  | 0, s => if s = [] then some [] else none
  | k + 1, s => if s = [] then some [] else
    match cutC s with
    | none => none
    | some (a, r) =>
      match lenOf a with
      | none => none
      | some n => if r.length < n then none else (parse k (r.drop n)).map (fun l => r.take n :: l)
def records (s : Bytes) : Option (List Bytes) := parse s.length s
/-- A journal: its sectors, its count, its records, whether it is broken. -/
structure J where
  n : Nat
  c : Nat
  l : List Bytes
  broken : Bool
deriving DecidableEq
def maxC : Option Nat → Option Nat → Option Nat
  | none, b => b
  | a, none => a
  | some a, some b => some (max a b)
/-- Sectors are written from a place on. -/
def writes (D : DK) (p : Nat) : List Bytes → Int × DK
  | [] => (0, D)
  | s :: r => if (D.write (p : Int) s).1 ≠ 0 then D.write (p : Int) s else writes (D.write (p : Int) s).2 (p + 1) r
/-- .. and the disk is synchronized. -/
def put (D : DK) (p : Nat) (l : List Bytes) : Int × DK := if (writes D p l).1 ≠ 0 then writes D p l else (writes D p l).2.sync
section
variable (sm : Bytes → Bytes)
/-- The pieces that are found, one after another. -/
def found (D : DK) : Nat → Option Bytes
  | 0 => some []
  | k + 1 => match found D k with
    | none => none
    | some t => (piece sm (2 + k) (D.cur (2 + k))).map (fun x => t ++ x)
/-- A head is repaired, if it needs to be. -/
def mend (D : DK) (p c : Nat) (s : Bytes) : Int × DK :=
  if s = head sm p c ∨ (c = 0 ∧ s = zero) then (0, D)
  else if (put D p [zero]).1 ≠ 0 ∨ c = 0 then put D p [zero] else put (put D p [zero]).2 p [head sm p c]
def openJ (D : DK) : (Int × Option J) × DK :=
  if D.off = true then ((24, none), D)
  else if D.n < 3 then ((1, none), D)
  else match maxC (cnt sm 0 (D.cur 0) (D.n - 2)) (cnt sm 1 (D.cur 1) (D.n - 2)) with
    | none => ((25, none), D)
    | some c => match (found sm D c).bind records with
      | none => ((25, none), D)
      | some l =>
        if (mend sm D 0 c (D.cur 0)).1 ≠ 0 then (((mend sm D 0 c (D.cur 0)).1, none), (mend sm D 0 c (D.cur 0)).2)
        else (((mend sm (mend sm D 0 c (D.cur 0)).2 1 c (D.cur 1)).1, if (mend sm (mend sm D 0 c (D.cur 0)).2 1 c (D.cur 1)).1 ≠ 0 then none else some ⟨D.n, c, l, false⟩), (mend sm (mend sm D 0 c (D.cur 0)).2 1 c (D.cur 1)).2)
def room (j : J) : Nat := j.n - 2 - j.c
/-- The steps of an Append, as long as they succeed. -/
def steps (D : DK) : List (Nat × List Bytes) → Int × DK
  | [] => (0, D)
  | (p, l) :: r => if (put D p l).1 ≠ 0 then put D p l else steps (put D p l).2 r
/-- The sectors of pieces from a place on. -/
def sectors : Nat → List Bytes → List Bytes
  | _, [] => []
  | p, s :: r => sector sm p s :: sectors (p + 1) r
def plan (c : Nat) (ps : List Bytes) : List (Nat × List Bytes) :=
  [(2 + c, ps.map (fun _ => zero)), (2 + c, sectors sm (2 + c) ps), (1, [head sm 1 (c + ps.length)]), (0, [head sm 0 (c + ps.length)])]
def append (j : J) (D : DK) (rs : List Bytes) : (Int × J) × DK :=
  if j.broken = true then ((12, j), D)
  else if rs.any (fun r => decide (2000 < r.length)) = true then ((3, j), D)
  else if room j < (pieces (text rs)).length then ((23, j), D)
  else if rs = [] then ((0, j), D)
  else if (steps D (plan sm j.c (pieces (text rs)))).1 ≠ 0 then (((steps D (plan sm j.c (pieces (text rs)))).1, { j with broken := true }), (steps D (plan sm j.c (pieces (text rs)))).2)
  else ((0, ⟨j.n, j.c + (pieces (text rs)).length, j.l ++ rs, false⟩), (steps D (plan sm j.c (pieces (text rs)))).2)
end
/-! ### Lengths -/
theorem fit_len (c : Bytes) : (fit c).length = 48 := by
  unfold fit
  rw [List.length_append, List.length_take, List.length_replicate]
  omega
theorem sealed_len {sm : Bytes → Bytes} (h : ∀ s, (sm s).length = 16) (p : Nat) (c : Bytes) : (sealed sm p c).length = 64 := by
  unfold sealed
  rw [List.length_append, h, fit_len]
theorem zero_len : zero.length = 64 := by decide
theorem split_flat : ∀ (k : Nat) (s : Bytes), s.length ≤ k → (split k s).flatten = s
  | 0, s, h => by
    have : s = [] := List.eq_nil_of_length_eq_zero (by omega)
    rw [this]
    rfl
  | k + 1, s, h => by
    unfold split
    by_cases hs : s = []
    · rw [if_pos hs, hs]; rfl
    · rw [if_neg hs, List.flatten_cons, split_flat k _ (by rw [List.length_drop]; have : 0 < s.length := List.length_pos_iff.2 hs; omega), List.take_append_drop]
theorem split_len : ∀ (k : Nat) (s : Bytes), ∀ x ∈ split k s, 1 ≤ x.length ∧ x.length ≤ 46
  | 0, s, x, h => by simp [split] at h
  | k + 1, s, x, h => by
    unfold split at h
    by_cases hs : s = []
    · rw [if_pos hs] at h; simp at h
    · rw [if_neg hs] at h
      rcases List.mem_cons.1 h with rfl | h
      · rw [List.length_take]
        have : 0 < s.length := List.length_pos_iff.2 hs
        omega
      · exact split_len k _ x h
end Jn
end Go.Proofs.YtpmkgedlnanjiaaGreatDoor
