/-
  Plan, plain laws: with other offsets the parser comes to the same, with other offsets.
-/
import Derived.Test.YtocadlcglgpdcaaDoorPoB
import Derived.Test.YtocadlcglgpdcaaDoorRlQ
namespace Go.Proofs.YtocadlcglgpdcaaDoor
set_option linter.unusedVariables false
set_option linter.unusedSimpArgs false
namespace Pn
open Lx (Tk)
open Rl (Out Eqv nxt renT)
def renR (f : Nat → Nat) (x : Rw) : Rw := { x with at_ := f x.at_ }
def renB (f : Nat → Nat) (x : Bl) : Bl := { x with at_ := f x.at_, rows := x.rows.map (renR f) }
def renA (f : Nat → Nat) (x : Ar) : Ar := { x with at_ := f x.at_ }
def renIt (f : Nat → Nat) : It → It
  | .block b => .block (renB f b)
  | .area a => .area (renA f a)
  | .aisle b => .aisle b
  | .pillar b => .pillar b
  | .door p => .door p
def renL (f : Nat → Nat) (x : Lv) : Lv := { x with at_ := f x.at_, blocks := x.blocks.map (renB f), areas := x.areas.map (renA f) }
def renH (f : Nat → Nat) (x : Hl) : Hl := { x with levels := x.levels.map (renL f) }
theorem isw_ren (f : Nat → Nat) (x : Bytes) (l : List Tk) : isw x (l.map (renT f)) = isw x l := by
  cases l with
  | nil => rfl
  | cons t r => rfl
theorem headText_ren (f : Nat → Nat) (l : List Tk) : headText (l.map (renT f)) = headText l := by
  cases l with
  | nil => rfl
  | cons t r => rfl
theorem mkc_ren (f : Nat → Nat) (l : List Tk) : mkc (l.map (renT f)) = mkc l := by
  cases l with
  | nil => rfl
  | cons t r => rfl
theorem eqv_must (f : Nat → Nat) (x : Bytes) : Eqv f id (must x) (must x) := fun l => by
  unfold must
  rw [isw_ren]
  by_cases h : isw x l = true
  · rw [if_pos h, if_pos h, ← List.map_tail]
    rfl
  · rw [if_neg h, if_neg h]
    rfl
theorem eqv_num (f : Nat → Nat) : Eqv f id num num := (Rl.eqv_nxt f 2 none).bind fun t => Eqv.pure rfl
theorem eqv_name (f : Nat → Nat) : Eqv f id name name := (Rl.eqv_nxt f 1 none).bind fun t => Eqv.pure rfl
theorem eqv_atO (f : Nat → Nat) : Eqv f f atO atO := fun l => by
  cases l with
  | nil => rfl
  | cons t r => rfl
theorem eqv_num2 (f : Nat → Nat) : Eqv f id num2 num2 := (eqv_num f).bind fun x => (eqv_num f).bind fun y => Eqv.pure rfl
theorem eqv_box (f : Nat → Nat) : Eqv f id box box := (eqv_num f).bind fun x => (eqv_num f).bind fun y => (eqv_num f).bind fun z => (eqv_num f).bind fun u => Eqv.pure rfl
theorem eqv_mark (f : Nat → Nat) : Eqv f id mark mark := fun l => by
  have h : Eqv f id (fun l1 => (num l1).bind fun n l2 => if mkc l = 4 then (must wOf l2).bind fun _ l3 => (num l3).bind fun w l4 => .ok (⟨mkc l, n, w⟩ : Mk) l4 else .ok ⟨mkc l, n, 0⟩ l2) (fun l1 => (num l1).bind fun n l2 => if mkc l = 4 then (must wOf l2).bind fun _ l3 => (num l3).bind fun w l4 => .ok (⟨mkc l, n, w⟩ : Mk) l4 else .ok ⟨mkc l, n, 0⟩ l2) := (eqv_num f).bind fun n => by
    by_cases h4 : mkc l = 4
    · simp only [h4, if_true]
      exact (eqv_must f wOf).bind fun _ => (eqv_num f).bind fun w => Eqv.pure rfl
    · simp only [h4, if_false]
      exact Eqv.pure rfl
  have h1 := h l.tail
  unfold mark
  rw [mkc_ren, ← List.map_tail]
  exact h1
theorem eqv_loopG {α : Type} {f : Nat → Nat} {v : α → α} {stop : List Tk → Bool} {one : List Tk → Out α} (hs : ∀ l, stop (l.map (renT f)) = stop l) (h : Eqv f v one one) : ∀ (k : Nat) (acc : List α), Eqv f (List.map v) (loopG stop one k acc) (loopG stop one k (acc.map v))
  | 0, acc => Eqv.pure rfl
  | k + 1, acc => fun l => by
    unfold loopG
    rw [hs]
    by_cases h0 : stop l = true
    · rw [if_pos h0, if_pos h0]
      rfl
    · rw [if_neg h0, if_neg h0]
      have hk : ∀ a, Eqv f (List.map v) (loopG stop one k (acc ++ [a])) (loopG stop one k (acc.map v ++ [v a])) := fun a => by
        have h2 := eqv_loopG hs h k (acc ++ [a])
        rw [List.map_append] at h2
        exact h2
      exact (Eqv.bind (k := fun a => loopG stop one k (acc ++ [a])) (k' := fun a => loopG stop one k (acc.map v ++ [a])) h hk) l
theorem eqv_loop {α : Type} {f : Nat → Nat} {v : α → α} {stop : List Tk → Bool} {one : List Tk → Out α} (hs : ∀ l, stop (l.map (renT f)) = stop l) (h : Eqv f v one one) : Eqv f (List.map v) (loop stop one) (loop stop one) := fun l => by
  unfold loop
  rw [List.length_map]
  exact eqv_loopG hs h (l.length + 1) [] l
theorem eqv_marks (f : Nat → Nat) : Eqv f (List.map id) marks marks := eqv_loop (fun l => by rw [mkc_ren]) (eqv_mark f)
theorem eqv_row (f : Nat → Nat) : Eqv f (renR f) row row :=
  (eqv_atO f).bind fun at_ => (eqv_must f wRow).bind fun _ => (eqv_name f).bind fun nm => (eqv_must f wAt).bind fun _ => (eqv_num2 f).bind fun xy => (eqv_must f wSeats).bind fun _ => (eqv_num f).bind fun a => (eqv_must f wTo).bind fun _ => (eqv_num f).bind fun t => (eqv_must f wStep).bind fun _ => (eqv_num f).bind fun st => (eqv_marks f).bind fun ms => (eqv_must f cSemi).bind fun _ => Eqv.pure (by simp [renR])
theorem eqv_braced {α : Type} {f : Nat → Nat} {v : α → α} {one : List Tk → Out α} (h : Eqv f v one one) : Eqv f (List.map v) (braced one) (braced one) :=
  (eqv_loop (fun l => isw_ren f cClose l) h).bind fun bs => fun l => by
    rw [← List.map_tail]
    rfl
theorem eqv_block (f : Nat → Nat) (at_ : Nat) : Eqv f (renB f) (block at_) (block (f at_)) := (eqv_name f).bind fun nm => (eqv_must f cOpen).bind fun _ => (eqv_braced (eqv_row f)).bind fun rs => Eqv.pure rfl
theorem eqv_area (f : Nat → Nat) (at_ : Nat) : Eqv f (renA f) (area at_) (area (f at_)) := (eqv_name f).bind fun nm => (eqv_box f).bind fun b => (eqv_must f wHolds).bind fun _ => (eqv_num f).bind fun h => (eqv_must f cSemi).bind fun _ => Eqv.pure rfl
theorem eqv_boxS (f : Nat → Nat) : Eqv f id boxS boxS := (eqv_box f).bind fun b => (eqv_must f cSemi).bind fun _ => Eqv.pure rfl
theorem eqv_door (f : Nat → Nat) : Eqv f id door door := (eqv_num2 f).bind fun b => (eqv_must f cSemi).bind fun _ => Eqv.pure rfl
theorem eqv_itemK (f : Nat → Nat) (k at_ : Nat) : Eqv f (renIt f) (itemK k at_) (itemK k (f at_)) := by
  unfold itemK
  by_cases h1 : k = 1
  · simp only [h1, if_true]
    exact (eqv_block f at_).bind fun b => Eqv.pure rfl
  · simp only [h1, if_false]
    by_cases h2 : k = 2
    · simp only [h2, if_true]
      exact (eqv_area f at_).bind fun b => Eqv.pure rfl
    · simp only [h2, if_false]
      by_cases h3 : k = 3
      · simp only [h3, if_true]
        exact (eqv_boxS f).bind fun b => Eqv.pure rfl
      · simp only [h3, if_false]
        by_cases h4 : k = 4
        · simp only [h4, if_true]
          exact (eqv_boxS f).bind fun b => Eqv.pure rfl
        · simp only [h4, if_false]
          exact (eqv_door f).bind fun b => Eqv.pure rfl
theorem eqv_item (f : Nat → Nat) : Eqv f (renIt f) item item := fun l => by
  cases l with
  | nil => rfl
  | cons t r =>
    rw [List.map_cons]
    rw [show renT f t = { t with at_ := f t.at_ } from rfl, item_cons, item_cons]
    by_cases h : Rl.codeIn sortsL 1 t.text = 0
    · rw [if_pos h, if_pos h]
      rfl
    · rw [if_neg h, if_neg h]
      exact eqv_itemK f _ t.at_ r
theorem lev_ren (f : Nat → Nat) (nm : Bytes) (h : Nat) (its : List It) (a : Nat) : lev nm h (its.map (renIt f)) (f a) = renL f (lev nm h its a) := by
  unfold lev renL
  simp only [List.filterMap_map, List.map_filterMap, Lv.mk.injEq, true_and]
  refine ⟨?_, ?_, ?_, ?_, ?_, trivial⟩ <;> (congr 1; funext x; cases x <;> rfl)
theorem eqv_level (f : Nat → Nat) : Eqv f (renL f) level level := (eqv_atO f).bind fun at_ => (eqv_must f wLevel).bind fun _ => (eqv_name f).bind fun nm => (eqv_must f wHeight).bind fun _ => (eqv_num f).bind fun h => (eqv_must f cOpen).bind fun _ => (eqv_braced (eqv_item f)).bind fun its => Eqv.pure (lev_ren f nm h its at_)
theorem eqv_hall (f : Nat → Nat) : Eqv f (renH f) hall hall := (eqv_must f wHall).bind fun _ => (eqv_name f).bind fun nm => (eqv_must f wStage).bind fun _ => (eqv_num2 f).bind fun xy => (eqv_must f cOpen).bind fun _ => (eqv_braced (eqv_level f)).bind fun ls => fun l => by
  cases l with
  | nil => rfl
  | cons t r => rfl
end Pn
end Go.Proofs.YtocadlcglgpdcaaDoor
