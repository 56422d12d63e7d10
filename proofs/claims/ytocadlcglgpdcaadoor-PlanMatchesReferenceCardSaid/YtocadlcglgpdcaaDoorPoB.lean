/-
  Plan, plain laws: Nice for blocks, items, levels, halls.
-/
import Derived.Test.YtocadlcglgpdcaaDoorPoA
import Derived.Test.YtocadlcglgpdcaaDoorRlN
namespace Go.Proofs.YtocadlcglgpdcaaDoor
set_option linter.unusedVariables false
set_option linter.unusedSimpArgs false
namespace Pn
open Lx (Tk)
open Rl (Out Nice HeadP nxt)
theorem nice_tail {α : Type} (a : α) : Nice (fun l => Out.ok a l.tail) := by
  refine ⟨fun l => List.tail_suffix l, fun l m h => ?_, fun l m h => ?_⟩
  · cases l with
    | nil => exact absurd rfl h
    | cons t r => rfl
  · cases l with
    | nil => exact List.tail_suffix m
    | cons t r =>
      have hr : r = [] := h
      subst hr
      exact List.suffix_refl _
theorem nice_braced {α : Type} {one : List Tk → Out α} (he : Eat one) (hn : Nice one) : Nice (braced one) := (nice_loopC he hn).bind fun bs => nice_tail bs
theorem nice_block (at_ : Nat) : Nice (block at_) := nice_name.bind fun nm => (nice_must cOpen).bind fun _ => (nice_braced eat_row nice_row).bind fun rs => Nice.pure _
theorem nice_area (at_ : Nat) : Nice (area at_) := nice_name.bind fun nm => nice_box.bind fun b => (nice_must wHolds).bind fun _ => nice_num.bind fun h => (nice_must cSemi).bind fun _ => Nice.pure _
theorem nice_boxS : Nice boxS := nice_box.bind fun b => (nice_must cSemi).bind fun _ => Nice.pure _
theorem nice_door : Nice door := nice_num2.bind fun p => (nice_must cSemi).bind fun _ => Nice.pure _
theorem nice_itemK (k at_ : Nat) : Nice (itemK k at_) := by
  unfold itemK
  by_cases h1 : k = 1
  · simp only [h1, if_true]
    exact (nice_block at_).bind fun b => Nice.pure _
  · simp only [h1, if_false]
    by_cases h2 : k = 2
    · simp only [h2, if_true]
      exact (nice_area at_).bind fun b => Nice.pure _
    · simp only [h2, if_false]
      by_cases h3 : k = 3
      · simp only [h3, if_true]
        exact nice_boxS.bind fun b => Nice.pure _
      · simp only [h3, if_false]
        by_cases h4 : k = 4
        · simp only [h4, if_true]
          exact nice_boxS.bind fun b => Nice.pure _
        · simp only [h4, if_false]
          exact nice_door.bind fun b => Nice.pure _
theorem nice_item : Nice item := by
  have hsuf : ∀ l, (item l).left <:+ l := fun l => by
    cases l with
    | nil => exact List.suffix_refl _
    | cons t r =>
      rw [item_cons]
      split
      · exact List.suffix_refl _
      · exact ((nice_itemK _ _).suf r).trans (List.suffix_cons _ _)
  refine ⟨hsuf, fun l m h => ?_, fun l m h => ?_⟩
  · cases l with
    | nil => exact absurd rfl h
    | cons t r =>
      show item (t :: (r ++ m)) = _
      rw [item_cons] at h ⊢
      rw [item_cons]
      split
      · rfl
      · rename_i h0
        rw [if_neg h0] at h
        exact (nice_itemK _ _).far r m h
  · cases l with
    | nil => exact hsuf m
    | cons t r =>
      show (item (t :: (r ++ m))).left <:+ m
      rw [item_cons] at h ⊢
      split
      · rename_i h0
        rw [if_pos h0] at h
        cases h
      · rename_i h0
        rw [if_neg h0] at h
        exact (nice_itemK _ _).near r m h
theorem nice_level : Nice level := nice_atO.bind fun at_ => (nice_must wLevel).bind fun _ => nice_name.bind fun nm => (nice_must wHeight).bind fun _ => nice_num.bind fun h => (nice_must cOpen).bind fun _ => (nice_braced eat_item nice_item).bind fun its => Nice.pure _
theorem nice_end {α : Type} (a : α) : Nice (fun l : List Tk => if l = [] then Out.ok a l else Out.bad 4 l) := by
  refine ⟨fun l => ?_, fun l m h => ?_, fun l m h => ?_⟩
  · by_cases hl : l = []
    · simp only [hl, if_true]; exact List.suffix_refl _
    · simp only [hl, if_false]; exact List.suffix_refl _
  · have hl : l ≠ [] := by
      rintro rfl
      exact h rfl
    have hlm : l ++ m ≠ [] := by simp [hl]
    simp only [hl, hlm, if_false]
    rfl
  · have hl : l = [] := by
      by_cases hl : l = []
      · exact hl
      · simp only [hl, if_false] at h
        exact absurd h hl
    subst hl
    by_cases hm : m = []
    · simp only [hm, List.append_nil, if_true]; exact List.suffix_refl _
    · simp only [List.nil_append, hm, if_false]; exact List.suffix_refl _
theorem nice_hall : Nice hall := (nice_must wHall).bind fun _ => nice_name.bind fun nm => (nice_must wStage).bind fun _ => nice_num2.bind fun xy => (nice_must cOpen).bind fun _ => (nice_braced (Eat.after shr_atO (fun at_ => Eat.bind (eat_must wLevel) (fun _ => eat_name.shr.bind (fun nm => (eat_must wHeight).shr.bind (fun _ => eat_num.shr.bind (fun h => (eat_must cOpen).shr.bind (fun _ => (shr_braced eat_item.shr).bind (fun its => Shr.pure _)))))))) nice_level).bind fun ls => nice_end _
end Pn
end Go.Proofs.YtocadlcglgpdcaaDoor
