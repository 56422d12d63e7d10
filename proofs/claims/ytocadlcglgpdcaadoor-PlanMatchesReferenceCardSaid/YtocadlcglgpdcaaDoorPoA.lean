/-
  Plan, plain laws: a part reads no further than it takes and the next token (Nice, as in RlP).
-/
import Derived.Test.YtocadlcglgpdcaaDoorPnPR
import Derived.Test.YtocadlcglgpdcaaDoorRlP
namespace Go.Proofs.YtocadlcglgpdcaaDoor
set_option linter.unusedVariables false
set_option linter.unusedSimpArgs false
namespace Pn
open Lx (Tk)
open Rl (Out Nice HeadP nxt)
theorem loopG_fuel {α : Type} {stop : List Tk → Bool} {one : List Tk → Out α} (he : Eat one) : ∀ (f g : Nat) (acc : List α) (l : List Tk), l.length < f → l.length < g → loopG stop one f acc l = loopG stop one g acc l
  | 0, g, acc, l, h, _ => by omega
  | f + 1, 0, acc, l, _, h => by omega
  | f + 1, g + 1, acc, l, h, h' => by
    unfold loopG
    split
    · rfl
    · cases h1 : one l with
      | bad c q => rfl
      | ok a q =>
        have := he l a q h1
        exact loopG_fuel he f g (acc ++ [a]) q (by omega) (by omega)
theorem headP_isw (x : Bytes) : HeadP (fun l => isw x l = true) := ⟨by simp [isw], fun t r r' h => h⟩
theorem headP_mkc : HeadP (fun l => ¬ mkc l = 0) := ⟨by simp [mkc, Rl.is], fun t r r' h => h⟩
theorem nice_loopG {α : Type} {stop : List Tk → Bool} {one : List Tk → Out α} (hs : HeadP (fun l => stop l = true)) (hn : Nice one) : ∀ (k : Nat) (acc : List α), Nice (loopG stop one k acc)
  | 0, acc => Nice.pure acc
  | k + 1, acc => Nice.ite hs (Nice.pure acc) (hn.bind fun a => nice_loopG hs hn k (acc ++ [a]))
theorem nice_of_fuel {α : Type} {stop : List Tk → Bool} {one : List Tk → Out α} (he : Eat one) (h : ∀ k, Nice (loopG stop one k [])) : Nice (loop stop one) := by
  have e : ∀ (l : List Tk) (k : Nat), l.length < k → loop stop one l = loopG stop one k [] l := fun l k hk => loopG_fuel he _ _ _ _ (Nat.lt_succ_self _) hk
  refine ⟨fun l => (h _).suf l, fun l m hl => ?_, fun l m hl => ?_⟩
  · have h1 := (h ((l ++ m).length + 1)).far l m
    rw [← e l _ (by simp; omega)] at h1
    exact h1 hl
  · have h1 := (h ((l ++ m).length + 1)).near l m
    rw [← e l _ (by simp; omega)] at h1
    exact h1 hl
theorem nice_must (x : Bytes) : Nice (must x) := Nice.iteTail (f := fun l => Out.ok () l) (headP_isw x) (Nice.pure ()) (Nice.fail 4)
theorem nice_num : Nice num := (Rl.nice_nxt 2 none).bind fun t => Nice.pure _
theorem nice_name : Nice name := (Rl.nice_nxt 1 none).bind fun t => Nice.pure _
theorem nice_num2 : Nice num2 := nice_num.bind fun x => nice_num.bind fun y => Nice.pure _
theorem nice_box : Nice box := nice_num.bind fun x => nice_num.bind fun y => nice_num.bind fun z => nice_num.bind fun u => Nice.pure _
/-- A part that looks at its first token. -/
theorem nice_head {α : Type} {f : List Tk → Out α} {g : Tk → List Tk → Out α} {e : Nat} (hg : ∀ t, Nice (g t)) (h0 : f [] = .bad e []) (h1 : ∀ t r, f (t :: r) = g t r) : Nice f := by
  have hsuf : ∀ l, (f l).left <:+ l := fun l => by
    cases l with
    | nil => rw [h0]; exact List.suffix_refl _
    | cons t r => rw [h1]; exact ((hg t).suf r).trans (List.suffix_cons _ _)
  refine ⟨hsuf, fun l m hl => ?_, fun l m hl => ?_⟩
  · cases l with
    | nil => rw [h0] at hl; exact absurd rfl hl
    | cons t r =>
      rw [h1] at hl ⊢
      show f (t :: (r ++ m)) = _
      rw [h1]
      exact (hg t).far r m hl
  · cases l with
    | nil => exact hsuf m
    | cons t r =>
      rw [h1] at hl
      show (f (t :: (r ++ m))).left <:+ m
      rw [h1]
      exact (hg t).near r m hl
theorem nice_mark : Nice mark := by
  refine nice_head (e := 4) (g := fun t r => (num r).bind fun n l1 => if mkc [t] = 4 then (must wOf l1).bind fun _ l2 => (num l2).bind fun w l3 => .ok ⟨mkc [t], n, w⟩ l3 else .ok ⟨mkc [t], n, 0⟩ l1) (fun t => nice_num.bind fun n => ?_) rfl (fun t r => rfl)
  by_cases h : mkc [t] = 4
  · simp only [h, if_true]
    exact (nice_must wOf).bind fun _ => nice_num.bind fun w => Nice.pure _
  · simp only [h, if_false]
    exact Nice.pure _
theorem eat_mark : Eat mark := fun l a r h => mark_len h
theorem nice_marks : Nice marks := by
  refine nice_of_fuel eat_mark (fun k => ?_)
  suffices h : ∀ (k : Nat) (acc : List Mk), Nice (loopG (fun l => decide (mkc l = 0)) mark k acc) from h k []
  intro k
  induction k with
  | zero => intro acc; exact Nice.pure acc
  | succ k ih =>
    intro acc
    have h := Nice.ite (f := fun l => (mark l).bind fun a r => loopG (fun l => decide (mkc l = 0)) mark k (acc ++ [a]) r) (g := fun l => Out.ok acc l) headP_mkc (nice_mark.bind fun a => ih (acc ++ [a])) (Nice.pure acc)
    have e : loopG (fun l => decide (mkc l = 0)) mark (k + 1) acc = fun l => if ¬ mkc l = 0 then (mark l).bind fun a r => loopG (fun l => decide (mkc l = 0)) mark k (acc ++ [a]) r else Out.ok acc l := by
      funext l
      rw [loopG]
      by_cases h0 : mkc l = 0
      · simp [h0]
      · simp [h0]
    rw [e]
    exact h
theorem nice_atO : Nice atO := by
  refine ⟨fun l => ?_, fun l m h => ?_, fun l m h => ?_⟩
  · cases l <;> exact List.suffix_refl _
  · cases l with
    | nil => exact absurd rfl h
    | cons t r => rfl
  · cases l with
    | nil => cases m <;> exact List.suffix_refl _
    | cons t r => cases h
theorem nice_row : Nice row := nice_atO.bind fun at_ => (nice_must wRow).bind fun _ => nice_name.bind fun nm => (nice_must wAt).bind fun _ => nice_num2.bind fun xy => (nice_must wSeats).bind fun _ => nice_num.bind fun f => (nice_must wTo).bind fun _ => nice_num.bind fun t => (nice_must wStep).bind fun _ => nice_num.bind fun st => nice_marks.bind fun ms => (nice_must cSemi).bind fun _ => Nice.pure _
theorem nice_loopC {α : Type} {one : List Tk → Out α} (he : Eat one) (hn : Nice one) : Nice (loop (isw cClose) one) := nice_of_fuel he (fun k => nice_loopG (headP_isw cClose) hn k [])
end Pn
end Go.Proofs.YtocadlcglgpdcaaDoor
