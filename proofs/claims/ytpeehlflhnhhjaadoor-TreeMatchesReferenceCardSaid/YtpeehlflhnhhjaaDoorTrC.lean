/-
  A range over a function whose body is always walked to its end, where the iterator says something of what it hands over in the world in which it hands it over.
-/
import Derived.Test.YtpeehlflhnhhjaaDoorTrB
namespace Go.Proofs.YtpeehlflhnhhjaaDoor
set_option linter.unusedVariables false
set_option linter.unusedSimpArgs false
open Go Go.RowKit Go.Shelf

section
variable {α : Type} {P : Program} {n : Nat}
/-- The function g hands over a list of things in S, one after the other: of each x it hands over, Px x holds in that world; a round keeps Kp. -/
def Hands (P : Program) (n : Nat) (g : Nat) (lb : Array Value) (enc : α → Value) (Px : α → World → Prop) (Kp : World → World → Prop) (S : List α → Prop) (N : Nat) (w : World) : Prop :=
  ∀ (l : Nat) (J : List α → World → Prop) (W : World), Below w.heap.size w W → (∀ pre A B, J pre A → A.grownBy B none → J pre B) →
    (∀ pre A D, W.heap.size ≤ D → A.heap[D]? = some (.deferred (some [])) → J pre A → J pre (A.putObj D (.deferred none))) →
    (∀ pre x A, J pre A → Px x A → pre.length < N → YieldAt Fence.wide (n - 1) P l #[enc x] A fun e B => e = .returned (.bool true) ∧ J (pre ++ [x]) B ∧ Kp A B ∧ KeepsOthers A B) →
    J [] W → CallsIn Fence.wide n P g (#[.func (.yield l) #[] #[]] ++ lb) W fun e B => (∃ v, e = .returned v) ∧ ∃ xs, S xs ∧ J xs B
/-- What speaks of cells alone stands through a turn of what is no cells, and through new blocks. -/
def Cellish (B : Nat) (I : World → Prop) : Prop := (∀ W o, I W → I (W.alloc o)) ∧ (∀ W W', I W → W.grownBy W' none → I W') ∧ ∀ W l o o', B ≤ l → W.heap[l]? = some o → o.isCells = false → I W → I (W.putObj l o')

theorem range_hands {g : Operand} {p : Tmp} {assign body : Code} {Q : Exit → Act → World → Prop} {a : Act} {w : World} {gf : Nat} {lb : Array Value}
    (h1 : 1 ≤ n) (hg : a.eval g = .func (.func gf) #[] lb) (eg : ∀ args w, (callFunc gf args).run P w = .ok (.enter gf args) w)
    {enc : α → Value} {Px : α → World → Prop} {Kp : World → World → Prop} {S : List α → Prop} {N : Nat} (hseq : Hands P (n - 1) gf lb enc Px Kp S N w)
    (hKt : ∀ {A B C : World}, Kp A B → Kp B C → Kp A C) (hKb : ∀ (W : World) (l : Nat) (o o' : Obj), w.heap.size ≤ l → W.heap[l]? = some o → o.isCells = false → Kp W (W.putObj l o'))
    (I : List α → World → Prop) (hI : ∀ pre, Cellish w.heap.size (I pre)) (hPx : ∀ x, Cellish w.heap.size (Px x)) (h0 : I [] w) (a₁ : α → Act)
    (hassign : ∀ (l : Nat) (x : α) (W : World) (K : Act → World → Prop), K (a₁ x) W →
      assign.wpIn (Fence.wide.inRound l) (n - 1 - 1) P (Exit.then K (fun _ _ _ => False)) { tmps := a.tmps.setIfInBounds p (enc x), defers := [] } W)
    (hbody : ∀ (l : Nat) (pre : List α) (x : α) (W : World), I pre W → Px x W → pre.length < N → body.wpIn (Fence.wide.inRound l) (n - 1 - 1) P (fun e _ W' => e = .normal ∧ KeepsOthers W W' ∧ Kp W W' ∧ I (pre ++ [x]) W') (a₁ x) W)
    (hdone : ∀ (D : Nat) (xs : List α) (W : World), w.heap.size ≤ D → S xs → I xs W → W.heap[D]? = some (.deferred (some [])) → Q .normal { a with defers := { target := .collected D, args := #[] } :: a.defers } W) :
    (Code.rangeFunc g #[p] assign body).wpIn Fence.wide n P Q a w := by
  refine wpIn_rangeFunc fun fn hfn => ?_
  let rec0 : LoopState → Loop := fun st => { state := st, pending := none, fn := fn, tmps := a.tmps, params := #[p], assign := assign, body := body, defers := w.heap.size }
  have hrec : ∀ st, rec0 st = { state := st, pending := none, fn := fn, tmps := a.tmps, params := #[p], assign := assign, body := body, defers := w.heap.size } := fun _ => rfl
  generalize rec0 = R at hrec
  obtain ⟨W1, hW1⟩ : ∃ W1, W1 = (w.alloc (.deferred (some []))).alloc (.loop (R .ready)) := ⟨_, rfl⟩
  have hL : W1.heap[w.heap.size + 1]? = some (.loop (R .ready)) := by
    rw [hW1]; have := World.alloc_heap_new (w.alloc (.deferred (some []))) (.loop (R .ready)); rwa [World.size_alloc] at this
  have hD : W1.heap[w.heap.size]? = some (.deferred (some [])) := by
    rw [hW1]; exact (Below.heap_alloc _ _ _ (by simp)).trans (World.alloc_heap_new w _)
  have hI1 : I [] W1 := by rw [hW1]; exact (hI _).1 _ _ ((hI _).1 _ _ h0)
  have hb1 : Below w.heap.size w W1 := by
    rw [hW1]; exact ((Below.refl _ w).alloc (Nat.le_refl _) _).alloc (by simp) _
  refine ⟨w.heap.size + 1, [{ target := .collected w.heap.size, args := #[] }], W1, { target := .fn (.func gf) lb, args := #[.func (.yield (w.heap.size + 1)) #[] #[]] }, W1, gf,
    #[.func (.yield (w.heap.size + 1)) #[] #[]] ++ lb, W1, ?_, ?_, fun _ _ => trivial, ?_, fun _ => h1, ?_⟩
  · rw [hW1, hrec]; exact run_enterLoop_outer _ _ _ _ _
  · simp only [resolve, hg]
    simp [go_sem]
  · simp [invoke, go_sem, eg]
  · refine (hseq (w.heap.size + 1) (fun pre W => I pre W ∧ W.heap[w.heap.size + 1]? = some (.loop (R .ready)) ∧ W.heap[w.heap.size]? = some (.deferred (some []))) W1 hb1
      (fun pre A B hs hg' => ⟨(hI pre).2.1 A B hs.1 hg', (hg'.block _ (Array.getElem?_eq_some_iff.1 hs.2.1).1 (by simp)).trans hs.2.1, (hg'.block _ (Array.getElem?_eq_some_iff.1 hs.2.2).1 (by simp)).trans hs.2.2⟩)
      (fun pre A D hD' hd hs => by
        have hW1s : w.heap.size + 1 < W1.heap.size := (Array.getElem?_eq_some_iff.1 hL).1
        exact ⟨(hI pre).2.2 A D _ _ (by omega) hd rfl hs.1, (World.putObj_heap_other (by omega)).trans hs.2.1, (World.putObj_heap_other (by omega)).trans hs.2.2⟩) ?_ ⟨hI1, hL, hD⟩).mono ?_
    · rintro pre x W ⟨hi, hl, hd⟩ hpx hlen
      have hlt : w.heap.size + 1 < W.heap.size := (Array.getElem?_eq_some_iff.1 hl).1
      have hy := run_yield (P := P) (args := #[enc x]) hl (by rw [hrec]; rfl)
      have hbr := run_beginRound (P := P) hl (by rw [hrec])
      have hbusy : ({ R .ready with state := .busy } : Loop) = R .busy := by rw [hrec, hrec]
      rw [hbusy] at hbr
      refine ⟨fn, a.tmps.setIfInBounds p (enc x), assign, body, by rw [hy, hrec]; simp, roundIn_of_wpIn hfn (hassign _ x W _ ⟨_, hbr, ?_⟩)⟩
      have hl2 : (W.putObj (w.heap.size + 1) (.loop (R .busy))).heap[w.heap.size + 1]? = some (.loop (R .busy)) := World.putObj_heap_same hlt
      have hd2 : (W.putObj (w.heap.size + 1) (.loop (R .busy))).heap[w.heap.size]? = some (.deferred (some [])) := (World.putObj_heap_other (by omega)).trans hd
      have hk2 : Kp W (W.putObj (w.heap.size + 1) (.loop (R .busy))) := hKb _ _ _ _ (by omega) hl rfl
      refine wpIn_mono (hbody _ pre x _ ((hI pre).2.2 _ _ _ _ (by omega) hl rfl hi) ((hPx x).2.2 _ _ _ _ (by omega) hl rfl hpx) hlen) ?_
      rintro e a3 W3 ⟨rfl, hk3, hkp3, hi3⟩
      have hl3 := hk3.same _ _ hl2 rfl
      have hd3 := hk3.same _ _ hd2 rfl
      have her := run_endRound (P := P) none hl3
      have hrdy : ({ R .busy with state := if (none : Option Code).isNone then .ready else .done, pending := none } : Loop) = R .ready := by rw [hrec, hrec]; rfl
      rw [hrdy] at her
      refine ⟨_, _, her, rfl, ⟨(hI _).2.2 _ _ _ _ (by omega) hl3 rfl hi3, World.putObj_heap_same (Array.getElem?_eq_some_iff.1 hl3).1, (World.putObj_heap_other (by omega)).trans hd3⟩, hKt (hKt hk2 hkp3) (hKb _ _ _ _ (by omega) hl3 rfl), ?_⟩
      refine ⟨by have := hk3.size; simpa using this, fun k o ho hoc => ?_⟩
      by_cases hkl : k = w.heap.size + 1
      · subst hkl
        rw [hl] at ho
        cases ho
        exact World.putObj_heap_same (Array.getElem?_eq_some_iff.1 hl3).1
      · exact (World.putObj_heap_other hkl).trans (hk3.same _ _ ((World.putObj_heap_other hkl).trans ho) hoc)
    · rintro e W2 ⟨⟨v, rfl⟩, xs, hS, hi, hl, hd⟩
      have hel := run_endLoop (P := P) hl (by rw [hrec]; simp)
      rw [show (R .ready).pending = none by rw [hrec]] at hel
      exact ⟨none, _, hel, hdone _ xs _ (Nat.le_refl _) hS ((hI _).2.2 _ _ _ _ (by omega) hl rfl hi) ((World.putObj_heap_other (by omega)).trans hd)⟩
end
end Go.Proofs.YtpeehlflhnhhjaaDoor
