/-
  Layer 11: a range over a function whose body may return, where the caller's invariant vouches for what the iterator reads.
-/
import Derived.Test.YtocadlcglgpdcaaDoorLxG
namespace Go.Proofs.YtocadlcglgpdcaaDoor
set_option linter.unusedVariables false
set_option linter.unusedSimpArgs false
open Go Go.RowKit Go.Shelf

section
variable {α : Type} {P : Program} {n : Nat}
/-- The function g hands over the things of a list, one after the other, until it is stopped; Pr is what it reads, Kp what a round keeps. -/
def Gives (P : Program) (n : Nat) (g : Nat) (lb : Array Value) (enc : α → Value) (Kp : World → World → Prop) (Pr : World → Prop) (all : List α) : Prop :=
  ∀ (l : Nat) (J Jx : List α → World → Prop) (W : World),
    (∀ pre A B, J pre A → A.grownBy B none → J pre B) → (∀ pre A, J pre A → Pr A) →
    (∀ pre V A B g, J pre V → V.grownBy A none → V.heap.size ≤ g → g < A.heap.size → (∃ i u, A.cell? ⟨g, i, none⟩ = some u) → Kp A B → B.heap[g]? = A.heap[g]?) →
    (∀ pre x A, J pre A → (pre ++ [x]) <+: all → YieldAt Fence.wide (n - 1) P l #[enc x] A fun e B =>
      (e = .returned (.bool true) ∧ J (pre ++ [x]) B ∧ Kp A B) ∨ (e = .returned (.bool false) ∧ Jx (pre ++ [x]) B)) →
    J [] W → CallsIn Fence.wide n P g (#[.func (.yield l) #[] #[]] ++ lb) W fun e B => (∃ v, e = .returned v) ∧ (J all B ∨ ∃ pre, pre <+: all ∧ Jx pre B)
/-- What speaks of cells alone stands through a turn of what is no cells, and through new blocks. -/
def Cellish (B : Nat) (I : World → Prop) : Prop := (∀ W o, I W → I (W.alloc o)) ∧ (∀ W W', I W → W.grownBy W' none → I W') ∧ ∀ W l o o', B ≤ l → W.heap[l]? = some o → o.isCells = false → I W → I (W.putObj l o')
/-- How a round's body may end. -/
def BodyEnd (B : Nat) (Kp : World → World → Prop) (I Ix : World → Prop) (W : World) : Exit → Act → World → Prop
  | .normal, _, W' => KeepsFrom B W W' ∧ Kp W W' ∧ I W'
  | .ret, _, W' => KeepsFrom B W W' ∧ Ix W'
  | _, _, _ => False

theorem range_gives {g : Operand} {p : Tmp} {assign body : Code} {Q : Exit → Act → World → Prop} {a : Act} {w : World} {gf : Nat} {lb : Array Value}
    (h1 : 1 ≤ n) (hg : a.eval g = .func (.func gf) #[] lb) (eg : ∀ args w, (callFunc gf args).run P w = .ok (.enter gf args) w)
    {enc : α → Value} {Kp : World → World → Prop} {Pr : World → Prop} {all : List α} (hseq : Gives P (n - 1) gf lb enc Kp Pr all)
    (hKt : ∀ {A B C : World}, Kp A B → Kp B C → Kp A C) (hKb : ∀ (W : World) (l : Nat) (o o' : Obj), w.heap.size ≤ l → W.heap[l]? = some o → o.isCells = false → Kp W (W.putObj l o'))
    (I Ix : List α → World → Prop) (hI : ∀ pre, Cellish w.heap.size (I pre)) (hIx : ∀ pre, Cellish w.heap.size (Ix pre)) (hPr : ∀ pre A, I pre A → Pr A)
    (hKK : ∀ pre V A B g, I pre V → V.grownBy A none → V.heap.size ≤ g → g < A.heap.size → (∃ i u, A.cell? ⟨g, i, none⟩ = some u) → Kp A B → B.heap[g]? = A.heap[g]?)
    (h0 : I [] w) (a₁ : α → World → Act) (w₁ : α → World → World) (hw₁ : ∀ (x : α) (W : World), W.grownBy (w₁ x W) none) (hKw : ∀ (pre : List α) (x : α) (W : World), I pre W → Kp W (w₁ x W))
    (hassign : ∀ (l : Nat) (x : α) (W : World) (K : Act → World → Prop), K (a₁ x W) (w₁ x W) →
      assign.wpIn (Fence.wide.inRound l) (n - 1 - 1) P (Exit.then K (fun _ _ _ => False)) { tmps := a.tmps.setIfInBounds p (enc x), defers := [] } W)
    (hbody : ∀ (l : Nat) (pre : List α) (x : α) (W W' : World), I pre W → I pre W' → (∀ k, W.heap.size ≤ k → W'.heap[k]? = (w₁ x W).heap[k]?) → (pre ++ [x]) <+: all → body.wpIn (Fence.wide.inRound l) (n - 1 - 1) P (BodyEnd w.heap.size Kp (I (pre ++ [x])) (Ix (pre ++ [x])) W') (a₁ x W) W')
    (hdone : ∀ (D : Nat) (W : World), w.heap.size ≤ D → I all W → W.heap[D]? = some (.deferred (some [])) → Q .normal { a with defers := { target := .collected D, args := #[] } :: a.defers } W)
    (hstop : ∀ (D : Nat) (pre : List α) (W : World), w.heap.size ≤ D → pre <+: all → Ix pre W → W.heap[D]? = some (.deferred (some [])) → Q .ret { a with defers := { target := .collected D, args := #[] } :: a.defers } W) :
    (Code.rangeFunc g #[p] assign body).wpIn Fence.wide n P Q a w := by
  refine wpIn_rangeFunc fun fn hfn => ?_
  let rec0 : LoopState → Option Code → Loop := fun st pe => { state := st, pending := pe, fn := fn, tmps := a.tmps, params := #[p], assign := assign, body := body, defers := w.heap.size }
  have hrec : ∀ st pe, rec0 st pe = { state := st, pending := pe, fn := fn, tmps := a.tmps, params := #[p], assign := assign, body := body, defers := w.heap.size } := fun _ _ => rfl
  generalize rec0 = R at hrec
  obtain ⟨W1, hW1⟩ : ∃ W1, W1 = (w.alloc (.deferred (some []))).alloc (.loop (R .ready none)) := ⟨_, rfl⟩
  have hL : W1.heap[w.heap.size + 1]? = some (.loop (R .ready none)) := by
    rw [hW1]; have := World.alloc_heap_new (w.alloc (.deferred (some []))) (.loop (R .ready none)); rwa [World.size_alloc] at this
  have hD : W1.heap[w.heap.size]? = some (.deferred (some [])) := by
    rw [hW1]; exact (Below.heap_alloc _ _ _ (by simp)).trans (World.alloc_heap_new w _)
  have hI1 : I [] W1 := by rw [hW1]; exact (hI _).1 _ _ ((hI _).1 _ _ h0)
  refine ⟨w.heap.size + 1, [{ target := .collected w.heap.size, args := #[] }], W1, { target := .fn (.func gf) lb, args := #[.func (.yield (w.heap.size + 1)) #[] #[]] }, W1, gf,
    #[.func (.yield (w.heap.size + 1)) #[] #[]] ++ lb, W1, ?_, ?_, fun _ _ => trivial, ?_, fun _ => h1, ?_⟩
  · rw [hW1, hrec]; exact run_enterLoop_outer _ _ _ _ _
  · simp only [resolve, hg]
    simp [go_sem]
  · simp [invoke, go_sem, eg]
  · refine (hseq (w.heap.size + 1) (fun pre W => I pre W ∧ W.heap[w.heap.size + 1]? = some (.loop (R .ready none)) ∧ W.heap[w.heap.size]? = some (.deferred (some [])))
      (fun pre W => Ix pre W ∧ W.heap[w.heap.size + 1]? = some (.loop (R .done (some .ret))) ∧ W.heap[w.heap.size]? = some (.deferred (some []))) W1
      (fun pre A B hs hg' => ⟨(hI pre).2.1 A B hs.1 hg', (hg'.block _ (Array.getElem?_eq_some_iff.1 hs.2.1).1 (by simp)).trans hs.2.1, (hg'.block _ (Array.getElem?_eq_some_iff.1 hs.2.2).1 (by simp)).trans hs.2.2⟩)
      (fun pre A hs => hPr pre A hs.1) (fun pre V A B g hs => hKK pre V A B g hs.1) ?_ ⟨hI1, hL, hD⟩).mono ?_
    · rintro pre x W0 ⟨hi0, hl0, hd0⟩ hpre
      have hlt0 : w.heap.size + 1 < W0.heap.size := (Array.getElem?_eq_some_iff.1 hl0).1
      have hy := run_yield (P := P) (args := #[enc x]) hl0 (by rw [hrec]; rfl)
      have hg1 := hw₁ x W0
      have hkw := hKw pre x W0 hi0
      have hi := (hI pre).2.1 _ _ hi0 hg1
      have hl := (hg1.block _ hlt0 (by simp)).trans hl0
      have hd := (hg1.block w.heap.size (by omega) (by simp)).trans hd0
      have hlt := Nat.lt_of_lt_of_le hlt0 hg1.size
      have hbr := run_beginRound (P := P) hl (by rw [hrec])
      have hbusy : ({ R .ready none with state := .busy } : Loop) = R .busy none := by rw [hrec, hrec]
      rw [hbusy] at hbr
      refine ⟨fn, a.tmps.setIfInBounds p (enc x), assign, body, by rw [hy, hrec]; simp, roundIn_of_wpIn hfn (hassign _ x W0 _ ⟨_, hbr, ?_⟩)⟩
      obtain ⟨W, hW⟩ : ∃ W, W = w₁ x W0 := ⟨_, rfl⟩
      rw [← hW] at hi hl hd hlt hkw ⊢
      have hl2 : (W.putObj (w.heap.size + 1) (.loop (R .busy none))).heap[w.heap.size + 1]? = some (.loop (R .busy none)) := World.putObj_heap_same hlt
      have hd2 : (W.putObj (w.heap.size + 1) (.loop (R .busy none))).heap[w.heap.size]? = some (.deferred (some [])) := (World.putObj_heap_other (by omega)).trans hd
      have hk2 : Kp W0 (W.putObj (w.heap.size + 1) (.loop (R .busy none))) := hKt hkw (hKb _ _ _ _ (by omega) hl rfl)
      refine wpIn_mono (hbody _ pre x W0 _ hi0 ((hI pre).2.2 _ _ _ _ (by omega) hl rfl hi) (fun k hk => by rw [← hW]; exact World.putObj_heap_other (by omega)) hpre) ?_
      intro e a3 W3 hp
      cases e with
      | normal =>
        obtain ⟨hk3, hkp3, hi3⟩ := hp
        have hl3 := hk3.same _ _ (by omega) hl2 rfl
        have hd3 := hk3.same _ _ (Nat.le_refl _) hd2 rfl
        have her := run_endRound (P := P) none hl3
        have hrdy : ({ R .busy none with state := if (none : Option Code).isNone then .ready else .done, pending := none } : Loop) = R .ready none := by rw [hrec, hrec]; rfl
        rw [hrdy] at her
        exact ⟨_, _, her, .inl ⟨rfl, ⟨(hI _).2.2 _ _ _ _ (by omega) hl3 rfl hi3, World.putObj_heap_same (Array.getElem?_eq_some_iff.1 hl3).1, (World.putObj_heap_other (by omega)).trans hd3⟩, hKt (hKt hk2 hkp3) (hKb _ _ _ _ (by omega) hl3 rfl)⟩⟩
      | ret =>
        obtain ⟨hk3, hi3⟩ := hp
        have hl3 := hk3.same _ _ (by omega) hl2 rfl
        have hd3 := hk3.same _ _ (Nat.le_refl _) hd2 rfl
        have her := run_endRound (P := P) (some .ret) hl3
        have hrdy : ({ R .busy none with state := if (some Code.ret : Option Code).isNone then .ready else .done, pending := some .ret } : Loop) = R .done (some .ret) := by rw [hrec, hrec]; rfl
        rw [hrdy] at her
        exact ⟨_, _, her, .inr ⟨rfl, (hIx _).2.2 _ _ _ _ (by omega) hl3 rfl hi3, World.putObj_heap_same (Array.getElem?_eq_some_iff.1 hl3).1, (World.putObj_heap_other (by omega)).trans hd3⟩⟩
      | exit id => exact hp.elim
      | goto t => exact hp.elim
      | panic ch => exact hp.elim
      | outgrown => exact hp.elim
    · rintro e W2 ⟨⟨v, rfl⟩, (⟨hi, hl, hd⟩ | ⟨pre, hpre, hi, hl, hd⟩)⟩
      · have hel := run_endLoop (P := P) hl (by rw [hrec]; simp)
        rw [show (R .ready none).pending = none by rw [hrec]] at hel
        exact ⟨none, _, hel, hdone _ _ (Nat.le_refl _) ((hI _).2.2 _ _ _ _ (by omega) hl rfl hi) ((World.putObj_heap_other (by omega)).trans hd)⟩
      · have hel := run_endLoop (P := P) hl (by rw [hrec]; simp)
        rw [show (R .done (some .ret)).pending = some .ret by rw [hrec]] at hel
        exact ⟨some .ret, _, hel, wpIn_ret (hstop _ _ _ (Nat.le_refl _) hpre ((hIx _).2.2 _ _ _ _ (by omega) hl rfl hi) ((World.putObj_heap_other (by omega)).trans hd))⟩
end
end Go.Proofs.YtocadlcglgpdcaaDoor
