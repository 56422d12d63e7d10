/-
  Plan, plain laws: no part hands back more tokens than it was given; some take at least one. An append of one at a step of a drawn region.
-/
import Derived.Test.YtocadlcglgpdcaaDoorPnJ
namespace Go.Proofs.YtocadlcglgpdcaaDoor
set_option linter.unusedVariables false
set_option linter.unusedSimpArgs false
open Go Go.RowKit Go.Shelf
open Lx (Tk)
namespace Pn
open Rl (Out nxt)
def Shr {α : Type} (f : List Tk → Out α) : Prop := ∀ l a r, f l = .ok a r → r.length ≤ l.length
/-- At least one token is taken. -/
def Eat {α : Type} (f : List Tk → Out α) : Prop := ∀ l a r, f l = .ok a r → r.length + 1 ≤ l.length
theorem Eat.shr {α : Type} {f : List Tk → Out α} (h : Eat f) : Shr f := fun l a r e => by have := h l a r e; omega
theorem Shr.pure {α : Type} (a : α) : Shr (fun l => Out.ok a l) := fun l b r h => by
  simp only [Out.ok.injEq] at h
  rw [h.2]
  exact Nat.le_refl _
theorem Shr.bad {α : Type} (e : Nat) : Shr (fun l => (Out.bad e l : Out α)) := fun l b r h => by cases h
theorem Shr.bind {α β : Type} {f : List Tk → Out α} {g : α → List Tk → Out β} (hf : Shr f) (hg : ∀ a, Shr (g a)) : Shr (fun l => (f l).bind (g · ·)) := fun l b r h => by
  cases h1 : f l with
  | bad c q => simp only [h1] at h; cases h
  | ok a q =>
    simp only [h1] at h
    exact Nat.le_trans (hg a q b r h) (hf l a q h1)
theorem Eat.bind {α β : Type} {f : List Tk → Out α} {g : α → List Tk → Out β} (hf : Eat f) (hg : ∀ a, Shr (g a)) : Eat (fun l => (f l).bind (g · ·)) := fun l b r h => by
  cases h1 : f l with
  | bad c q => simp only [h1] at h; cases h
  | ok a q =>
    simp only [h1] at h
    have := hg a q b r h
    have := hf l a q h1
    omega
theorem Eat.after {α β : Type} {f : List Tk → Out α} {g : α → List Tk → Out β} (hf : Shr f) (hg : ∀ a, Eat (g a)) : Eat (fun l => (f l).bind (g · ·)) := fun l b r h => by
  cases h1 : f l with
  | bad c q => simp only [h1] at h; cases h
  | ok a q =>
    simp only [h1] at h
    have := hg a q b r h
    have := hf l a q h1
    omega
theorem Shr.ite {α : Type} {p : List Tk → Prop} [DecidablePred p] {f g : List Tk → Out α} (hf : Shr f) (hg : Shr g) : Shr (fun l => if p l then f l else g l) := fun l a r h => by
  by_cases hp : p l
  · simp only [hp, if_true] at h
    exact hf l a r h
  · simp only [hp, if_false] at h
    exact hg l a r h
theorem eat_nxt (k : Nat) (x : Option Bytes) : Eat (nxt k x) := fun l a r h => by have := nxt_len h; omega
theorem eat_must (x : Bytes) : Eat (must x) := fun l a r h => by
  unfold must at h
  cases l with
  | nil => simp [isw] at h
  | cons t q =>
    split at h
    · simp only [Out.ok.injEq] at h
      rw [← h.2]
      simp
    · cases h
theorem eat_num : Eat num := Eat.bind (eat_nxt 2 none) (fun t => Shr.pure _)
theorem eat_name : Eat name := Eat.bind (eat_nxt 1 none) (fun t => Shr.pure _)
theorem shr_atO : Shr atO := fun l a r h => by
  cases l with
  | nil => cases h
  | cons t q =>
    simp only [atO, Out.ok.injEq] at h
    rw [← h.2]
    exact Nat.le_refl _
theorem eat_num2 : Eat num2 := Eat.bind eat_num (fun x => (Eat.bind eat_num (fun y => Shr.pure _)).shr)
theorem eat_box : Eat box := Eat.bind eat_num (fun x => (Eat.bind eat_num (fun y => (Eat.bind eat_num (fun z => (Eat.bind eat_num (fun u => Shr.pure _)).shr)).shr)).shr)
theorem shr_loopG {α : Type} {stop : List Tk → Bool} {one : List Tk → Out α} (h : Shr one) : ∀ (k : Nat) (acc : List α), Shr (loopG stop one k acc)
  | 0, acc => Shr.pure acc
  | k + 1, acc => fun l a r e => by
    unfold loopG at e
    split at e
    · simp only [Out.ok.injEq] at e
      rw [e.2]
      exact Nat.le_refl _
    · cases h1 : one l with
      | bad c q => rw [h1] at e; cases e
      | ok b q =>
        rw [h1] at e
        exact Nat.le_trans (shr_loopG h k _ q a r e) (h l b q h1)
theorem shr_loop {α : Type} {stop : List Tk → Bool} {one : List Tk → Out α} (h : Shr one) : Shr (loop stop one) := fun l a r e => shr_loopG h _ _ l a r e
theorem shr_mark : Shr mark := fun l a r h => by have := mark_len h; omega
theorem shr_marks : Shr marks := shr_loop shr_mark
theorem eat_row : Eat row := Eat.after shr_atO (fun at_ => Eat.bind (eat_must wRow) (fun _ => eat_name.shr.bind (fun nm => (eat_must wAt).shr.bind (fun _ => eat_num2.shr.bind (fun xy => (eat_must wSeats).shr.bind (fun _ => eat_num.shr.bind (fun f => (eat_must wTo).shr.bind (fun _ => eat_num.shr.bind (fun t => (eat_must wStep).shr.bind (fun _ => eat_num.shr.bind (fun st => shr_marks.bind (fun ms => (eat_must cSemi).shr.bind (fun _ => Shr.pure _)))))))))))))
theorem shr_braced {α : Type} {one : List Tk → Out α} (h : Shr one) : Shr (braced one) := (shr_loop h).bind (fun bs l a r e => by
  simp only [Out.ok.injEq] at e
  rw [← e.2, List.length_tail]
  omega)
theorem eat_block (at_ : Nat) : Eat (block at_) := Eat.bind eat_name (fun nm => (eat_must cOpen).shr.bind (fun _ => (shr_braced eat_row.shr).bind (fun rs => Shr.pure _)))
end Pn
/-- Where a loop over things stands: what it comes to is O. -/
def LInv {α : Type} (stop : List Tk → Bool) (one : List Tk → Rl.Out α) (O : Rl.Out (List α)) (acc : List α) (q : List Tk) (k : Nat) : Prop := O = Pn.loopG stop one k acc q ∧ q.length < k
theorem linv_start {α : Type} (stop : List Tk → Bool) (one : List Tk → Rl.Out α) (l : List Tk) : LInv stop one (Pn.loop stop one l) [] l (l.length + 1) := ⟨rfl, Nat.lt_succ_self _⟩
theorem linv_stop {α : Type} {stop : List Tk → Bool} {one : List Tk → Rl.Out α} {O : Rl.Out (List α)} {acc : List α} {q : List Tk} {k : Nat} (h : LInv stop one O acc q k) (hs : stop q = true) : O = .ok acc q := by
  rw [h.1, loopG_stop hs]
theorem linv_step {α : Type} {stop : List Tk → Bool} {one : List Tk → Rl.Out α} {O : Rl.Out (List α)} {acc : List α} {q : List Tk} {k : Nat} (h : LInv stop one O acc q k) (hs : stop q = false) (he : Pn.Eat one) {a : α} {r : List Tk} (ho : one q = .ok a r) : LInv stop one O (acc ++ [a]) r (k - 1) := by
  obtain ⟨k', rfl⟩ : ∃ k', k = k' + 1 := ⟨k - 1, by have := h.2; omega⟩
  refine ⟨by rw [h.1, loopG_ok hs ho]; rfl, ?_⟩
  have h1 := he q a r ho
  have h2 := h.2
  show r.length < k'
  omega
theorem linv_bad {α : Type} {stop : List Tk → Bool} {one : List Tk → Rl.Out α} {O : Rl.Out (List α)} {acc : List α} {q : List Tk} {k : Nat} (h : LInv stop one O acc q k) (hs : stop q = false) {c : Nat} {r : List Tk} (ho : one q = .bad c r) : O = .bad c r := by
  obtain ⟨k', rfl⟩ : ∃ k', k = k' + 1 := ⟨k - 1, by have := h.2; omega⟩
  rw [h.1, loopG_bad hs ho]
/-- An append of one element, at a step of a drawn region. -/
theorem step_snoc {P : Program} {w : World} {ops : Array Oper} {o : Oper} {a : Act} {K : Act → World → Prop} {Q : Exit → Act → World → Prop} {E : Prop} (hgd : o.guard = none) (s x : Operand) (t : TypeId)
    (ho : o.op = .call { callee := .builtin .append, args := #[s, x], argTypes := #[t, t] })
    (e : TypeId) (i : TypeInfo) (z : Value) (size bytes : Nat) (ht : P.underlying t = some (.slice e)) (hi : P.info? e = some i) (hz : i.zero = some z)
    (hsize : i.size = size) (hby : i.bytes = bytes) (hzs : z.cells.size = size) (hsz : 0 < size)
    {α : Type} {C : α → List Value → World → Prop} {B : Nat} {Es : List TypeId} {l : List α} (v : Value) (n : Nat) (hs : a.eval s = v) (HL : ListS B e size C l v w) (hln : l.length = n) (hK : Kp B Es C) (hE : e ∉ Es)
    (el : α) (cs : List Value) (hC : C el cs w) (hlen : cs.length = size) (hone : ∀ u ∈ cs, u.oneCell' = true) (g : Nat) (hx : a.eval x = .slice (some ⟨g, 0, none⟩) 1 1) (hb : Blk w g cs e)
    (h63 : n + 1 ≤ maxLen) (hbytes : (n + 1) * bytes ≤ 140737488355328) (hbase : B ≤ w.heap.size)
    (h : ∀ ao cap w', ListS B e size C (l ++ [el]) (.slice ao (n + 1) cap) w' → (∀ own w0, Chg own w0 w → w0.heap.size ≤ B → Chg own w0 w') → (∀ b ds T, Blk w b ds T → (b < B ∨ T ≠ e ∨ some b ≠ v.ownBlock) → Blk w' b ds T) → K (a.put o.dst (.slice ao (n + 1) cap)) w') :
    if Region.wanted o (yielded ops a.tmps) = true then Oper.wp P o a w K Q else E := by
  have hwd : Region.wanted o (yielded ops a.tmps) = true := by simp [Region.wanted, hgd]
  rw [if_pos hwd]
  obtain ⟨css, h1, h2, h3⟩ := HL
  rw [hln] at h3
  refine wp_append_own w s x t ho B e i z size bytes ht hi hz hsize hby hzs hsz v n css.flatten hs h3 ⟨g, 0, none⟩ 1 1 cs hx (by rw [hlen, Nat.one_mul]) (fun j u hj => by rw [addr_add, Nat.zero_add]; exact hb.cell hj) hone h63 hbytes hbase fun v' w' h4 h5 _ => ?_
  obtain ⟨ao, cap, rfl⟩ := owns_form h4
  refine h ao cap w' (ListS.snoc h1 h2 (by rw [hln]; exact h3) hK hE hlen hC h5 (by rw [hln]; exact h4)) (fun own w0 hc hb' => hc.grown h5 (fun k hk => .inr (Nat.le_trans hb' (own_ge h3 k hk)))) (fun b ds T hbb hor => ?_)
  rcases hor with hor | hor | hor
  · refine (h5.block b hbb.lt (fun e => ?_)).trans hbb
    have := own_ge h3 b e.symm
    omega
  · exact grown_blk hbb h5 h3 hor
  · exact (h5.block b hbb.lt (fun e => hor e)).trans hbb
end Go.Proofs.YtocadlcglgpdcaaDoor
