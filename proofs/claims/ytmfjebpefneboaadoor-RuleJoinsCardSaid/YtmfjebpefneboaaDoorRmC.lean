/-
  Rule: appends of rows that may be nil, in a region that draws; elements that stay.
-/
import Derived.Test.YtmfjebpefneboaaDoorRmB
namespace Go.Proofs.YtmfjebpefneboaaDoor
set_option linter.unusedVariables false
set_option linter.unusedSimpArgs false
open Go Go.RowKit Go.Shelf

theorem step_app_any {w : World} {ops : Array Oper} {o : Oper} {a : Act} {K : Act → World → Prop} {Q : Exit → Act → World → Prop} {E : Prop} (hgd : o.guard = none) (s x : Operand)
    (ho : o.op = .call { callee := .builtin .append, args := #[s, x], argTypes := #[23, 23] })
    (base : Nat) (v : Value) (n : Nat) (xs : List Value) (hs : a.eval s = v) (hown : w.ownsRow base 42 9 v n xs)
    (m : Nat) (news : List Value) (y : Value) (hx : a.eval x = y) (hy : RowV w y m news) (hl : news.length = m * 9) (h1 : ∀ u ∈ news, u.oneCell' = true)
    (hnm : n + m ≤ 1000000) (hbase : base ≤ w.heap.size)
    (h : ∀ v' w', w'.ownsRow base 42 9 v' (n + m) (xs ++ news) → w.grownBy w' v.ownBlock → K (a.put o.dst v') w') :
    if Region.wanted o (yielded ops a.tmps) = true then Oper.wp Tryd.prog o a w K Q else E := by
  rcases hy with ⟨hy, h0, h2⟩ | ⟨ad, c, hy, hn⟩
  · subst h0
    subst h2
    obtain ⟨i0, hi, hz0, hz1, hz2⟩ := info_parts info_item
    rw [if_pos (by simp [Region.wanted, hgd])]
    have hrun := run_append_owned_none (P := Tryd.prog) (w := w) base 23 o.type 42 i0 9 Tryd.underlying23 hi v n xs hown
    have hx' : a.eval x = .slice none 0 0 := hx.trans hy
    unfold Oper.wp
    simp [execOp, ho, resolve, invoke, builtin, hs, hx', hrun, Result.andThen]
    exact h v w (by simpa using hown) ⟨rfl, rfl, rfl, Nat.le_refl _, fun _ _ _ => rfl⟩
  · exact step_app hgd s x ho base v n xs hs hown ad m c news (hx.trans hy) hl hn h1 hnm hbase h
theorem Els.grown {α : Type} {size : Nat} {C : α → List Value → World → Prop} {w w' : World} {l : List α} {css : List (List Value)} {B : Nat} {Es : List TypeId} (h : Els size C w l css) (hK : Kp B Es C) {base : Nat} {E : TypeId} {size' : Nat} {v : Value} {n : Nat} {xs : List Value}
    (hg : w.grownBy w' v.ownBlock) (ho : w.ownsRow base E size' v n xs) (hE : E ∉ Es) : Els size C w' l css := by
  have hc : Chg v.ownBlock.toList w w' := ⟨hg.os, hg.tape, hg.output, hg.size, fun k hk hn => hg.block k hk (by
    intro e
    rw [← e] at hn
    simp at hn)⟩
  have hty : TyB v.ownBlock.toList w B Es := fun k hk => .inr fun ds e fr hh he => by
    rcases ho.2 with ⟨rfl, _⟩ | ⟨g, cap, cur, rfl, _, hgg, _⟩
    · simp [Value.ownBlock] at hk
    · simp [Value.ownBlock] at hk
      subst hk
      rw [hgg] at hh
      cases hh
      exact hE he
  exact ⟨h.1, fun i a cs ha hcs => ⟨(h.2 i a cs ha hcs).1, hK _ _ _ _ _ hc hty (h.2 i a cs ha hcs).2⟩⟩
theorem Els.store {α : Type} {size : Nat} {C : α → List Value → World → Prop} {w : World} {l : List α} {css : List (List Value)} {B : Nat} {Es : List TypeId} (h : Els size C w l css) (hK : Kp B Es C) {b : Nat} {cs : List Value} {T : TypeId} (hb : Blk w b cs T) (i : Nat) (u : Value) (hT : T ∉ Es) : Els size C (w.setCell ⟨b, i, none⟩ u) l css := by
  have hc : Chg [b] w (w.setCell ⟨b, i, none⟩ u) := (Chg.refl [b] w).setCell _ _ (.inl (by simp))
  have hty : TyB [b] w B Es := fun k hk => .inr fun ds e fr hh he => by
    simp only [List.mem_cons, List.not_mem_nil, or_false] at hk
    subst hk
    unfold Blk at hb
    rw [hb] at hh
    cases hh
    exact hT he
  exact ⟨h.1, fun i a cs ha hcs => ⟨(h.2 i a cs ha hcs).1, hK _ _ _ _ _ hc hty (h.2 i a cs ha hcs).2⟩⟩
end Go.Proofs.YtmfjebpefneboaaDoor
