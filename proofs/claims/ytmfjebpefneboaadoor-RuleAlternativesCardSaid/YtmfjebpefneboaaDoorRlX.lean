/-
  Rule: lists of rules put together anew out of the rows of others (RuleLeaves, RuleJoins).
-/
import Derived.Test.YtmfjebpefneboaaDoorLwRErr
namespace Go.Proofs.YtmfjebpefneboaaDoor
set_option linter.unusedVariables false
set_option linter.unusedSimpArgs false
open Go Go.RowKit Go.Shelf

theorem own_ge {w : World} {base : Nat} {e : TypeId} {size : Nat} {v : Value} {n : Nat} {xs : List Value} (h : w.ownsRow base e size v n xs) : ∀ k, v.ownBlock = some k → base ≤ k := by
  rcases h.2 with ⟨rfl, _⟩ | ⟨g, cap, cur, rfl, hb, _⟩
  · intro k hk
    cases hk
  · intro k hk
    simp only [Value.ownBlock, Option.some.injEq] at hk
    omega
/-- A block of another type stays when a row is appended to. -/
theorem grown_blk {w w' : World} {b : Nat} {cs : List Value} {T E : TypeId} {base size n : Nat} {v : Value} {xs : List Value} (hb : Blk w b cs T) (hg : w.grownBy w' v.ownBlock) (ho : w.ownsRow base E size v n xs) (hne : T ≠ E) : Blk w' b cs T := by
  refine (hg.block b hb.lt (fun e => ?_)).trans hb
  rcases ho.2 with ⟨rfl, _⟩ | ⟨g, cap, cur, rfl, _, hgg, _⟩
  · simp [Value.ownBlock] at e
  · simp only [Value.ownBlock, Option.some.injEq] at e
    subst e
    unfold Blk at hb
    rw [hgg] at hb
    simp only [Option.some.injEq, Obj.cells.injEq] at hb
    exact hne hb.2.1.symm
theorem row_store {w : World} {b : Nat} {cs : List Value} {T E : TypeId} {base size n : Nat} {v u : Value} {xs : List Value} (ho : w.ownsRow base E size v n xs) (hb : Blk w b cs T) (hne : T ≠ E) : (w.setCell ⟨b, 0, none⟩ u).ownsRow base E size v n xs :=
  ownsRow_chg ho ((Chg.refl [b] w).setCell _ _ (.inl (by simp))) fun k hk => .inr fun ds e fr hh he => by
    simp at hk
    subst hk
    unfold Blk at hb
    rw [hb] at hh
    simp only [Option.some.injEq, Obj.cells.injEq] at hh
    simp at he
    exact hne (hh.2.1.trans he)
theorem row_alloc {w : World} {E : TypeId} {base size n : Nat} {v : Value} {xs : List Value} (ho : w.ownsRow base E size v n xs) (o : Obj) : (w.alloc o).ownsRow base E size v n xs :=
  ownsRow_chg ho ((Chg.refl [] w).alloc o) (TyB.nil _ _ _)
/-- Elements and their cells. -/
def Els {α : Type} (size : Nat) (C : α → List Value → World → Prop) (w : World) (l : List α) (css : List (List Value)) : Prop :=
  css.length = l.length ∧ ∀ (i : Nat) (a : α) (cs : List Value), l[i]? = some a → css[i]? = some cs → cs.length = size ∧ C a cs w
theorem Els.chg {α : Type} {size : Nat} {C : α → List Value → World → Prop} {w w' : World} {l : List α} {css : List (List Value)} {B : Nat} {Es : List TypeId} (h : Els size C w l css) (hK : Kp B Es C) (hc : Chg [] w w') : Els size C w' l css :=
  ⟨h.1, fun i a cs ha hcs => ⟨(h.2 i a cs ha hcs).1, hK _ _ _ _ _ hc (TyB.nil _ _ _) (h.2 i a cs ha hcs).2⟩⟩
theorem Els.take {α : Type} {size : Nat} {C : α → List Value → World → Prop} {w : World} {l : List α} {css : List (List Value)} (h : Els size C w l css) (k : Nat) : Els size C w (l.take k) (css.take k) :=
  ⟨by rw [List.length_take, List.length_take, h.1], fun i a cs ha hcs => by
    rw [List.getElem?_take] at ha hcs
    split at ha
    · rename_i hi
      rw [if_pos hi] at hcs
      exact h.2 i a cs ha hcs
    · cases ha⟩
theorem Els.drop {α : Type} {size : Nat} {C : α → List Value → World → Prop} {w : World} {l : List α} {css : List (List Value)} (h : Els size C w l css) (k : Nat) : Els size C w (l.drop k) (css.drop k) :=
  ⟨by rw [List.length_drop, List.length_drop, h.1], fun i a cs ha hcs => by
    rw [List.getElem?_drop] at ha hcs
    exact h.2 _ a cs ha hcs⟩
theorem Els.append {α : Type} {size : Nat} {C : α → List Value → World → Prop} {w : World} {l l' : List α} {css css' : List (List Value)} (h : Els size C w l css) (h' : Els size C w l' css') : Els size C w (l ++ l') (css ++ css') :=
  ⟨by rw [List.length_append, List.length_append, h.1, h'.1], fun i a cs ha hcs => by
    rw [List.getElem?_append] at ha hcs
    rw [h.1] at hcs
    by_cases hi : i < l.length
    · rw [if_pos hi] at ha hcs
      exact h.2 i a cs ha hcs
    · rw [if_neg hi] at ha hcs
      exact h'.2 _ a cs ha hcs⟩
theorem Els.flat {α : Type} {size : Nat} {C : α → List Value → World → Prop} {w : World} {l : List α} {css : List (List Value)} (h : Els size C w l css) : css.flatten.length = l.length * size := by
  have h3 := ListS.lens h.1 h.2
  rw [← h.1]
  clear h
  induction css with
  | nil => simp
  | cons c r ih =>
    rw [List.flatten_cons, List.length_append, ih (fun x hx => h3 x (by simp [hx])), h3 c (by simp), List.length_cons, Nat.add_mul]
    omega
theorem ListS.of_row {α : Type} {size : Nat} {C : α → List Value → World → Prop} {w : World} {l : List α} {css : List (List Value)} {B B' : Nat} {E : TypeId} {v : Value} {n : Nat} (h : Els size C w l css) (ho : w.ownsRow B' E size v n css.flatten) (hn : n = l.length) (hB : B ≤ B') : ListS B E size C l v w := by
  subst hn
  refine ⟨css, h.1, h.2, ho.1, ?_⟩
  rcases ho.2 with h0 | ⟨g, cap, cur, hv, hb, rest⟩
  · exact .inl h0
  · exact .inr ⟨g, cap, cur, hv, Nat.le_trans hB hb, rest⟩
/-- What a list's row holds. -/
theorem ListS.els {α : Type} {size : Nat} {C : α → List Value → World → Prop} {w : World} {l : List α} {B : Nat} {E : TypeId} {g n cap : Nat} (h : ListS B E size C l (.slice (some ⟨g, 0, none⟩) n cap) w) :
    ∃ css, Els size C w l css ∧ n = l.length ∧ n ≤ cap ∧ ∀ j u, css.flatten[j]? = some u → w.cell? ⟨g, j, none⟩ = some u := by
  obtain ⟨css, h1, h2, h3⟩ := h
  rcases h3.2 with ⟨h0, _⟩ | ⟨g', cap', cur, hv, hb, hg, hle, hm, hsz, ht⟩
  · cases h0
  · simp only [Value.slice.injEq, Option.some.injEq, Addr.mk.injEq, and_true] at hv
    obtain ⟨rfl, rfl, rfl⟩ := hv
    refine ⟨css, ⟨h1, h2⟩, rfl, hle, fun j u hj => ?_⟩
    rw [cell_of_row w g _ _ E (0, 0) hg]
    rw [← ht, List.getElem?_take] at hj
    split at hj
    · simpa using hj
    · cases hj
theorem css_len {css : List (List Value)} {size : Nat} (h : ∀ cs ∈ css, cs.length = size) : css.flatten.length = css.length * size := by
  induction css with
  | nil => simp
  | cons c r ih =>
    rw [List.flatten_cons, List.length_append, ih (fun x hx => h x (by simp [hx])), h c (by simp), List.length_cons, Nat.add_mul]
    omega
theorem flat_cut {css : List (List Value)} {size : Nat} (h : ∀ cs ∈ css, cs.length = size) (k : Nat) (hk : k ≤ css.length) : (css.take k).flatten = css.flatten.take (k * size) ∧ (css.drop k).flatten = css.flatten.drop (k * size) := by
  have h1 : css.flatten = (css.take k).flatten ++ (css.drop k).flatten := by rw [← List.flatten_append, List.take_append_drop]
  have h2 : (css.take k).flatten.length = k * size := by
    rw [css_len (size := size) (fun cs hcs => h cs (List.mem_of_mem_take hcs)), List.length_take, Nat.min_eq_left hk]
  rw [h1]
  exact ⟨(List.take_left' h2).symm, (List.drop_left' h2).symm⟩
theorem ci_one {B : Nat} {x : Rl.Itm} {cs : List Value} {w : World} (h : Ci B x cs w) : ∀ u ∈ cs, u.oneCell' = true := by
  obtain ⟨u, rfl, h2⟩ := h
  obtain ⟨uo, uc, rfl⟩ := h2.form
  intro z hz
  simp only [List.mem_cons, List.not_mem_nil, or_false] at hz
  rcases hz with rfl | rfl | rfl | rfl | rfl | rfl | rfl | rfl | rfl <;> rfl
theorem Els.one {B : Nat} {w : World} {l : List Rl.Itm} {css : List (List Value)} (h : Els 9 (Ci B) w l css) : ∀ u ∈ css.flatten, u.oneCell' = true := by
  intro u hu
  obtain ⟨cs, hcs, hu⟩ := List.mem_flatten.1 hu
  obtain ⟨i, hi, rfl⟩ := List.mem_iff_getElem.1 hcs
  have hil : i < l.length := by rw [← h.1]; exact hi
  exact ci_one (h.2 i (l[i]'hil) _ (by simp) (by simp)).2 u hu
theorem Rl.parse_le (s : Bytes) (hs : s.length ≤ 4000) : (Rl.parse s).1.length ≤ 200000 := by
  by_cases h : (Rl.parse s).2.1 = 0
  · obtain ⟨_, i0, _⟩ := Rl.parse_zero h
    obtain ⟨_, cs, xs, _, _, h3, h4⟩ := Rl.items_ok _ _ _ _ _ i0
    rw [h4, List.nil_append]
    omega
  · have : (Rl.parse s).1 = [] := by
      unfold Rl.parse at h ⊢
      by_cases h0 : (Lx.lex s).2.1 ≠ 0
      · rw [if_pos h0]
      · rw [if_neg h0] at h ⊢
        cases k1 : Rl.items 200 [] (Lx.lex s).1 with
        | ok z r =>
          rw [k1] at h
          exact absurd rfl h
        | bad c r => rfl
    rw [this]
    simp
/-- Rules appended to a row of the call's own, in a region that draws. -/
theorem step_app {w : World} {ops : Array Oper} {o : Oper} {a : Act} {K : Act → World → Prop} {Q : Exit → Act → World → Prop} {E : Prop} (hgd : o.guard = none) (s x : Operand)
    (ho : o.op = .call { callee := .builtin .append, args := #[s, x], argTypes := #[23, 23] })
    (base : Nat) (v : Value) (n : Nat) (xs : List Value) (hs : a.eval s = v) (hown : w.ownsRow base 42 9 v n xs)
    (ad : Addr) (m c : Nat) (news : List Value) (hx : a.eval x = .slice (some ad) m c) (hl : news.length = m * 9) (hnews : ∀ j u, news[j]? = some u → w.cell? (ad.add j) = some u) (h1 : ∀ u ∈ news, u.oneCell' = true)
    (hnm : n + m ≤ 1000000) (hbase : base ≤ w.heap.size)
    (h : ∀ v' w', w'.ownsRow base 42 9 v' (n + m) (xs ++ news) → w.grownBy w' v.ownBlock → K (a.put o.dst v') w') :
    if Region.wanted o (yielded ops a.tmps) = true then Oper.wp Tryd.prog o a w K Q else E := by
  obtain ⟨i0, hi, hz0, hz1, hz2⟩ := info_parts info_item
  rw [if_pos (by simp [Region.wanted, hgd])]
  exact wp_append_own w s x 23 ho base 42 i0 _ 9 96 Tryd.underlying23 hi hz0 hz1 hz2 rfl (by decide) v n xs hs hown ad m c news hx hl hnews h1 (by unfold maxLen; omega) (by omega) hbase (fun v' w' h2 h3 _ => h v' w' h2 h3)
end Go.Proofs.YtmfjebpefneboaaDoor
