/-
  Rule: an append of a row that may be nil, to a row of the call's own.
-/
import Derived.Test.YtmfjebpefneboaaDoorRlX
import Derived.Laws.AppendOwnNone
namespace Go.Proofs.YtmfjebpefneboaaDoor
set_option linter.unusedVariables false
set_option linter.unusedSimpArgs false
open Go Go.RowKit Go.Shelf

/-- A row that may be nil and what it holds. -/
def RowV (w : World) (v : Value) (m : Nat) (xs : List Value) : Prop :=
  (v = .slice none 0 0 ∧ m = 0 ∧ xs = []) ∨ ∃ ad c, v = .slice (some ad) m c ∧ ∀ j u, xs[j]? = some u → w.cell? (ad.add j) = some u
theorem wpList_append_any {P : Program} {w : World} {ops : Array Oper} {rest : List Oper} {o : Oper} {a : Act} {Q : Exit → Act → World → Prop} (hgd : o.guard = none) (s x : Operand) (t : TypeId)
    (ho : o.op = .call { callee := .builtin .append, args := #[s, x], argTypes := #[t, t] })
    (base : Nat) (e : TypeId) (i : TypeInfo) (z : Value) (size bytes : Nat) (ht : P.underlying t = some (.slice e)) (hi : P.info? e = some i) (hz : i.zero = some z)
    (hsize : i.size = size) (hby : i.bytes = bytes) (hzs : z.cells.size = size) (hsz : 0 < size)
    (v : Value) (n : Nat) (xs : List Value) (hs : a.eval s = v) (hown : w.ownsRow base e size v n xs)
    (m : Nat) (news : List Value) (y : Value) (hx : a.eval x = y) (hy : RowV w y m news) (hl : news.length = m * size) (h1 : ∀ u ∈ news, u.oneCell' = true)
    (h63 : n + m ≤ maxLen) (hbytes : (n + m) * bytes ≤ 140737488355328) (hbase : base ≤ w.heap.size)
    (h : ∀ v' w', w'.ownsRow base e size v' (n + m) (xs ++ news) → w.grownBy w' v.ownBlock → wpList P ops Q rest (a.put o.dst v') w') : wpList P ops Q (o :: rest) a w := by
  rcases hy with ⟨hy, h0, h2⟩ | ⟨ad, c, hy, hn⟩
  · subst h0
    subst h2
    refine wpList_append_own_none hgd s x t ho base e i size ht hi v n xs hs hown (hx.trans hy) (h v w (by simpa using hown) ⟨rfl, rfl, rfl, Nat.le_refl _, fun _ _ _ => rfl⟩)
  · exact wpList_append_own w hgd s x t ho base e i z size bytes ht hi hz hsize hby hzs hsz v n xs hs hown ad m c news (hx.trans hy) hl hn h1 h63 hbytes hbase fun v' w' h2 h3 _ => h v' w' h2 h3
/-- What any list's row holds. -/
theorem ListS.rowv {α : Type} {size : Nat} {C : α → List Value → World → Prop} {w : World} {l : List α} {B : Nat} {E : TypeId} {v : Value} (h : ListS B E size C l v w) :
    ∃ css, Els size C w l css ∧ css.flatten.length = l.length * size ∧ ∀ w', Chg [] w w' → RowV w' v l.length css.flatten := by
  obtain ⟨css, h1, h2, h3⟩ := h
  refine ⟨css, ⟨h1, h2⟩, h3.1, fun w' hc => ?_⟩
  rcases h3.2 with ⟨h0, h4⟩ | ⟨g, cap, cur, hv, hb, hg, hle, hm, hsz, ht⟩
  · left
    refine ⟨h0, h4, ?_⟩
    have h5 := h3.1
    rw [h4, Nat.zero_mul] at h5
    exact List.eq_nil_of_length_eq_zero h5
  · right
    refine ⟨⟨g, 0, none⟩, cap, hv, fun j u hj => ?_⟩
    rw [addr_add, Nat.zero_add]
    refine cell_quiet hc ?_ (by simp)
    rw [cell_of_row w g _ _ E (0, 0) hg]
    rw [← ht, List.getElem?_take] at hj
    split at hj
    · simpa using hj
    · cases hj
theorem cr_one {B : Nat} {r : List Rl.Tst} {cs : List Value} {w : World} (h : Cr B r cs w) : ∀ u ∈ cs, u.oneCell' = true := by
  obtain ⟨u, rfl, h2⟩ := h
  obtain ⟨uo, uc, rfl⟩ := h2.form
  intro z hz
  simp only [List.mem_cons, List.not_mem_nil, or_false] at hz
  subst hz
  rfl
theorem ct_one {r : Rl.Tst} {cs : List Value} {w : World} (h : Ct r cs w) : ∀ u ∈ cs, u.oneCell' = true := by
  have h : cs = tstc r := h
  subst h
  intro z hz
  simp only [tstc, List.mem_cons, List.not_mem_nil, or_false] at hz
  rcases hz with rfl | rfl | rfl | rfl | rfl <;> rfl
theorem Els.ones {α : Type} {size : Nat} {C : α → List Value → World → Prop} (hC : ∀ a cs w, C a cs w → ∀ u ∈ cs, u.oneCell' = true) {w : World} {l : List α} {css : List (List Value)} (h : Els size C w l css) : ∀ u ∈ css.flatten, u.oneCell' = true := by
  intro u hu
  obtain ⟨cs, hcs, hu⟩ := List.mem_flatten.1 hu
  obtain ⟨i, hi, rfl⟩ := List.mem_iff_getElem.1 hcs
  have hil : i < l.length := by rw [← h.1]; exact hi
  exact hC _ _ _ (h.2 i (l[i]'hil) _ (by simp) (by simp)).2 u hu
end Go.Proofs.YtmfjebpefneboaaDoor
