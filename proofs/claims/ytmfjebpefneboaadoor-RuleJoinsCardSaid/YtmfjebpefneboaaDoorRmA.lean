/-
  Rule, plain laws: how large what a parse gives is.
-/
import Derived.Test.YtmfjebpefneboaaDoorRlV
namespace Go.Proofs.YtmfjebpefneboaaDoor
set_option linter.unusedVariables false
set_option linter.unusedSimpArgs false
namespace Rl
open Lx (Tk)
theorem el_mem {α : Type} {E : α → List Tk → Prop} {as : List α} {ts : List Tk} (h : EL E as ts) : ∀ a ∈ as, ∃ t, E a t ∧ t.Sublist ts := by
  induction h with
  | nil => intro a ha; cases ha
  | cons h1 h2 ih =>
    intro a ha
    rcases List.mem_cons.1 ha with rfl | ha
    · exact ⟨_, h1, List.sublist_append_left _ _⟩
    · obtain ⟨t, h3, h4⟩ := ih a ha
      exact ⟨t, h3, h4.trans (List.sublist_append_right _ _)⟩
theorem el_len {α : Type} {E : α → List Tk → Prop} (hE : ∀ a t, E a t → 1 ≤ t.length) {as : List α} {ts : List Tk} (h : EL E as ts) : as.length ≤ ts.length := by
  induction h with
  | nil => exact Nat.le_refl _
  | cons h1 h2 ih =>
    have := hE _ _ h1
    rw [List.length_append, List.length_cons]
    omega
theorem et_len (a : Tst) (t : List Tk) (h : Et a t) : 1 ≤ t.length := by
  obtain ⟨u, rfl, _⟩ := h
  exact Nat.le_refl _
theorem er_len (a : List Tst) (t : List Tk) (h : Er a t) : 1 ≤ t.length := by
  have := el_len et_len h.2
  have := List.length_pos_iff.2 h.1
  omega
/-- The offsets and the lengths in a parsed text. -/
theorem parse_bnd {s : Bytes} (hs : s.length ≤ 4000) (h0 : (parse s).2.1 = 0) : ∀ x ∈ (parse s).1, x.at_ ≤ 4000 ∧ x.whn.length ≤ 100000 ∧ ∀ g ∈ x.whn, g.length ≤ 100000 ∧ ∀ t ∈ g, t.at_ ≤ 4000 := by
  obtain ⟨l0, i0, _⟩ := parse_zero h0
  obtain ⟨_, cs, xs, g1, g2, g3, g4⟩ := items_ok _ _ _ _ _ i0
  rw [List.nil_append] at g4
  obtain ⟨ts, e1, e2⟩ := emits_segs g1
  rw [← g2] at e1
  have hat : ∀ t ∈ (Lx.lex s).1, t.at_ ≤ 4000 := by
    intro t ht
    rw [(Lx.lex_of_zero l0).2.2.2] at ht
    obtain ⟨z, hz, rfl⟩ := List.mem_map.1 ht
    have := Lx.sc_at 0 s z hz
    omega
  have hlen : (Lx.lex s).1.length ≤ 5000 := by rw [(Lx.lex_of_zero l0).2.2.2]; simpa using (Lx.lex_of_zero l0).2.2.1
  rw [g4]
  intro x hx
  obtain ⟨t, h1, h2⟩ := el_mem e2 x hx
  have h2 := h2.trans e1
  obtain ⟨u, q, rfl, _, _, _, k1, k2⟩ := h1
  have hq : q.Sublist (Lx.lex s).1 := (List.sublist_cons_self _ _).trans h2
  refine ⟨by rw [← k1]; exact hat u (h2.subset (by simp)), ?_, fun g hg => ?_⟩
  · have h3 := el_len er_len k2
    have h4 := hq.length_le
    omega
  · obtain ⟨t, h3, h4⟩ := el_mem k2 g hg
    have h4 := h4.trans hq
    refine ⟨?_, fun y hy => ?_⟩
    · have h5 := el_len et_len h3.2
      have h6 := h4.length_le
      omega
    · obtain ⟨v, h5, h6⟩ := el_mem h3.2 y hy
      obtain ⟨z, rfl, _, _, h7⟩ := h5
      rw [← h7]
      exact hat z (h4.subset (h6.subset (by simp)))
end Rl
end Go.Proofs.YtmfjebpefneboaaDoor
