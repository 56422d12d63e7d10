/-
  Journal: rows of texts, as the reference disk has them.
-/
import Derived.Test.YtpmkgedlnanjiaaGreatDoorJpE
import Derived.WalkSpells
import Derived.OwnWalk
import Derived.Laws.BitsAllLaws
import Derived.Laws.DeepStrings4
namespace Go.Proofs.YtpmkgedlnanjiaaGreatDoor
set_option linter.unusedVariables false
set_option linter.unusedSimpArgs false
open Go Go.RowKit
def StrRow (w : World) (v : Value) (l : List Bytes) : Prop := w.ownsRow 0 9 1 v l.length (l.map vstr)
theorem StrRow.kept {w w' : World} {own : List Nat} {v : Value} {l : List Bytes} (h : StrRow w v l) (hc : Chg own w w') (hn : ∀ k ∈ v.ownBlock.toList, k ∉ own) : StrRow w' v l := row_kept h hc hn
theorem StrRow.form {w : World} {v : Value} {l : List Bytes} (h : StrRow w v l) : ∃ ao cap, v = .slice ao l.length cap ∧ ∀ (i : Nat) (x : Bytes), l[i]? = some x → ∃ g, ao = some ⟨g, 0, none⟩ ∧ w.cell? ⟨g, i, none⟩ = some (.string ⟨x.toArray⟩) := by
  rcases h.2 with ⟨rfl, h0⟩ | ⟨g, cap, cur, rfl, _, hg, h1, h2, h3, h4⟩
  · exact ⟨none, 0, by rw [h0], fun i x hx => by have := (List.getElem?_eq_some_iff.1 hx).1; omega⟩
  · refine ⟨_, cap, rfl, fun i x hx => ⟨g, rfl, ?_⟩⟩
    have hi := (List.getElem?_eq_some_iff.1 hx).1
    have := World.ownsRow.cellAt h i (by omega)
    rw [this, List.getElem?_map, hx]
    rfl
theorem info_str : (Tryz.prog.info? 9).map (fun i => (i.zero, i.size, i.bytes)) = some (some (.string ⟨#[]⟩), 1, 16) := by kernel_rfl
theorem StrRow.push {w w1 w' : World} {v : Value} {l : List Bytes} {x : Bytes} {g cap : Nat} (hown : w'.ownsRow 0 9 1 (.slice (some ⟨g, 0, none⟩) (l.length + 1) cap) (l.length + 1) (l.map vstr ++ [vstr x])) :
    StrRow w' (.slice (some ⟨g, 0, none⟩) (l.length + 1) cap) (l ++ [x]) := by
  unfold StrRow
  rw [List.length_append, List.map_append]
  exact hown
theorem own_ge {w : World} {base : Nat} {e : TypeId} {size : Nat} {v : Value} {n : Nat} {xs : List Value} (h : w.ownsRow base e size v n xs) : ∀ k, v.ownBlock = some k → base ≤ k := by
  rcases h.2 with ⟨rfl, _⟩ | ⟨g, cap, cur, rfl, hb, _⟩
  · intro k hk
    cases hk
  · intro k hk
    simp only [Value.ownBlock, Option.some.injEq] at hk
    omega
theorem StrRow.set {w : World} {g n cap : Nat} {l : List Bytes} (h : StrRow w (.slice (some ⟨g, 0, none⟩) n cap) l) (i : Nat) (x : Bytes) :
    StrRow (w.setCell ⟨g, i, none⟩ (vstr x)) (.slice (some ⟨g, 0, none⟩) n cap) (l.set i x) := by
  have hn : n = l.length := by
    rcases h.2 with ⟨h0, _⟩ | ⟨g', cap', cur, h0, _⟩
    · simp at h0
    · simp at h0; exact h0.2.1
  subst hn
  unfold StrRow
  rw [List.length_set, List.map_set]
  exact (World.ownsRow.stored h i (vstr x)).1
theorem StrRow.spot {w : World} {v : Value} {l : List Bytes} (h : StrRow w v l) (i : Nat) (hi : i < l.length) :
    ∃ g cap, v = .slice (some ⟨g, 0, none⟩) l.length cap ∧ w.frozen? ⟨g, i, none⟩ = false ∧ w.cell? ⟨g, i, none⟩ = some (vstr l[i]) ∧ g < w.heap.size := by
  obtain ⟨ao, cap, rfl, hf⟩ := h.form
  obtain ⟨g, rfl, hc⟩ := hf i l[i] (by simp)
  refine ⟨g, cap, rfl, ?_, hc, World.block_lt_of_cell? _ _ hc⟩
  rcases h.2 with ⟨h', _⟩ | ⟨g', cap', cur, h', hb, hg, hnc, hcm, hcs, htake⟩
  · simp at h'
  · simp only [Value.slice.injEq, Option.some.injEq, Addr.mk.injEq, and_true, true_and] at h'
    obtain ⟨rfl, rfl⟩ := h'
    exact frozen_of_row w g i _ _ hg
theorem StrRow.spot2 {w : World} {g n cap : Nat} {l : List Bytes} (h : StrRow w (.slice (some ⟨g, 0, none⟩) n cap) l) (i : Nat) (hi : i < l.length) :
    w.frozen? ⟨g, i, none⟩ = false ∧ w.cell? ⟨g, i, none⟩ = some (vstr l[i]) ∧ g < w.heap.size := by
  obtain ⟨g', cap', hv, hf, hc, hs⟩ := h.spot i hi
  simp only [Value.slice.injEq, Option.some.injEq, Addr.mk.injEq, and_true, true_and] at hv
  obtain ⟨rfl, rfl, rfl⟩ := hv
  exact ⟨hf, hc, hs⟩
theorem StrRow.at {w : World} {v : Value} {l : List Bytes} (h : StrRow w v l) (N : Nat) (hN : l.length = N) (i : Nat) (x : Bytes) (hx : l[i]? = some x) :
    ∃ g cap, v = .slice (some ⟨g, 0, none⟩) N cap ∧ w.cell? ⟨g, i, none⟩ = some (.string ⟨x.toArray⟩) := by
  subst hN
  obtain ⟨ao, cap, rfl, hf⟩ := h.form
  obtain ⟨g, rfl, hc⟩ := hf i x hx
  exact ⟨g, cap, rfl, hc⟩
namespace DK
theorem fail_q (D : DK) (w b : Int) : (D.fail w b).q.length ≤ D.q.length := by
  unfold fail; split
  · exact Nat.le_refl _
  · simp [down]
theorem count_q (D : DK) : D.count.2.q.length ≤ D.q.length := by
  unfold count
  split
  · exact Nat.le_refl _
  · split
    · exact Nat.le_refl _
    · exact fail_q D _ _
end DK
end Go.Proofs.YtpmkgedlnanjiaaGreatDoor
