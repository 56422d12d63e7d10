/-
  Journal: rows of texts, as the reference disk has them.
-/
import Derived.Test.YtpmkgedlnanjiaaGreatDoorJpE
import Derived.WalkSpells
import Derived.OwnWalk
import Derived.Laws.BitsAllLaws
import Derived.Laws.DeepStrings4
namespace Go.Proofs.YtpmkgedlnanjiaaGreatDoor
set_option linter.unusedVariables false
set_option linter.unusedSimpArgs false
open Go Go.RowKit
def StrRow (w : World) (v : Value) (l : List Bytes) : Prop := w.ownsRow 0 9 1 v l.length (l.map vstr)
theorem StrRow.kept {w w' : World} {own : List Nat} {v : Value} {l : List Bytes} (h : StrRow w v l) (hc : Chg own w w') (hn : ∀ k ∈ v.ownBlock.toList, k ∉ own) : StrRow w' v l := row_kept h hc hn
theorem StrRow.form {w : World} {v : Value} {l : List Bytes} (h : StrRow w v l) : ∃ ao cap, v = .slice ao l.length cap ∧ ∀ (i : Nat) (x : Bytes), l[i]? = some x → ∃ g, ao = some ⟨g, 0, none⟩ ∧ w.cell? ⟨g, i, none⟩ = some (.string ⟨x.toArray⟩) := by
  rcases h.2 with ⟨rfl, h0⟩ | ⟨g, cap, cur, rfl, _, hg, h1, h2, h3, h4⟩
  · exact ⟨none, 0, by rw [h0], fun i x hx => by have := (List.getElem?_eq_some_iff.1 hx).1; omega⟩
  · refine ⟨_, cap, rfl, fun i x hx => ⟨g, rfl, ?_⟩⟩
    have hi := (List.getElem?_eq_some_iff.1 hx).1
    have := World.ownsRow.cellAt h i (by omega)
    rw [this, List.getElem?_map, hx]
    rfl
theorem info_str : (Tryz.prog.info? 9).map (fun i => (i.zero, i.size, i.bytes)) = some (some (.string ⟨#[]⟩), 1, 16) := by kernel_rfl
theorem StrRow.push {w w1 w' : World} {v : Value} {l : List Bytes} {x : Bytes} {g cap : Nat} (hown : w'.ownsRow 0 9 1 (.slice (some ⟨g, 0, none⟩) (l.length + 1) cap) (l.length + 1) (l.map vstr ++ [vstr x])) :
    StrRow w' (.slice (some ⟨g, 0, none⟩) (l.length + 1) cap) (l ++ [x]) := by
  unfold StrRow
  rw [List.length_append, List.map_append]
  exact hown
theorem own_ge {w : World} {base : Nat} {e : TypeId} {size : Nat} {v : Value} {n : Nat} {xs : List Value} (h : w.ownsRow base e size v n xs) : ∀ k, v.ownBlock = some k → base ≤ k := by
  rcases h.2 with ⟨rfl, _⟩ | ⟨g, cap, cur, rfl, hb, _⟩
  · intro k hk
    cases hk
  · intro k hk
    simp only [Value.ownBlock, Option.some.injEq] at hk
    omega
end Go.Proofs.YtpmkgedlnanjiaaGreatDoor
