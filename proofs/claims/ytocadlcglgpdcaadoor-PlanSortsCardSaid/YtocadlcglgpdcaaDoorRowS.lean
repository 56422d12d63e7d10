/-
  Reading lists of texts among the arguments of the statements of chapter 06.
-/
import Derived.Test.YtocadlcglgpdcaaDoorRowR
import Derived.Test.YtocadlcglgpdcaaDoorPnZe
namespace Go.Proofs.YtocadlcglgpdcaaDoor
set_option linter.unusedVariables false
set_option linter.unusedSimpArgs false
open Go Go.RowKit Go.ChangeShapes Go.WideShapes Go.ChangeShapes
section
variable {H : Type} {enc : TypeId × Value → H} {w : World} {base : Nat} {spare : Nat → Bool} {held : Bool}
/-- A slice of texts that came in. -/
theorem open_strs {fuel : Nat} {cs : List Value} {x : DataW H × List MemPlace} (h : DataW.trod enc Tryd.prog w base spare held fuel 60 cs = some x) :
    ∃ v l, cs = [v] ∧ Strs w v l ∧ Small l := by
  rcases open_strings Tryd.underlying60 Tryd.underlying9 (by kernel_rfl) h with ⟨rfl, _⟩ | ⟨a, len, cap, ss, rfl, _, hl, hm, hlen, _, hc, hs⟩
  · exact ⟨_, [], rfl, Strs.nil w, by simp, by simp⟩
  · have hle : len ≤ ss.length := by rw [hlen]; split <;> omega
    have hll : ((ss.take len).map fun s : ByteArray => s.data.toList).length = len := by simp; omega
    refine ⟨_, (ss.take len).map fun s => s.data.toList, rfl, ⟨some a, cap, by rw [hll], by rw [hll]; exact hl, fun i x hx => ?_⟩, ?_, ?_⟩
    · have hi : i < len := by rw [← hll]; exact (List.getElem?_eq_some_iff.1 hx).1
      have h1 := hc i (by omega)
      obtain ⟨ab, off, sp⟩ := a
      have hsp : sp = none := by simpa [Addr.add] using World.cell?_spot (hc 0 (by omega))
      subst hsp
      refine ⟨ab, off, rfl, ?_⟩
      rw [addr_add] at h1
      rw [h1]
      rw [List.getElem?_map, List.getElem?_take_of_lt hi, List.getElem?_eq_getElem (by omega)] at hx
      simp only [Option.map_some, Option.some.injEq] at hx
      subst hx
      rw [List.getD_eq_getElem?_getD, List.getElem?_eq_getElem (by omega)]
      simp
    · rw [hll]; unfold maxLen at hm; omega
    · intro x hx
      obtain ⟨s, hs', rfl⟩ := List.mem_map.1 hx
      have := hs s (List.mem_of_mem_take hs')
      unfold maxLen at this
      rw [Lib.size_eq] at this
      exact this
end
end Go.Proofs.YtocadlcglgpdcaaDoor
