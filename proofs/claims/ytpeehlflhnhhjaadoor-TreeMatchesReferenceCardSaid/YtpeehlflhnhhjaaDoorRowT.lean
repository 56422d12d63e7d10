/-
  Layer 4: from what the rows list to the tables of the digest; reading the arguments of the statements.
-/
import Derived.Test.YtpeehlflhnhhjaaDoorRows
import Derived.Test.YtpeehlflhnhhjaaDoorLwComplete
import Derived.SliceStrings
import Derived.LaidMore
import Derived.Stop.Joined
import Derived.Stop.LaidErr
import Derived.ProofKit
import Derived.OpenShut
import Derived.ShutString
import Derived.Deep.Slices
import Derived.Lib.SmallJoins
namespace Go.Proofs.YtpeehlflhnhhjaaDoor
set_option linter.unusedVariables false
set_option linter.unusedSimpArgs false
open Go Go.RowKit Go.ChangeShapes Go.WideShapes Go.ChangeShapes

def laidL : List (String × DataW Unit) := [("math/bits.deBruijn32tab", Rows.laid_math_bits_deBruijn32tab), ("math/bits.deBruijn64tab", Rows.laid_math_bits_deBruijn64tab), ("internal/strconv.uint64pow10", Rows.laid_internal_strconv_uint64pow10), ("foyer/digest.hex", Rows.laid_foyer_digest_hex)]
set_option maxRecDepth 100000 in
theorem door_met (os : Os) (args : Array Value) : laidMetH Tryd.prog laidL ((World.doorLaid Tryd.prog 400 os).forCall (fun _ _ => 0) ⟨#[], args, []⟩).memory :=
  laidMetH_of_parts3 (fuel := 8) (laidMet_of_run' 8 (by kernel_rfl) (by kernel_rfl)) (by kernel_rfl) (by kernel_rfl)
theorem of_laid {W : World} (h : laidMetH Tryd.prog laidL W) : Laid W := by
  rw [MakeChecks.laidMetH_plain _ _ _ (by kernel_rfl)] at h
  have h3 := h.tail.tail
  have h4 := h3.tail
  exact ⟨Lib.tabIs_of_head (t := 70) (e := 5) glob_hex (by kernel_rfl) Tryd.underlying70 Tryd.underlying5 (by kernel_rfl) (by kernel_rfl) h4,
    Lib.tabIs_of_head (t := 79) (e := 55) glob_pow (by kernel_rfl) Tryd.underlying79 Tryd.underlying55 (by kernel_rfl) (by kernel_rfl) h3⟩
theorem bd_i64 {n : Int} (h : (Lit.int .i64 n).wf = true) : -9223372036854775808 ≤ n ∧ n ≤ 9223372036854775807 := by
  simpa [Lit.wf, IntKind.min, IntKind.max, IntKind.signed, IntKind.bits] using h
theorem bd_u8 {n : Int} (h : (Lit.int .u8 n).wf = true) : 0 ≤ n ∧ n ≤ 255 := by
  simpa [Lit.wf, IntKind.min, IntKind.max, IntKind.signed, IntKind.bits] using h
section
variable {H : Type} {enc : TypeId × Value → H} {w : World} {base : Nat} {spare : Nat → Bool} {held : Bool}
/-- A slice of texts that came in. -/
theorem open_strs {fuel : Nat} {cs : List Value} {x : DataW H × List MemPlace} (h : DataW.trod enc Tryd.prog w base spare held fuel 22 cs = some x) :
    ∃ v l, cs = [v] ∧ Strs w v l ∧ Small l := by
  rcases open_strings Tryd.underlying22 Tryd.underlying9 (by kernel_rfl) h with ⟨rfl, _⟩ | ⟨a, len, cap, ss, rfl, _, hl, hm, hlen, _, hc, hs⟩
  · exact ⟨_, [], rfl, Strs.nil w, by simp, by simp⟩
  · have hle : len ≤ ss.length := by rw [hlen]; split <;> omega
    have hll : ((ss.take len).map fun s : ByteArray => s.data.toList).length = len := by simp; omega
    refine ⟨_, (ss.take len).map fun s => s.data.toList, rfl, ⟨some a, cap, by rw [hll], by rw [hll]; exact hl, fun i x hx => ?_⟩, ?_, ?_⟩
    · have hi : i < len := by rw [← hll]; exact (List.getElem?_eq_some_iff.1 hx).1
      have h1 := hc i (by omega)
      obtain ⟨ab, off, sp⟩ := a
      have hsp : sp = none := by simpa [Addr.add] using World.cell?_spot (hc 0 (by omega))
      subst hsp
      refine ⟨ab, off, rfl, ?_⟩
      rw [addr_add] at h1
      rw [h1]
      rw [List.getElem?_map, List.getElem?_take_of_lt hi, List.getElem?_eq_getElem (by omega)] at hx
      simp only [Option.map_some, Option.some.injEq] at hx
      subst hx
      rw [List.getD_eq_getElem?_getD, List.getElem?_eq_getElem (by omega)]
      simp
    · rw [hll]; unfold maxLen at hm; omega
    · intro x hx
      obtain ⟨s, hs', rfl⟩ := List.mem_map.1 hx
      have := hs s (List.mem_of_mem_take hs')
      unfold maxLen at this
      rw [Lib.size_eq] at this
      exact this
end
end Go.Proofs.YtpeehlflhnhhjaaDoor
