/-
  Plain laws of layer 43: a byte that rots twice is as it was, and what Rot and Stale change.
-/
import Derived.Test.YtnlgblcldbdnlaaLwL
namespace Go.Proofs.Ytnlgblcldbdnlaa
set_option linter.unusedVariables false
set_option linter.unusedSimpArgs false
open Go Go.RowKit
namespace DK
theorem flip_twice (t : Bytes) (a : Nat) (m : UInt8) : flip (flip t a m) a m = t := by
  unfold flip
  by_cases ha : a < t.length
  · apply List.ext_getElem?
    intro i
    rw [List.set_set, List.getElem?_set]
    by_cases hi : a = i
    · subst hi
      rw [if_pos rfl, if_pos ha]
      simp only [List.getD_eq_getElem?_getD, List.getElem?_set, if_pos ha, List.getElem?_eq_getElem ha, if_true, Option.getD_some]
      rw [UInt8.xor_assoc, UInt8.xor_self, UInt8.xor_zero]
    · rw [if_neg hi]
  · rw [List.set_eq_of_length_le (by rw [List.length_set]; omega), List.set_eq_of_length_le (by omega)]
theorem rot_twice (D : DK) (s a m : Int) : (D.rot s a m).rot s a m = D := by
  unfold rot
  by_cases h : D.rotOk s a m = true
  · rw [if_pos h]
    have h2 : (DK.mk D.n (fun i => if i = s.toNat then flip (D.st i) a.toNat (UInt8.ofNat m.toNat) else D.st i) D.el D.q D.off D.arm).rotOk s a m = true := h
    rw [if_pos h2]
    cases D with
    | mk n st el q off arm =>
      simp only [DK.mk.injEq, true_and, and_true]
      funext i
      by_cases hi : i = s.toNat
      · rw [if_pos hi, if_pos hi, flip_twice]
      · rw [if_neg hi, if_neg hi]
  · rw [if_neg h, if_neg h]
theorem stale_twice (D : DK) (s : Int) : (D.stale s).stale s = D.stale s := by
  unfold stale
  by_cases h : D.valid s = true
  · rw [if_pos h]
    have h2 : (DK.mk D.n (fun i => if i = s.toNat then D.el i else D.st i) D.el D.q D.off D.arm).valid s = true := h
    rw [if_pos h2]
    cases D with
    | mk n st el q off arm =>
      simp only [DK.mk.injEq, true_and, and_true]
      funext i
      by_cases hi : i = s.toNat
      · rw [if_pos hi, if_pos hi]
      · rw [if_neg hi, if_neg hi]
  · rw [if_neg h, if_neg h]
theorem stale_far (D : DK) (s : Int) (i : Nat) (hs : (i : Int) ≠ s) : (D.stale s).cur i = D.cur i := by
  unfold stale
  split
  · rename_i hv
    have hv : D.valid s = true := hv
    unfold valid at hv
    simp only [decide_eq_true_eq] at hv
    show last D.q i (if i = s.toNat then D.el i else D.st i) = _
    rw [if_neg (by omega)]
    rfl
  · rfl
/-- The bits in which a byte differs behind Rot. -/
theorem rot_bits {D : DK} (hok : D.Ok) (hq : D.q = []) (s a m : Int) (i k : Nat) (hi : i < D.n) (hk : k < 64) :
    ∃ x y : UInt8, (D.cur i)[k]? = some x ∧ ((D.rot s a m).cur i)[k]? = some y ∧ ((x ^^^ y).toNat : Int) = if D.rotOk s a m = true ∧ (i : Int) = s ∧ (k : Int) = a then m else 0 := by
  have hl : (D.cur i).length = 64 := by rw [cur_of_nil hq]; exact hok.st i hi
  have hc : D.cur i = D.st i := cur_of_nil hq i
  rw [hc] at hl ⊢
  have hkl : k < (D.st i).length := by omega
  by_cases h : D.rotOk s a m = true
  · have hr : (D.rot s a m).cur i = if i = s.toNat then flip (D.st i) a.toNat (UInt8.ofNat m.toNat) else D.st i := by
      rw [cur_of_nil (by unfold rot; rw [if_pos h]; exact hq)]
      unfold rot
      rw [if_pos h]
    have hb := h
    unfold rotOk valid at hb
    simp only [Bool.and_eq_true, decide_eq_true_eq] at hb
    rw [hr]
    by_cases his : i = s.toNat
    · rw [if_pos his]
      by_cases hka : k = a.toNat
      · refine ⟨(D.st i)[k], (D.st i)[k] ^^^ UInt8.ofNat m.toNat, List.getElem?_eq_getElem hkl, ?_, ?_⟩
        · unfold flip
          rw [← hka, List.getElem?_set, if_pos rfl, if_pos hkl, List.getD_eq_getElem?_getD, List.getElem?_eq_getElem hkl]
          rfl
        · rw [if_pos ⟨h, by omega, by omega⟩, ← UInt8.xor_assoc, UInt8.xor_self, UInt8.zero_xor]
          simp
          omega
      · refine ⟨(D.st i)[k], (D.st i)[k], List.getElem?_eq_getElem hkl, ?_, ?_⟩
        · unfold flip
          rw [List.getElem?_set, if_neg (by omega)]
          exact List.getElem?_eq_getElem hkl
        · rw [if_neg (by omega), UInt8.xor_self]; rfl
    · rw [if_neg his]
      exact ⟨(D.st i)[k], (D.st i)[k], List.getElem?_eq_getElem hkl, List.getElem?_eq_getElem hkl, by rw [if_neg (by omega), UInt8.xor_self]; rfl⟩
  · have hr : D.rot s a m = D := by unfold rot; rw [if_neg h]
    rw [hr, hc]
    exact ⟨(D.st i)[k], (D.st i)[k], List.getElem?_eq_getElem hkl, List.getElem?_eq_getElem hkl, by rw [if_neg (fun hh => h hh.1), UInt8.xor_self]; rfl⟩
theorem rot_q0 {D : DK} (s a m : Int) : (D.rot s a m).q = D.q := by unfold rot; split <;> rfl
end DK
end Go.Proofs.Ytnlgblcldbdnlaa
