/-
  Plain laws of layer 43: an armed disk does what one that is not armed does, up to the call at which it turns off.
-/
import Derived.Test.YtnlgblcldbdnlaaLwL
namespace Go.Proofs.Ytnlgblcldbdnlaa
set_option linter.unusedVariables false
set_option linter.unusedSimpArgs false
open Go Go.RowKit
namespace DK
/-- A disk with the arming that is laid upon it. -/
def armed (D : DK) (a : Option (Int × Int × Int)) : DK := { D with arm := a }
theorem settle_armed (a : Option (Int × Int × Int)) (l : List (Nat × Bytes)) : ∀ D : DK, (D.armed a).settle l = (D.settle l).armed a := by
  induction l with
  | nil => intro D; rfl
  | cons p l ih => exact fun D => ih (D.put p.1 p.2)
theorem tear_armed (a : Option (Int × Int × Int)) (D : DK) (r : List (Nat × Bytes)) (b : Int) : (D.armed a).tear r b = (D.tear r b).armed a := by
  unfold tear
  split
  · rfl
  · split <;> rfl
theorem down_armed (a : Option (Int × Int × Int)) (D : DK) (w b : Int) : (D.armed a).down w b = D.down w b := by
  unfold down
  have h : (D.armed a).cut w = D.cut w := rfl
  rw [h, settle_armed, tear_armed]
  rfl
theorem flush_armed (a : Option (Int × Int × Int)) (D : DK) : (D.armed a).flush = D.flush.armed a := by
  unfold flush
  rw [settle_armed]
  rfl
theorem fail_armed (a : Option (Int × Int × Int)) (D : DK) (w b : Int) (ho : D.off = false) : (D.armed a).fail w b = D.fail w b := by
  unfold fail
  rw [show (D.armed a).off = false from ho, ho, down_armed]
  rfl
/-- What an arming that still waits for L calls is. -/
def wait (D : DK) (L W B : Int) : DK := D.armed (if 0 ≤ L then some (L, W, B) else none)
def less (L : Int) : Int := if 0 < L then L - 1 else L
theorem setArm_wait {D : DK} (ho : D.off = false) (L W B : Int) : D.setArm L W B = D.wait L W B := by
  unfold setArm
  rw [if_neg (by rw [ho]; simp)]
  rfl
theorem wait_start {D : DK} (L W B : Int) : (D.wait L W B).start = D.start := rfl
theorem count_wait {D : DK} (ho : D.off = false) (L W B : Int) : (D.wait L W B).count = if L = 0 then (24, D.fail W B) else (0, D.wait (less L) W B) := by
  unfold count wait
  by_cases h0 : 0 ≤ L
  · rw [if_pos h0]
    show (if 0 < L then _ else _) = _
    by_cases h1 : 0 < L
    · rw [if_pos h1, if_neg (by omega)]
      unfold less
      rw [if_pos h1, if_pos (by omega)]
      rfl
    · rw [if_neg h1, if_pos (by omega), fail_armed _ _ _ _ ho]
  · rw [if_neg h0]
    show ((0 : Int), D.armed none) = _
    rw [if_neg (by omega)]
    unfold less
    rw [if_neg (show ¬ 0 < L by omega), if_neg h0]
theorem sync_wait {D : DK} (ho : D.off = false) (L W B : Int) : (D.wait L W B).sync = if L = 0 then (24, D.fail W B) else (0, D.flush.wait (less L) W B) := by
  unfold sync
  rw [count_wait ho]
  rw [show (D.wait L W B).off = false from ho]
  by_cases h0 : L = 0
  · simp only [if_pos h0]
    rfl
  · simp only [if_neg h0]
    show ((0 : Int), (D.wait (less L) W B).flush) = _
    unfold wait
    rw [flush_armed]
theorem sync_on {D : DK} (ho : D.off = false) (ha : D.arm = none) : D.sync = (0, D.flush) := by
  unfold sync count
  rw [ho, ha]
  rfl
theorem write_wait {D : DK} (ho : D.off = false) (L W B : Int) (s : Int) (t : Bytes) : (D.wait L W B).write s t =
    if D.valid s = true ∧ t.length = 64 then (if L = 0 then (24, (D.push s t).fail W B) else (0, (D.push s t).wait (less L) W B)) else (1, D.wait L W B) := by
  unfold write
  rw [show (D.wait L W B).off = false from ho, if_neg (by simp), show (D.wait L W B).valid s = D.valid s from rfl, show (D.wait L W B).push s t = (D.push s t).wait L W B from rfl]
  rw [count_wait (D := D.push s t) ho]
  by_cases h1 : D.valid s = true
  · rw [if_neg (by rw [h1]; simp)]
    by_cases h2 : t.length = 64
    · rw [if_neg (by rw [h2]; simp)]
      exact (if_pos ⟨h1, h2⟩).symm
    · rw [if_pos h2, if_neg (fun h => h2 h.2)]
  · rw [if_pos (by simpa using h1), if_neg (fun h => h1 h.1)]
end DK
end Go.Proofs.Ytnlgblcldbdnlaa
