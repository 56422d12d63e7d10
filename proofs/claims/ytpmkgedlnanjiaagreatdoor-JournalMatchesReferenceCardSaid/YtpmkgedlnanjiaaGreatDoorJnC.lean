/-
  Journal, plain laws: a journal that lives on a disk; a failure between two calls; a disk that is off.
-/
import Derived.Test.YtpmkgedlnanjiaaGreatDoorJnB
namespace Go.Proofs.YtpmkgedlnanjiaaGreatDoor
set_option linter.unusedVariables false
set_option linter.unusedSimpArgs false
open Go
namespace Jn
section
variable (sm : Bytes → Bytes)
/-- A journal with these records, c sectors of pieces, on a disk that is on; nothing is pending. -/
structure Live (D : DK) (c : Nat) (l : List Bytes) : Prop where
  on : On D
  lies : At sm D c l
  neat : Neat sm D c
  q : D.q = []
end
/-- What an Append answers on such a disk. -/
def verdict (D : DK) (c : Nat) (rs : List Bytes) : Int := if rs.any (fun r => decide (2000 < r.length)) = true then 3 else if D.n - 2 - c < (pieces (text rs)).length then 23 else 0
theorem live_new {sm : Bytes → Bytes} (hs : ∀ s, (sm s).length = 16) {n : Nat} (h1 : 3 ≤ n) (h2 : n ≤ 4000) : Live sm (DK.new n) 0 [] := ⟨new_on (by omega) h2, new_at hs h1 h2, new_neat sm n, rfl⟩
theorem Live.openJ {sm : Bytes → Bytes} {D : DK} {c : Nat} {l : List Bytes} (h : Live sm D c l) : openJ sm D = ((0, some ⟨D.n, c, l, false⟩), D) := open_neat h.on h.lies h.neat
theorem Live.append {sm : Bytes → Bytes} (hs : ∀ s, (sm s).length = 16) {D : DK} {c : Nat} {l : List Bytes} (h : Live sm D c l) (rs : List Bytes) :
    ∃ E, append sm ⟨D.n, c, l, false⟩ D rs = ((verdict D c rs, ⟨D.n, if verdict D c rs = 0 then c + (pieces (text rs)).length else c, if verdict D c rs = 0 then l ++ rs else l, false⟩), E) ∧ E.n = D.n ∧
      Live sm E (if verdict D c rs = 0 then c + (pieces (text rs)).length else c) (if verdict D c rs = 0 then l ++ rs else l) := by
  by_cases h1 : rs.any (fun r => decide (2000 < r.length)) = true
  · have e : verdict D c rs = 3 := by unfold verdict; rw [if_pos h1]
    rw [e]
    refine ⟨D, ?_, rfl, h⟩
    unfold Jn.append
    rw [if_neg (by show ¬ false = true; decide), if_pos h1]
    rfl
  · by_cases h2 : D.n - 2 - c < (pieces (text rs)).length
    · have e : verdict D c rs = 23 := by unfold verdict; rw [if_neg h1, if_pos h2]
      rw [e]
      refine ⟨D, ?_, rfl, h⟩
      unfold Jn.append
      rw [if_neg (by show ¬ false = true; decide), if_neg h1, if_pos (show room ⟨D.n, c, l, false⟩ < _ from h2)]
      rfl
    · have e : verdict D c rs = 0 := by unfold verdict; rw [if_neg h1, if_neg h2]
      rw [e]
      simp only [if_true]
      obtain ⟨E, e1, e2, e3, e4, e5, e6⟩ := append_on hs h.on h.lies h.neat rs (by simpa using h1) (by omega)
      refine ⟨E, e1, e3, e2, e5, e6, ?_⟩
      rcases e4 with rfl | e4
      · exact h.q
      · exact e4
/-- The disk without power. -/
def dead (D : DK) : DK := { D with off := true }
theorem Live.fail {sm : Bytes → Bytes} {D : DK} {c : Nat} {l : List Bytes} (h : Live sm D c l) (x y : Int) : D.fail x y = dead D := by
  have h1 := h.on.off
  have h2 := h.on.arm
  have h3 := h.q
  obtain ⟨n, st, el, q, off, arm⟩ := D
  simp only at h1 h2 h3
  subst h1 h2 h3
  unfold DK.fail
  rw [if_neg (by simp)]
  unfold DK.down DK.cut
  simp [DK.settle, DK.tear, dead]
theorem Live.start {sm : Bytes → Bytes} {D : DK} {c : Nat} {l : List Bytes} (h : Live sm D c l) : (dead D).start = D := by
  have h1 := h.on.off
  have h2 := h.on.arm
  obtain ⟨n, st, el, q, off, arm⟩ := D
  simp only at h1 h2
  subst h1 h2
  rfl
theorem dead_open (sm : Bytes → Bytes) (D : DK) : openJ sm (dead D) = ((24, none), dead D) := by
  unfold openJ
  rw [if_pos (show (dead D).off = true from rfl)]
theorem dead_write (D : DK) (s : Int) (t : Bytes) : (dead D).write s t = (24, dead D) := by
  unfold DK.write
  rw [if_pos (show (dead D).off = true from rfl)]
/-- An Append of one record without power. -/
theorem dead_append (sm : Bytes → Bytes) (D : DK) (j : J) (hb : j.broken = false) (x : UInt8) : append sm j (dead D) [[x]] = if room j = 0 then ((23, j), dead D) else ((24, { j with broken := true }), dead D) := by
  have h1 : (pieces (text [[x]])) = [[49, 58, x]] := by
    have h2 : text [[x]] = [49, 58, x] := by
      rw [text_cons]
      show Lib.itoa ((1 : Nat) : Int) ++ 58 :: (x :: ([] ++ [])) = _
      rw [itoa_dec, Lib.decDigits_one (by decide)]
      rfl
    rw [h2]
    rfl
  unfold Jn.append
  rw [hb, if_neg (by decide), if_neg (by simp), h1]
  simp only [List.length_singleton]
  by_cases h0 : room j = 0
  · rw [if_pos (by omega), if_pos h0]
  · rw [if_neg (by omega), if_neg (by simp), if_neg h0]
    have h3 : steps (dead D) (plan sm j.c [[49, 58, x]]) = (24, dead D) := by
      unfold plan steps
      have h4 : put (dead D) (2 + j.c) ([[49, 58, x]].map (fun _ => zero)) = (24, dead D) := by
        have h5 : writes (dead D) (2 + j.c) ([[49, 58, x]].map (fun _ => zero)) = (24, dead D) := by
          show (if ((dead D).write _ zero).1 ≠ 0 then (dead D).write _ zero else _) = _
          rw [dead_write, if_pos (by simp)]
        unfold put
        rw [h5, if_pos (by simp)]
      rw [h4, if_pos (by simp)]
    rw [h3, if_pos (by simp)]
theorem broken_append (sm : Bytes → Bytes) (D : DK) (j : J) (hb : j.broken = true) (rs : List Bytes) : append sm j D rs = ((12, j), D) := by
  unfold Jn.append
  rw [if_pos hb]
end Jn
end Go.Proofs.YtpmkgedlnanjiaaGreatDoor
