/-
 A drawn region by an invariant over what has come up: each operation is looked at once.
-/
import Derived.Test.YtgbooiaedbpenaaGreatDoorPrB
import Derived.Deep.DrawnRows
import Derived.Deep.RegionHeld3
namespace Go.Proofs.YtgbooiaedbpenaaGreatDoor
set_option linter.unusedVariables false
set_option linter.unusedSimpArgs false
open Go

def undone (l : Array Bool) : Nat := l.toList.count false
theorem undone_set {l : Array Bool} {i : Nat} (h : l.getD i true = false) : undone (l.setIfInBounds i true) + 1 = undone l := by
 unfold undone
 by_cases hi : i < l.size
 · have h1 : l.toList[i]'(by simpa using hi) = false := by simpa [Array.getD, hi] using h
   rw [Array.toList_setIfInBounds, List.count_set (by simpa using hi), h1]
   have h2 : 0 < l.toList.count false := List.count_pos_iff.2 (h1 ▸ List.getElem_mem _)
   simp only [BEq.rfl, if_true]
   have h3 : ((true == false) = true) = False := by simp
   rw [if_neg (by simp)]
   omega
 · simp [Array.getD, hi] at h
section
variable {P : Program} {ops : Array Oper} {Q : Exit → Act → World → Prop} {md : Region.Mode}
theorem wpAnyH_inv {S : World → Prop} (I : Array Bool → Act → World → Prop) (hdone : ∀ l a w, I l a w → Region.ready md ops l = [] → Q .normal a w)
 (hstep : ∀ l a w i, I l a w → i ∈ Region.ready md ops l → wpOp P ops Q i (fun a' w' => S w' ∧ I (l.setIfInBounds i true) a' w') a w) :
 ∀ (fuel : Nat) (l : Array Bool) (a : Act) (w : World), undone l ≤ fuel → I l a w → wpAnyH P md ops Q S fuel l a w
 | 0, l, a, w, h0, hI => by
  have hr : Region.ready md ops l = [] := by
   refine List.eq_nil_iff_forall_not_mem.2 fun i hi => ?_
   have := undone_set (mem_ready.1 hi).1
   omega
  exact ⟨hr, hdone l a w hI hr⟩
 | fuel + 1, l, a, w, h0, hI => ⟨hdone l a w hI, fun i hi => wpOp_mono (fun a' w' h => ⟨h.1, wpAnyH_inv I hdone hstep fuel _ a' w' (by have := undone_set (mem_ready.1 hi).1; omega) h.2⟩) (hstep l a w i hI hi)⟩
/-- One operation, handed over as the walk's tactics want it. -/
theorem wpOp_hand {K : Act → World → Prop} {a : Act} {w : World} {i : Nat} {o : Oper} (ho : ops[i]? = some o)
 (h : ∀ K' : Act → World → Prop, Shut (∀ a w, K a w → K' a w) → if Region.wanted o (yielded ops a.tmps) = true then Oper.wp P o a w K' Q else K' (a.put o.dst undef) w) : wpOp P ops Q i K a w :=
 wpOp_step ho (fun K' hK => h K' hK)
end
end Go.Proofs.YtgbooiaedbpenaaGreatDoor
