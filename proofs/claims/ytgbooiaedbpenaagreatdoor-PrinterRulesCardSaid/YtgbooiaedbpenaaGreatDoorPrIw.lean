/-
 Printer: a row that came in.
-/
import Derived.Test.YtgbooiaedbpenaaGreatDoorPrIn
namespace Go.Proofs.YtgbooiaedbpenaaGreatDoor
set_option linter.unusedVariables false
set_option linter.unusedSimpArgs false
open Go Go.RowKit
/-- A row that came in. -/
structure InW (w : World) (x : Pr.Rw) (ao : Option Addr) (cap n : Nat) : Prop where
 hn : x.marks.length = n
 hm : RdS 3 Pr.RMk w (.slice ao n cap) x.marks
 hi : Pr.I64 x.x ∧ Pr.I64 x.y ∧ Pr.I64 x.f ∧ Pr.I64 x.t ∧ Pr.I64 x.step
 hr : Rch n
 hs : Rch x.name.length
/-- Its cells. -/
def rwC (x : Pr.Rw) (ao : Option Addr) (cap n : Nat) : List Value := [.string ⟨x.name.toArray⟩, .int .i64 x.x, .int .i64 x.y, .int .i64 x.f, .int .i64 x.t, .int .i64 x.step, .slice ao n cap, .int .i64 x.at_]
theorem InW.keep {w w' : World} {x : Pr.Rw} {ao : Option Addr} {cap n : Nat} (H : InW w x ao cap n) (hc : Chg [] w w') : InW w' x ao cap n := ⟨H.hn, H.hm.keep Pr.kq_mk hc, H.hi, H.hr, H.hs⟩
theorem InW.rd {w : World} {x : Pr.Rw} {ao : Option Addr} {cap n : Nat} (H : InW w x ao cap n) : Pr.RRw w (rwC x ao cap n) x := ⟨_, rfl, H.hm, H.hi.1, H.hi.2.1, H.hi.2.2.1, H.hi.2.2.2.1, H.hi.2.2.2.2, H.hs⟩
/-- A row of the call's own as a list that can be read. -/
theorem RdS.of_own' {α : Type} {C : Nat} {R : World → List Value → α → Prop} {w : World} {B : Nat} {e : TypeId} {g n cap : Nat} {l : List α} {css : List (List Value)} (h : w.ownsRow B e C (.slice (some ⟨g, 0, none⟩) n cap) n css.flatten) (hl : css.length = l.length) (hn : n = l.length) (hrc : Rch n)
 (hC : ∀ cs ∈ css, cs.length = C) (hR : ∀ (i : Nat) (x : α) (cs : List Value), l[i]? = some x → css[i]? = some cs → R w cs x) : RdS C R w (.slice (some ⟨g, 0, none⟩) n cap) l := by
 rcases h.2 with ⟨he, _⟩ | ⟨g', cap', cur, he, hB, hg, hle, hm, hsz, ht⟩
 · cases he
 · cases he
   subst hn
   refine RdS.of_cells hl hle hrc hC hR (fun k c hk => ?_) (Array.getElem?_eq_some_iff.1 hg).1
   rw [cell_of_row w g _ _ _ (0, 0) hg, Nat.zero_add]
   have hlt : k < l.length * C := by
    have h1 := (List.getElem?_eq_some_iff.1 hk).1
    have h2 : css.flatten.length = css.length * C := by
     clear hk h1 ht h hR hl
     induction css with
     | nil => simp
     | cons d ds ih => rw [List.flatten_cons, List.length_append, ih (fun cs hcs => hC cs (by simp [hcs])), hC d (by simp), List.length_cons, Nat.add_mul]; omega
    rw [h2, hl] at h1
    exact h1
   have h5 : (cur.toList.take (l.length * C))[k]? = some c := by rw [ht]; exact hk
   rw [List.getElem?_take_of_lt hlt, Array.getElem?_toList] at h5
   exact h5
/-- Rows that are all the same, in a list of the call's own. -/
def OwR (B : Nat) (c : List Value) (j : Nat) (v : Value) (w : World) : Prop := w.ownsRow B 50 8 v j (List.replicate j c).flatten
theorem OwR.form {B j : Nat} {c : List Value} {v : Value} {w : World} (h : OwR B c j v w) : ∃ ao cap, v = .slice ao j cap := by
 rcases h.2 with ⟨rfl, h0⟩ | ⟨g, cap, cur, rfl, _⟩
 · exact ⟨none, 0, by rw [h0]⟩
 · exact ⟨_, _, rfl⟩
theorem OwR.rd {B j : Nat} {w : World} {x : Pr.Rw} {ao : Option Addr} {cap n : Nat} {v : Value} (h : OwR B (rwC x ao cap n) j v w) (H : InW w x ao cap n) (hj : j ≤ 1000) : RdS 8 Pr.RRw w v (List.replicate j x) := by
 rcases h.2 with ⟨rfl, h0⟩ | ⟨g, cap', cur, rfl, _⟩
 · subst h0
   exact RdS.nil _ _ _ _ _
 · refine RdS.of_own' (css := List.replicate j (rwC x ao cap n)) h (by simp) (by simp) (by unfold Rch; omega) (fun cs hcs => by rw [List.eq_of_mem_replicate hcs]; rfl) (fun i y cs h1 h2 => ?_)
   have e1 := List.eq_of_mem_replicate (List.mem_of_getElem? h1)
   have e2 := List.eq_of_mem_replicate (List.mem_of_getElem? h2)
   rw [e1, e2]
   exact H.rd
end Go.Proofs.YtgbooiaedbpenaaGreatDoor
