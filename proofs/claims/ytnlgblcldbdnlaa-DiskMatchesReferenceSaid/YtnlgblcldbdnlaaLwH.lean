/-
  Two disks that the statement itself made; a run of operations; plain laws on disks.
-/
import Derived.Test.YtnlgblcldbdnlaaLwE
namespace Go.Proofs.Ytnlgblcldbdnlaa
set_option linter.unusedVariables false
set_option linter.unusedSimpArgs false
open Go Go.RowKit

def At2 (w0 wc : World) (p : Nat) (D : DK) (q : Nat) (E : DK) : Prop :=
  ∃ own own2, DkAt wc own p D ∧ DkAt wc own2 q E ∧ Chg [] w0 wc ∧ (∀ k ∈ own, w0.heap.size ≤ k ∧ k ∉ own2) ∧ ∀ k ∈ own2, w0.heap.size ≤ k
theorem At2.chg {w0 wc : World} {p q : Nat} {D E : DK} (h : At2 w0 wc p D q E) : Chg [] w0 wc := by
  obtain ⟨_, _, _, _, h, _⟩ := h
  exact h
theorem At2.swap {w0 wc : World} {p q : Nat} {D E : DK} (h : At2 w0 wc p D q E) : At2 w0 wc q E p D := by
  obtain ⟨own, own2, h1, h2, hc, h3, h4⟩ := h
  exact ⟨own2, own, h2, h1, hc, fun k hk => ⟨h4 k hk, fun hm => (h3 k hm).2 hk⟩, fun k hk => (h3 k hk).1⟩
theorem At2.quiet {w0 wc w' : World} {p q : Nat} {D E : DK} (h : At2 w0 wc p D q E) (hc : Chg [] wc w') : At2 w0 w' p D q E := by
  obtain ⟨own, own2, h1, h2, h3, h4, h5⟩ := h
  exact ⟨own, own2, h1.kept hc (by simp), h2.kept hc (by simp), h3.trans hc (by simp), h4, h5⟩
theorem At.two {w0 wc w' : World} {oth : List Nat} {p q : Nat} {D E : DK} (h : At w0 wc oth p D) (h2 : At wc w' [] q E) : At2 w0 w' p D q E := by
  obtain ⟨own, h1, hc, h3, h4⟩ := h
  obtain ⟨own2, g1, gc, g3, g4⟩ := h2
  exact ⟨own, own2, h1.kept gc (by simp), g1, hc.trans gc (by simp), fun k hk => ⟨(h3 k hk).1, fun hm => by have := h1.lt k hk; have := (g3 k hm).1; omega⟩, fun k hk => Nat.le_trans hc.size (g3 k hk).1⟩
theorem At2.fst {P : Program} {f : FuncId} {args : Array Value} {x : Ending} {w0 wc : World} {p q : Nat} {D D' E : DK} (h : At2 w0 wc p D q E)
    (hf : ∀ oth, At w0 wc oth p D → Calls P f args wc fun e w' => e = x ∧ At w0 w' oth p D' ∧ Kept oth wc w') : Calls P f args wc fun e w' => e = x ∧ At2 w0 w' p D' q E := by
  obtain ⟨own, own2, h1, h2, h3, h4, h5⟩ := h
  refine (hf own2 ⟨own, h1, h3, h4, h2.lt⟩).mono ?_
  rintro e w' ⟨rfl, ⟨own', g1, g2, g3, g4⟩, own0, hc, hn⟩
  exact ⟨rfl, own', own2, g1, h2.kept hc (fun k hk hm => hn k hm hk), g2, g3, h5⟩
theorem At2.snd {P : Program} {f : FuncId} {args : Array Value} {x : Ending} {w0 wc : World} {p q : Nat} {D E E' : DK} (h : At2 w0 wc p D q E)
    (hf : ∀ oth, At w0 wc oth q E → Calls P f args wc fun e w' => e = x ∧ At w0 w' oth q E' ∧ Kept oth wc w') : Calls P f args wc fun e w' => e = x ∧ At2 w0 w' p D q E' :=
  (h.swap.fst hf).mono fun _ _ ⟨he, h'⟩ => ⟨he, h'.swap⟩
theorem At2.left {w0 wc : World} {p q : Nat} {D E : DK} (h : At2 w0 wc p D q E) : At w0 wc [] p D := by
  obtain ⟨own, own2, h1, h2, h3, h4, h5⟩ := h
  exact ⟨own, h1, h3, fun k hk => ⟨(h4 k hk).1, by simp⟩, by simp⟩
theorem At.rebase {w w0 wc : World} {oth : List Nat} {p : Nat} {D : DK} (h : At w0 wc oth p D) (hc : Chg [] w w0) : At w wc oth p D := by
  obtain ⟨own, h1, h2, h3, h4⟩ := h
  exact ⟨own, h1, hc.trans h2 (by simp), fun k hk => ⟨Nat.le_trans hc.size (h3 k hk).1, (h3 k hk).2⟩, h4⟩

/-- A list of operations, one after the other. -/
def DK.run (D : DK) (l : List ActD) : DK := l.foldl (fun D a => (D.act a).2.2) D
theorem DK.run_snoc (D : DK) (l : List ActD) (k : Nat) (x : ActD) (hx : l[k]? = some x) : D.run (l.take (k + 1)) = ((D.run (l.take k)).act x).2.2 := by
  rw [List.take_add_one, hx, Option.toList_some, DK.run, List.foldl_append]
  rfl
namespace DK
theorem tear_q (D : DK) (r : List (Nat × Bytes)) (b : Int) : (D.tear r b).q = D.q := by
  unfold tear; split
  · rfl
  · split <;> rfl
theorem fail_q (D : DK) (w b : Int) : (D.fail w b).q.length ≤ D.q.length := by
  unfold fail; split
  · exact Nat.le_refl _
  · simp [down]
theorem count_q (D : DK) : D.count.2.q.length ≤ D.q.length := by
  unfold count
  split
  · exact Nat.le_refl _
  · split
    · exact Nat.le_refl _
    · exact fail_q D _ _
theorem write_q (D : DK) (s : Int) (t : Bytes) : (D.write s t).2.q.length ≤ D.q.length + 1 := by
  unfold write
  split
  · exact Nat.le_succ _
  · split
    · exact Nat.le_succ _
    · split
      · exact Nat.le_succ _
      · refine Nat.le_trans (count_q _) ?_
        simp [push]
theorem sync_q (D : DK) : D.sync.2.q.length ≤ D.q.length := by
  unfold sync
  split
  · exact Nat.le_refl _
  · split
    · exact count_q D
    · simp [flush]
theorem setArm_q (D : DK) (a w b : Int) : (D.setArm a w b).q = D.q := by unfold setArm; split <;> rfl
theorem rot_q (D : DK) (s a m : Int) : (D.rot s a m).q = D.q := by unfold rot; split <;> rfl
theorem stale_q (D : DK) (s : Int) : (D.stale s).q = D.q := by unfold stale; split <;> rfl
theorem act_q (D : DK) (a : ActD) : (D.act a).2.2.q.length ≤ D.q.length + 1 := by
  unfold act
  repeat' split
  · exact write_q D _ _
  · exact Nat.le_succ _
  · exact Nat.le_succ_of_le (sync_q D)
  · exact Nat.le_succ_of_le (fail_q D _ _)
  · exact Nat.le_succ _
  · rw [setArm_q]; exact Nat.le_succ _
  · rw [rot_q]; exact Nat.le_succ _
  · rw [stale_q]; exact Nat.le_succ _
  · exact Nat.le_succ _
theorem act_n (D : DK) (a : ActD) : (D.act a).2.2.n = D.n := by
  unfold act
  repeat' split
  · exact write_n D _ _
  · rfl
  · exact sync_n D
  · exact fail_n D _ _
  · rfl
  · exact setArm_n D _ _ _
  · exact rot_n D _ _ _
  · exact stale_n D _
  · rfl
theorem run_q (l : List ActD) : ∀ D : DK, (D.run l).q.length ≤ D.q.length + l.length := by
  induction l with
  | nil => exact fun D => Nat.le_refl _
  | cons a l ih =>
    intro D
    have h1 := ih (D.act a).2.2
    have h2 := act_q D a
    have h3 : D.run (a :: l) = (D.act a).2.2.run l := rfl
    rw [h3, List.length_cons]
    omega
theorem run_n (l : List ActD) : ∀ D : DK, (D.run l).n = D.n := by
  induction l with
  | nil => exact fun D => rfl
  | cons a l ih => exact fun D => (ih (D.act a).2.2).trans (act_n D a)
theorem start_sync (D : DK) : D.start.sync = (0, D.start.flush) := by
  unfold sync
  simp [start, count]
theorem all_eq {D E : DK} (hn : D.n = E.n) (h : ∀ i, i < D.n → D.cur i = E.cur i) : D.all = E.all := by
  unfold all
  rw [← hn]
  exact List.map_congr_left (fun i hi => h i (List.mem_range.1 hi))
theorem cur_of_nil {D : DK} (h : D.q = []) (i : Nat) : D.cur i = D.st i := by unfold cur; rw [h]; rfl
end DK
end Go.Proofs.Ytnlgblcldbdnlaa
