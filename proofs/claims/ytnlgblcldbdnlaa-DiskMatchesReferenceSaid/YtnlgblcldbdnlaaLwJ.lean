/-
  More plain laws and small steps for the statements on one disk.
-/
import Derived.Test.YtnlgblcldbdnlaaLwI
namespace Go.Proofs.Ytnlgblcldbdnlaa
set_option linter.unusedVariables false
set_option linter.unusedSimpArgs false
open Go Go.RowKit

theorem info_bool : (Try.prog.info? 4).map (fun i => (i.zero, i.size, i.bytes)) = some (some (.bool false), 1, 1) := by kernel_rfl
def BV (b : Bool) : Value := .bool b
theorem make_bools (n : Nat) (hn : n ≤ 1000000) (w : World) : (Instr.makeSlice 42 (.int .i64 (n : Int)) (.int .i64 (n : Int))).run Try.prog w =
    .ok (.slice (some ⟨w.heap.size, 0, none⟩) n n) (w.alloc (.cells ((List.replicate n false).map BV).toArray 4)) := by
  obtain ⟨i0, hi, hz0, hz1, hz2⟩ := info_parts info_bool
  have := run_make (P := Try.prog) w 42 4 i0 (.bool false) Try.underlying42 hi hz0 .i64 .i64 (n : Int) (n : Int) (by omega) (Int.le_refl _) (by rw [hz2]; omega) (by omega)
  rw [this, hz1, Int.toNat_natCast, Nat.mul_one]
  congr 3
  have h := toList_madeCells_one (.bool false) n
  rw [List.map_replicate, show BV false = Value.bool false from rfl, ← h]
  rfl

/-- The cells of one operation, in any later world. -/
theorem ActsAt.cellsAt {w wX : World} {b off cap n : Nat} {l : List ActD} (h : ActsAt w (.slice (some ⟨b, off, none⟩) n cap) l) (hc : Chg [] w wX) (i : Nat) (x : ActD) (hx : l[i]? = some x) :
    wX.cell? ⟨b, off + i * 6, none⟩ = some (.int .i64 x.kind) ∧ wX.cell? ⟨b, off + i * 6 + 1, none⟩ = some (.int .i64 x.sector) ∧ wX.cell? ⟨b, off + i * 6 + 2, none⟩ = some (.int .i64 x.bytes) ∧
    wX.cell? ⟨b, off + i * 6 + 3, none⟩ = some (.string ⟨x.text.toArray⟩) ∧ wX.cell? ⟨b, off + i * 6 + 4, none⟩ = some (.bool x.odd) ∧ wX.cell? ⟨b, off + i * 6 + 5, none⟩ = some (.int .i64 x.after) := by
  obtain ⟨b', off', he, _, h'⟩ := (h.quiet hc).elem i x hx
  simp only [Option.some.injEq, Addr.mk.injEq, and_true] at he
  obtain ⟨rfl, rfl⟩ := he
  exact h'
theorem StrRow.at {w : World} {v : Value} {l : List Bytes} (h : StrRow w v l) (N : Nat) (hN : l.length = N) (i : Nat) (x : Bytes) (hx : l[i]? = some x) :
    ∃ g cap, v = .slice (some ⟨g, 0, none⟩) N cap ∧ w.cell? ⟨g, i, none⟩ = some (.string ⟨x.toArray⟩) := by
  subst hN
  obtain ⟨ao, cap, rfl, hf⟩ := h.form
  obtain ⟨g, rfl, hc⟩ := hf i x hx
  exact ⟨g, cap, rfl, hc⟩

namespace DK
/-- A write on a disk that is on and not armed. -/
theorem write_on {D : DK} (ho : D.off = false) (ha : D.arm = none) (s : Int) (t : Bytes) : D.write s t = if D.valid s = true ∧ t.length = 64 then (0, D.push s t) else (1, D) := by
  unfold write
  rw [ho, if_neg (by simp)]
  by_cases h1 : D.valid s = true
  · rw [if_neg (by rw [h1]; simp)]
    by_cases h2 : t.length = 64
    · rw [if_neg (by rw [h2]; simp), if_pos ⟨h1, h2⟩]
      unfold count
      rw [show (D.push s t).arm = none from ha]
    · rw [if_pos h2, if_neg (fun h => h2 h.2)]
  · rw [if_pos (by simpa using h1), if_neg (fun h => h1 h.1)]
theorem last_none (i : Nat) (l : List (Nat × Bytes)) : ∀ d, (∀ p ∈ l, p.1 ≠ i) → last l i d = d := by
  induction l with
  | nil => exact fun d _ => rfl
  | cons p l ih =>
    intro d h
    have := ih (if p.1 = i then p.2 else d) (fun q hq => h q (by simp [hq]))
    unfold last at this ⊢
    rw [List.foldl_cons, this, if_neg (h p (by simp))]
theorem put_far (D : DK) (s i : Nat) (t : Bytes) (h : s ≠ i) : (D.put s t).st i = D.st i := by
  unfold put; simp only; rw [if_neg (fun e => h e.symm)]
theorem settle_far (i : Nat) (l : List (Nat × Bytes)) : ∀ D : DK, (∀ p ∈ l, p.1 ≠ i) → (D.settle l).st i = D.st i := by
  induction l with
  | nil => exact fun D _ => rfl
  | cons p l ih =>
    intro D h
    have h1 := ih (D.put p.1 p.2) (fun q hq => h q (by simp [hq]))
    rw [put_far D p.1 i p.2 (h p (by simp))] at h1
    exact h1
theorem tear_far (i : Nat) (D : DK) (r : List (Nat × Bytes)) (b : Int) (h : ∀ p ∈ r, p.1 ≠ i) : (D.tear r b).st i = D.st i := by
  unfold tear
  split
  · rfl
  · split
    · exact put_far _ _ _ _ (h _ (by simp))
    · rfl
/-- A failure leaves every sector as it lies on the disk that no pending write names. -/
theorem fail_far (D : DK) (x y : Int) (i : Nat) (h : ∀ p ∈ D.q, p.1 ≠ i) : ((D.fail x y).start).cur i = D.st i := by
  unfold fail
  split
  · exact last_none i _ _ h
  · refine (cur_of_nil (by rfl) i).trans ?_
    show ((D.settle (D.q.take (D.cut x))).tear (D.q.drop (D.cut x)) y).st i = D.st i
    rw [tear_far i _ _ _ (fun p hp => h p (List.mem_of_mem_drop hp)), settle_far i _ _ (fun p hp => h p (List.mem_of_mem_take hp))]
theorem all_at (D : DK) (i : Nat) (h : i < D.n) : D.all[i]? = some (D.cur i) := by
  unfold all
  rw [List.getElem?_map, List.getElem?_range h]
  rfl
theorem mark_push {bl : List Bool} {q : List (Nat × Bytes)} {i : Nat} {t : Bytes} (h : ∀ j : Nat, bl[j]? = some false → ∀ y ∈ q, y.1 ≠ j) (j : Nat) (hj : (bl.set i true)[j]? = some false) : ∀ y ∈ q ++ [(i, t)], y.1 ≠ j := by
  rw [List.getElem?_set] at hj
  by_cases hij : i = j
  · rw [if_pos hij] at hj
    split at hj <;> simp at hj
  · rw [if_neg hij] at hj
    intro y hy
    rcases List.mem_append.1 hy with hy | hy
    · exact h j hj y hy
    · simp at hy
      rw [hy]
      exact hij
end DK
end Go.Proofs.Ytnlgblcldbdnlaa
