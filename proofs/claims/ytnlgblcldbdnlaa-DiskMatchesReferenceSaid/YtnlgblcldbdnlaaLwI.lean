/-
  Plain laws and small steps for the statements on one disk.
-/
import Derived.Test.YtnlgblcldbdnlaaLwH
import Derived.Test.YtnlgblcldbdnlaaLwG
import Derived.Test.YtnlgblcldbdnlaaLwAll
namespace Go.Proofs.Ytnlgblcldbdnlaa
set_option linter.unusedVariables false
set_option linter.unusedSimpArgs false
open Go Go.RowKit

theorem At.old {w0 wc : World} {oth new : List Nat} {p : Nat} {D : DK} (h : At w0 wc oth p D) (hn : ∀ k ∈ new, k < w0.heap.size) : At w0 wc (new ++ oth) p D := by
  obtain ⟨own, h1, h2, h3, h4⟩ := h
  refine ⟨own, h1, h2, fun k hk => ⟨(h3 k hk).1, fun hm => ?_⟩, fun k hk => ?_⟩
  · rcases List.mem_append.1 hm with h | h
    · have := hn k h
      have := (h3 k hk).1
      omega
    · exact (h3 k hk).2 h
  · rcases List.mem_append.1 hk with h | h
    · exact Nat.lt_of_lt_of_le (hn k h) h2.size
    · exact h4 k h
theorem Kept.blk {oth : List Nat} {w w' : World} (h : Kept oth w w') {b : Nat} {cs : List Value} {e : TypeId} (hb : Blk w b cs e) (hm : b ∈ oth) : Blk w' b cs e := by
  obtain ⟨own, hc, hn⟩ := h
  exact hc.blk hb (fun hk => hn b hk hm)
theorem StrRow.set {w : World} {g n cap : Nat} {l : List Bytes} (h : StrRow w (.slice (some ⟨g, 0, none⟩) n cap) l) (i : Nat) (x : Bytes) :
    StrRow (w.setCell ⟨g, i, none⟩ (vstr x)) (.slice (some ⟨g, 0, none⟩) n cap) (l.set i x) := by
  have hn : n = l.length := by
    rcases h.2 with ⟨h0, _⟩ | ⟨g', cap', cur, h0, _⟩
    · simp at h0
    · simp at h0; exact h0.2.1
  subst hn
  unfold StrRow
  rw [List.length_set, List.map_set]
  exact (World.ownsRow.stored h i (vstr x)).1

theorem last_append (l m : List (Nat × Bytes)) (s : Nat) (d : Bytes) : DK.last (l ++ m) s d = DK.last m s (DK.last l s d) := by
  unfold DK.last; rw [List.foldl_append]
/-- Behind a start a write either changes nothing, or it is the next one in the queue. -/
theorem start_write (D : DK) (s : Int) (t : Bytes) : (D.start.write s t) = if D.valid s = true ∧ t.length = 64 then (0, D.start.push s t) else (1, D.start) := by
  unfold DK.write
  rw [show D.start.off = false from rfl, if_neg (by simp)]
  have hv : D.start.valid s = D.valid s := rfl
  rw [hv]
  by_cases h1 : D.valid s = true
  · rw [if_neg (by rw [h1]; simp)]
    by_cases h2 : t.length = 64
    · rw [if_neg (by rw [h2]; simp), if_pos ⟨h1, h2⟩]
      unfold DK.count
      rfl
    · rw [if_pos h2, if_neg (fun h => h2 h.2)]
  · rw [if_pos (by simpa using h1), if_neg (fun h => h1 h.1)]
theorem push_all (D : DK) (s : Nat) (t : Bytes) : (D.push s t).all = D.all.set s t := by
  unfold DK.all
  rw [show (D.push s t).n = D.n from rfl]
  have hcur : ∀ i, (D.push s t).cur i = if s = i then t else D.cur i := by
    intro i
    unfold DK.cur DK.push
    rw [last_append]
    simp [DK.last]
  apply List.ext_getElem?
  intro i
  rw [List.getElem?_set, List.getElem?_map, List.length_map, List.length_range, List.getElem?_map]
  by_cases hi : i < D.n
  · rw [List.getElem?_range hi]
    simp only [Option.map_some, hcur]
    by_cases hs : s = i
    · subst hs
      rw [if_pos rfl, if_pos rfl, if_pos hi]
    · rw [if_neg hs, if_neg hs]
  · rw [List.getElem?_eq_none (by simp; omega)]
    simp
    omega

theorem StrRow.spot {w : World} {v : Value} {l : List Bytes} (h : StrRow w v l) (i : Nat) (hi : i < l.length) :
    ∃ g cap, v = .slice (some ⟨g, 0, none⟩) l.length cap ∧ w.frozen? ⟨g, i, none⟩ = false ∧ w.cell? ⟨g, i, none⟩ = some (vstr l[i]) ∧ g < w.heap.size := by
  obtain ⟨ao, cap, rfl, hf⟩ := h.form
  obtain ⟨g, rfl, hc⟩ := hf i l[i] (by simp)
  refine ⟨g, cap, rfl, ?_, hc, World.block_lt_of_cell? _ _ hc⟩
  rcases h.2 with ⟨h', _⟩ | ⟨g', cap', cur, h', hb, hg, hnc, hcm, hcs, htake⟩
  · simp at h'
  · simp only [Value.slice.injEq, Option.some.injEq, Addr.mk.injEq, and_true, true_and] at h'
    obtain ⟨rfl, rfl⟩ := h'
    exact frozen_of_row w g i _ _ hg
theorem StrRow.spot2 {w : World} {g n cap : Nat} {l : List Bytes} (h : StrRow w (.slice (some ⟨g, 0, none⟩) n cap) l) (i : Nat) (hi : i < l.length) :
    w.frozen? ⟨g, i, none⟩ = false ∧ w.cell? ⟨g, i, none⟩ = some (vstr l[i]) ∧ g < w.heap.size := by
  obtain ⟨g', cap', hv, hf, hc, hs⟩ := h.spot i hi
  simp only [Value.slice.injEq, Option.some.injEq, Addr.mk.injEq, and_true, true_and] at hv
  obtain ⟨rfl, rfl, rfl⟩ := hv
  exact ⟨hf, hc, hs⟩
theorem DK.all_len (D : DK) : D.all.length = D.n := by unfold DK.all; simp
theorem DK.fail_off (D : DK) (x y : Int) : (D.fail x y).off = true := by
  unfold DK.fail
  split
  · assumption
  · rfl
theorem DK.write_dead {D : DK} (h : D.off = true) (s : Int) (t : Bytes) : D.write s t = (24, D) := by
  unfold DK.write; rw [if_pos h]
theorem DK.read_dead {D : DK} (h : D.off = true) (s : Int) : D.read s = ([], 24) := by
  unfold DK.read; rw [if_pos h]
end Go.Proofs.Ytnlgblcldbdnlaa
