/-
  A disk that the statement itself made, beside other things that it made: the contracts of all methods in one shape.
-/
import Derived.Test.YtnlgblcldbdnlaaLwC
import Derived.Test.YtnlgblcldbdnlaaLwD
import Derived.Test.YtnlgblcldbdnlaaDkJ
namespace Go.Proofs.Ytnlgblcldbdnlaa
set_option linter.unusedVariables false
set_option linter.unusedSimpArgs false
open Go Go.RowKit

/-- Since world w0 a disk was made; it lies at p and holds D; the blocks 'oth' are none of its own. -/
def At (w0 wc : World) (oth : List Nat) (p : Nat) (D : DK) : Prop :=
  ∃ own, DkAt wc own p D ∧ Chg [] w0 wc ∧ (∀ k ∈ own, w0.heap.size ≤ k ∧ k ∉ oth) ∧ ∀ k ∈ oth, k < wc.heap.size
/-- The blocks 'oth' are as they were. -/
def Kept (oth : List Nat) (w w' : World) : Prop := ∃ own, Chg own w w' ∧ ∀ k ∈ own, k ∉ oth

theorem Kept.refl (oth : List Nat) (w : World) : Kept oth w w := ⟨[], Chg.refl _ _, by simp⟩
theorem Chg.toKept {w w' : World} (h : Chg [] w w') (oth : List Nat) : Kept oth w w' := ⟨[], h, by simp⟩
theorem Kept.size {oth : List Nat} {w w' : World} (h : Kept oth w w') : w.heap.size ≤ w'.heap.size := by
  obtain ⟨own, hc, _⟩ := h
  exact hc.size
theorem Kept.trans {oth : List Nat} {w w1 w2 : World} (h : Kept oth w w1) (h1 : Kept oth w1 w2) : Kept oth w w2 := by
  obtain ⟨own, hc, hn⟩ := h
  obtain ⟨own1, hc1, hn1⟩ := h1
  exact ⟨own ++ own1, (hc.mono (by simp +contextual)).trans hc1 (fun k hk => .inl (by simp [hk])), fun k hk => by
    rcases List.mem_append.1 hk with h | h
    · exact hn k h
    · exact hn1 k h⟩
theorem StrRow.keptBy {w w' : World} {oth : List Nat} {v : Value} {l : List Bytes} (h : StrRow w v l) (hk : Kept oth w w') (hv : ∀ k ∈ v.ownBlock.toList, k ∈ oth) : StrRow w' v l := by
  obtain ⟨own, hc, hn⟩ := hk
  exact h.kept hc (fun k hk hm => hn k hm (hv k hk))
theorem At.ok {w0 wc : World} {oth : List Nat} {p : Nat} {D : DK} (h : At w0 wc oth p D) : D.Ok := by
  obtain ⟨own, h, _⟩ := h
  exact h.ok
theorem At.chg {w0 wc : World} {oth : List Nat} {p : Nat} {D : DK} (h : At w0 wc oth p D) : Chg [] w0 wc := by
  obtain ⟨own, _, h, _⟩ := h
  exact h
theorem At.quiet {w0 wc w' : World} {oth : List Nat} {p : Nat} {D : DK} (h : At w0 wc oth p D) (hc : Chg [] wc w') : At w0 w' oth p D := by
  obtain ⟨own, h1, h2, h3, h4⟩ := h
  exact ⟨own, h1.kept hc (by simp), h2.trans hc (by simp), h3, fun k hk => Nat.lt_of_lt_of_le (h4 k hk) hc.size⟩
/-- One more thing beside the disk: a block that was made now. -/
theorem At.more {w0 wc w' : World} {oth new : List Nat} {p : Nat} {D : DK} (h : At w0 wc oth p D) (hc : Chg [] wc w') (hn : ∀ k ∈ new, wc.heap.size ≤ k ∧ k < w'.heap.size) : At w0 w' (new ++ oth) p D := by
  obtain ⟨own, h1, h2, h3, h4⟩ := h
  refine ⟨own, h1.kept hc (by simp), h2.trans hc (by simp), fun k hk => ⟨(h3 k hk).1, fun hm => ?_⟩, fun k hk => ?_⟩
  · rcases List.mem_append.1 hm with h | h
    · have := h1.lt k hk
      have := (hn k h).1
      omega
    · exact (h3 k hk).2 h
  · rcases List.mem_append.1 hk with h | h
    · exact (hn k h).2
    · exact Nat.lt_of_lt_of_le (h4 k h) hc.size
/-- A block beside the disk is written. -/
theorem At.beside {w0 wc w' : World} {oth blk : List Nat} {p : Nat} {D : DK} (h : At w0 wc oth p D) (hc : Chg blk wc w') (hb : ∀ k ∈ blk, k ∈ oth ∧ w0.heap.size ≤ k) : At w0 w' oth p D := by
  obtain ⟨own, h1, h2, h3, h4⟩ := h
  exact ⟨own, h1.kept hc (fun k hk hm => (h3 k hk).2 (hb k hm).1), h2.trans hc (fun k hk => .inr (hb k hk).2), h3, fun k hk => Nat.lt_of_lt_of_le (h4 k hk) hc.size⟩
theorem At.step {w0 wc w' : World} {oth own : List Nat} {p : Nat} {D : DK} (h2 : Chg [] w0 wc) (h3 : ∀ k ∈ own, w0.heap.size ≤ k ∧ k ∉ oth) (h4 : ∀ k ∈ oth, k < wc.heap.size) (hT : DkTo wc own p D w') : At w0 w' oth p D ∧ Kept oth wc w' := by
  obtain ⟨own', h1, hc, hn⟩ := hT
  refine ⟨⟨own', h1, h2.trans hc (fun k hk => .inr (h3 k hk).1), fun k hk => ?_, fun k hk => Nat.lt_of_lt_of_le (h4 k hk) hc.size⟩, own, hc, fun k hk => (h3 k hk).2⟩
  rcases hn k hk with h | h
  · exact h3 k h
  · exact ⟨Nat.le_trans h2.size h, fun hm => by have := h4 k hm; omega⟩

theorem At.new (w : World) (n : Nat) (h1 : 1 ≤ n) (h2 : n ≤ 4000) : Calls Try.prog 12 #[.int .i64 (n : Int)] w fun e w' => ∃ p, e = .returned (.pointer (some ⟨p, 0, none⟩)) ∧ At w w' [] p (DK.new n) := by
  refine (new_calls w n h1 h2).mono ?_
  rintro e w' ⟨v, rfl, p, own, rfl, h, hc, hn⟩
  exact ⟨p, rfl, own, h, hc, fun k hk => ⟨hn k hk, by simp⟩, by simp⟩
section
variable {w0 wc : World} {oth : List Nat} {p : Nat} {D : DK}
theorem At.write (h : At w0 wc oth p D) (hq : D.q.length ≤ 900000) (s : Int) (t : ByteArray) : Calls Try.prog 22 #[.pointer (some ⟨p, 0, none⟩), .int .i64 s, .string t] wc fun e w' =>
    e = .returned (.int .i64 (D.write s t.data.toList).1) ∧ At w0 w' oth p (D.write s t.data.toList).2 ∧ Kept oth wc w' := by
  obtain ⟨own, h1, h2, h3, h4⟩ := h
  exact (write_spec h1 hq s t).mono fun e w' ⟨he, hT⟩ => ⟨he, At.step h2 h3 h4 hT⟩
theorem At.sync (h : At w0 wc oth p D) (hq : D.q.length ≤ 900000) : Calls Try.prog 20 #[.pointer (some ⟨p, 0, none⟩)] wc fun e w' =>
    e = .returned (.int .i64 D.sync.1) ∧ At w0 w' oth p D.sync.2 ∧ Kept oth wc w' := by
  obtain ⟨own, h1, h2, h3, h4⟩ := h
  exact (sync_spec h1 (by omega)).mono fun e w' ⟨he, hT⟩ => ⟨he, At.step h2 h3 h4 hT⟩
theorem At.fail (h : At w0 wc oth p D) (hq : D.q.length ≤ 900000) (x y : Int) : Calls Try.prog 24 #[.pointer (some ⟨p, 0, none⟩), .int .i64 x, .int .i64 y] wc fun e w' =>
    e = .returned (.tuple #[]) ∧ At w0 w' oth p (D.fail x y) ∧ Kept oth wc w' := by
  obtain ⟨own, h1, h2, h3, h4⟩ := h
  exact (fail_spec h1 (by omega) x y).mono fun e w' ⟨he, hT⟩ => ⟨he, At.step h2 h3 h4 hT⟩
theorem At.start (h : At w0 wc oth p D) : Calls Try.prog 19 #[.pointer (some ⟨p, 0, none⟩)] wc fun e w' =>
    e = .returned (.tuple #[]) ∧ At w0 w' oth p D.start ∧ Kept oth wc w' := by
  obtain ⟨own, h1, h2, h3, h4⟩ := h
  exact (start_spec h1).mono fun e w' ⟨he, hT⟩ => ⟨he, At.step h2 h3 h4 hT⟩
theorem At.arm (h : At w0 wc oth p D) (a x y : Int) (ha : a ≤ 9223372036854775807) : Calls Try.prog 28 #[.pointer (some ⟨p, 0, none⟩), .int .i64 a, .int .i64 x, .int .i64 y] wc fun e w' =>
    e = .returned (.tuple #[]) ∧ At w0 w' oth p (D.setArm a x y) ∧ Kept oth wc w' := by
  obtain ⟨own, h1, h2, h3, h4⟩ := h
  exact (arm_spec h1 a x y ha).mono fun e w' ⟨he, hT⟩ => ⟨he, At.step h2 h3 h4 hT⟩
theorem At.rot (h : At w0 wc oth p D) (s a m : Int) : Calls Try.prog 29 #[.pointer (some ⟨p, 0, none⟩), .int .i64 s, .int .i64 a, .int .i64 m] wc fun e w' =>
    e = .returned (.tuple #[]) ∧ At w0 w' oth p (D.rot s a m) ∧ Kept oth wc w' := by
  obtain ⟨own, h1, h2, h3, h4⟩ := h
  exact (rot_spec h1 s a m).mono fun e w' ⟨he, hT⟩ => ⟨he, At.step h2 h3 h4 hT⟩
theorem At.stale (h : At w0 wc oth p D) (s : Int) : Calls Try.prog 30 #[.pointer (some ⟨p, 0, none⟩), .int .i64 s] wc fun e w' =>
    e = .returned (.tuple #[]) ∧ At w0 w' oth p (D.stale s) ∧ Kept oth wc w' := by
  obtain ⟨own, h1, h2, h3, h4⟩ := h
  exact (stale_spec h1 s).mono fun e w' ⟨he, hT⟩ => ⟨he, At.step h2 h3 h4 hT⟩
theorem At.act (h : At w0 wc oth p D) (hq : D.q.length ≤ 900000) (a : ActD) (ht : a.text.length ≤ 100) (ha : a.after ≤ 9223372036854775807) : Calls Try.prog 15 #[.pointer (some ⟨p, 0, none⟩), a.val] wc fun e w' =>
    e = .returned (.tuple #[.string ⟨(D.act a).1.toArray⟩, .int .i64 (D.act a).2.1]) ∧ At w0 w' oth p (D.act a).2.2 ∧ Kept oth wc w' := by
  obtain ⟨own, h1, h2, h3, h4⟩ := h
  exact (do_spec h1 hq a ht ha).mono fun e w' ⟨he, hT⟩ => ⟨he, At.step h2 h3 h4 hT⟩
theorem At.read (h : At w0 wc oth p D) (hq : D.q.length ≤ 900000) (s : Int) : Calls Try.prog 17 #[.pointer (some ⟨p, 0, none⟩), .int .i64 s] wc fun e w' =>
    e = .returned (.tuple #[.string ⟨(D.read s).1.toArray⟩, .int .i64 (D.read s).2]) ∧ At w0 w' oth p D ∧ Chg [] wc w' := by
  have h' := h
  obtain ⟨own, h1, h2, h3, h4⟩ := h
  exact (read_spec h1 (by omega) s).mono fun e w' ⟨he, hc⟩ => ⟨he, h'.quiet hc, hc⟩
/-- 'contents' of a disk that is on: the row is one more thing beside the disk. -/
theorem At.contents (h : At w0 wc oth p D) (hq : D.q.length ≤ 900000) (hoff : D.off = false) (n : Nat) (hn : D.n = n) : Calls Try.prog 21 #[.pointer (some ⟨p, 0, none⟩), .int .i64 (n : Int)] wc fun e w' =>
    ∃ v, e = .returned (.tuple #[v, .bool true]) ∧ StrRow w' v D.all ∧ At w0 w' (v.ownBlock.toList ++ oth) p D ∧ Chg [] wc w' ∧ ∀ k ∈ v.ownBlock.toList, wc.heap.size ≤ k := by
  have h' := h
  obtain ⟨own, h1, h2, h3, h4⟩ := h
  refine (contents_spec (Lib.hid h1) (by omega) hoff n (Lib.hid hn) (by rw [← hn]; exact h1.ok.n2)).mono ?_
  rintro e w' ⟨v, rfl, hr, hc, hv⟩
  exact ⟨v, rfl, hr, h'.more hc (fun k hk => ⟨hv k hk, row_lt hr k hk⟩), hc, hv⟩
end
end Go.Proofs.Ytnlgblcldbdnlaa
