/-
  The disk and the reference disk beside each other.
-/
import Derived.Test.YtnlgblcldbdnlaaRfG
import Derived.Test.YtnlgblcldbdnlaaLwG
namespace Go.Proofs.Ytnlgblcldbdnlaa
set_option linter.unusedVariables false
set_option linter.unusedSimpArgs false
open Go Go.RowKit

def AtX (w0 wc : World) (p : Nat) (D : DK) (q : Nat) (E : DK) : Prop :=
  ∃ own own2, DkAt wc own p D ∧ RfAt wc own2 q E ∧ Chg [] w0 wc ∧ (∀ k ∈ own, w0.heap.size ≤ k ∧ k ∉ own2) ∧ ∀ k ∈ own2, w0.heap.size ≤ k
theorem AtX.chg {w0 wc : World} {p q : Nat} {D E : DK} (h : AtX w0 wc p D q E) : Chg [] w0 wc := by
  obtain ⟨_, _, _, _, h, _⟩ := h
  exact h
theorem AtX.quiet {w0 wc w' : World} {p q : Nat} {D E : DK} (h : AtX w0 wc p D q E) (hc : Chg [] wc w') : AtX w0 w' p D q E := by
  obtain ⟨own, own2, h1, h2, h3, h4, h5⟩ := h
  exact ⟨own, own2, h1.kept hc (by simp), h2.kept hc (by simp), h3.trans hc (by simp), h4, h5⟩
theorem AtX.fst {w0 wc w' : World} {p q : Nat} {D D' E : DK} (h : AtX w0 wc p D q E) (hf : ∀ own, DkAt wc own p D → DkTo wc own p D' w') : AtX w0 w' p D' q E := by
  obtain ⟨own, own2, h1, h2, h3, h4, h5⟩ := h
  obtain ⟨own', g1, g2, g3⟩ := hf own h1
  refine ⟨own', own2, g1, h2.kept g2 (fun k hk hm => (h4 k hm).2 hk), h3.trans g2 (fun k hk => .inr (h4 k hk).1), fun k hk => ?_, h5⟩
  rcases g3 k hk with h | h
  · exact h4 k h
  · exact ⟨Nat.le_trans h3.size h, fun hm => by have := h2.lt k hm; omega⟩
theorem AtX.act {w0 wc : World} {p q : Nat} {D E : DK} (h : AtX w0 wc p D q E) (hq : D.q.length ≤ 900000) (a : ActD) (ht : a.text.length ≤ 100) (ha : a.after ≤ 9223372036854775807) :
    Calls Try.prog 15 #[.pointer (some ⟨p, 0, none⟩), a.val] wc fun e w' => e = .returned (.tuple #[.string ⟨(D.act a).1.toArray⟩, .int .i64 (D.act a).2.1]) ∧ AtX w0 w' p (D.act a).2.2 q E := by
  obtain ⟨own, own2, h1, h2, h3, h4, h5⟩ := h
  refine (do_spec h1 hq a ht ha).mono ?_
  rintro e w' ⟨he, own', g1, g2, g3⟩
  refine ⟨he, own', own2, g1, h2.kept g2 (fun k hk hm => (h4 k hm).2 hk), h3.trans g2 (fun k hk => .inr (h4 k hk).1), fun k hk => ?_, h5⟩
  rcases g3 k hk with h | h
  · exact h4 k h
  · exact ⟨Nat.le_trans h3.size h, fun hm => by have := h2.lt k hm; omega⟩
theorem AtX.want {w0 wc : World} {p q : Nat} {D E : DK} (h : AtX w0 wc p D q E) (hq : E.q.length ≤ 900000) (a : ActD) (ht : a.text.length ≤ 100) (ha : a.after ≤ 9223372036854775807) :
    Calls Try.prog 16 #[.pointer (some ⟨q, 0, none⟩), a.val] wc fun e w' => e = .returned (.tuple #[.string ⟨(E.act a).1.toArray⟩, .int .i64 (E.act a).2.1]) ∧ AtX w0 w' p D q (E.act a).2.2 := by
  obtain ⟨own, own2, h1, h2, h3, h4, h5⟩ := h
  refine (want_spec h2 hq a ht ha).mono ?_
  rintro e w' ⟨he, own', g1, g2, g3⟩
  refine ⟨he, own, own', h1.kept g2 (fun k hk hm => (h4 k hk).2 hm), g1, h3.trans g2 (fun k hk => .inr (h5 k hk)), fun k hk => ⟨(h4 k hk).1, fun hm => ?_⟩, fun k hk => ?_⟩
  · rcases g3 k hm with h | h
    · exact (h4 k hk).2 h
    · have := h1.lt k hk; omega
  · rcases g3 k hk with h | h
    · exact h5 k h
    · exact Nat.le_trans h3.size h
theorem AtX.read {w0 wc : World} {p q : Nat} {D E : DK} (h : AtX w0 wc p D q E) (hq : D.q.length ≤ 900000) (s : Int) : Calls Try.prog 17 #[.pointer (some ⟨p, 0, none⟩), .int .i64 s] wc fun e w' =>
    e = .returned (.tuple #[.string ⟨(D.read s).1.toArray⟩, .int .i64 (D.read s).2]) ∧ AtX w0 w' p D q E := by
  have h' := h
  obtain ⟨own, own2, h1, h2, h3, h4, h5⟩ := h
  exact (read_spec h1 (by omega) s).mono fun e w' ⟨he, hc⟩ => ⟨he, h'.quiet hc⟩
theorem AtX.rread {w0 wc : World} {p q : Nat} {D E : DK} (h : AtX w0 wc p D q E) (hq : E.q.length ≤ 900000) (s : Int) : Calls Try.prog 18 #[.pointer (some ⟨q, 0, none⟩), .int .i64 s] wc fun e w' =>
    e = .returned (.tuple #[.string ⟨(E.read s).1.toArray⟩, .int .i64 (E.read s).2]) ∧ AtX w0 w' p D q E := by
  have h' := h
  obtain ⟨own, own2, h1, h2, h3, h4, h5⟩ := h
  exact (rread_spec h2 (by omega) s).mono fun e w' ⟨he, hc⟩ => ⟨he, h'.quiet hc⟩
theorem At.rnew {w w0 : World} {p : Nat} {D : DK} (h : At w w0 [] p D) (n : Nat) (h1 : 1 ≤ n) (h2 : n ≤ 4000) : Calls Try.prog 14 #[.int .i64 (n : Int)] w0 fun e w' => ∃ q, e = .returned (.pointer (some ⟨q, 0, none⟩)) ∧ AtX w w' p D q (DK.new n) := by
  obtain ⟨own, g1, g2, g3, g4⟩ := h
  refine (rnew_calls w0 n h1 h2).mono ?_
  rintro e w' ⟨q, own2, rfl, k1, k2, k3⟩
  exact ⟨q, rfl, own, own2, g1.kept k2 (by simp), k1, g2.trans k2 (by simp), fun k hk => ⟨(g3 k hk).1, fun hm => by have := g1.lt k hk; have := k3 k hm; omega⟩, fun k hk => Nat.le_trans g2.size (k3 k hk)⟩
/-- 'New' on any number. -/
theorem new_any (w : World) (s : Int) : Calls Try.prog 12 #[.int .i64 s] w fun e w' => ∃ v, e = .returned (.pointer v) ∧ (v = none ↔ (s < 1 ∨ 4000 < s)) ∧ Chg [] w w' := by
  by_cases hs : s < 1 ∨ 4000 < s
  · refine (new_bad w s hs).mono ?_
    rintro e w' ⟨rfl, rfl⟩
    exact ⟨none, rfl, ⟨fun _ => hs, fun _ => rfl⟩, Chg.refl _ _⟩
  · obtain ⟨n, rfl⟩ := Int.eq_ofNat_of_zero_le (show 0 ≤ s by omega)
    refine (new_calls w n (by omega) (by omega)).mono ?_
    rintro e w' ⟨v, rfl, p, own, rfl, h1, h2, h3⟩
    exact ⟨_, rfl, ⟨fun h => by simp at h, fun h => absurd h hs⟩, h2⟩
end Go.Proofs.Ytnlgblcldbdnlaa
