/-
  Journal, plain laws: a disk with any contents; how long what is found is.
-/
import Derived.Test.YtpmkgedlnanjiaaGreatDoorJnG
namespace Go.Proofs.YtpmkgedlnanjiaaGreatDoor
set_option linter.unusedVariables false
set_option linter.unusedSimpArgs false
open Go
namespace Jn
theorem cutC_less : ∀ (s a r : Bytes), cutC s = some (a, r) → r.length < s.length
  | [], a, r, h => by cases h
  | c :: s, a, r, h => by
    unfold cutC at h
    by_cases hc : c = 58
    · rw [if_pos hc] at h
      cases h
      simp
    · rw [if_neg hc] at h
      obtain ⟨⟨a2, r2⟩, h2, h3⟩ := Option.map_eq_some_iff.1 h
      cases h3
      have := cutC_less s a2 r2 h2
      simp only [List.length_cons]
      omega
theorem parse_count : ∀ (k : Nat) (s : Bytes) (l : List Bytes), parse k s = some l → l.length ≤ s.length
  | 0, s, l, h => by
    unfold parse at h
    by_cases hs : s = []
    · rw [if_pos hs] at h; cases h; exact Nat.zero_le _
    · rw [if_neg hs] at h; cases h
  | k + 1, s, l, h => by
    unfold parse at h
    by_cases hs : s = []
    · rw [if_pos hs] at h; cases h; exact Nat.zero_le _
    · rw [if_neg hs] at h
      cases hc : cutC s with
      | none => rw [hc] at h; cases h
      | some x =>
        obtain ⟨a, r⟩ := x
        rw [hc] at h
        simp only at h
        cases hl : lenOf a with
        | none => rw [hl] at h; cases h
        | some n =>
          rw [hl] at h
          simp only at h
          by_cases hr : r.length < n
          · rw [if_pos hr] at h; cases h
          · rw [if_neg hr] at h
            obtain ⟨m, hm, rfl⟩ := Option.map_eq_some_iff.1 h
            have h1 := parse_count k _ m hm
            have h2 := cutC_less s a r hc
            rw [List.length_drop] at h1
            rw [List.length_cons]
            omega
theorem found_len {sm : Bytes → Bytes} (hs : ∀ s, (sm s).length = 16) {D : DK} : ∀ {c : Nat} {t : Bytes}, found sm D c = some t → t.length ≤ 46 * c
  | 0, t, h => by cases h; exact Nat.le_refl _
  | c + 1, t, h => by
    unfold found at h
    cases hf : found sm D c with
    | none => rw [hf] at h; cases h
    | some t2 =>
      rw [hf] at h
      simp only at h
      obtain ⟨x, hx, rfl⟩ := Option.map_eq_some_iff.1 h
      have h1 := found_len hs hf
      have h2 := (piece_some hs hx).2.2
      rw [List.length_append]
      omega
theorem At.few {sm : Bytes → Bytes} (hs : ∀ s, (sm s).length = 16) {D : DK} {c : Nat} {l : List Bytes} (h : At sm D c l) : l.length ≤ 46 * D.n := by
  obtain ⟨t, h1, h2⟩ := h.fd
  have h3 := found_len hs h1
  have h4 := parse_count _ _ _ h2
  have := h.cn
  omega
theorem On.push {D : DK} (h : On D) {p : Nat} {s : Bytes} (hp : p < D.n) (hs : s.length = 64) : D.write (p : Int) s = (0, D.push (p : Int) s) ∧ On (D.push (p : Int) s) ∧ (D.push (p : Int) s).n = D.n ∧ (D.push (p : Int) s).q.length = D.q.length + 1 := by
  obtain ⟨h1, h2, _⟩ := h.write hp hs
  exact ⟨h1, h2, rfl, by show (D.q ++ [_]).length = _; rw [List.length_append]; rfl⟩
theorem text_x : text [[120]] = [49, 58, 120] := by
  rw [text_cons]
  show Lib.itoa ((1 : Nat) : Int) ++ 58 :: ([120] ++ []) = _
  rw [itoa_dec, Lib.decDigits_one (by decide)]
  rfl
/-- What Append of one short record answers. -/
theorem append_x {sm : Bytes → Bytes} (hs : ∀ s, (sm s).length = 16) {D : DK} (h : On D) {c : Nat} {l : List Bytes} (ha : At sm D c l) (hn : Neat sm D c) :
    (room ⟨D.n, c, l, false⟩ = 0 ∧ append sm ⟨D.n, c, l, false⟩ D [[120]] = ((23, ⟨D.n, c, l, false⟩), D)) ∨
    (0 < room ⟨D.n, c, l, false⟩ ∧ ∃ E, append sm ⟨D.n, c, l, false⟩ D [[120]] = ((0, ⟨D.n, c + 1, l ++ [[120]], false⟩), E) ∧ E.n = D.n ∧ (E.q = D.q ∨ E.q = []) ∧ openJ sm E = ((0, some ⟨D.n, c + 1, l ++ [[120]], false⟩), E)) := by
  have hp : pieces (text [[120]]) = [[49, 58, 120]] := by rw [text_x]; rfl
  by_cases h0 : room ⟨D.n, c, l, false⟩ = 0
  · refine .inl ⟨h0, ?_⟩
    unfold append
    rw [if_neg (show ¬ false = true by decide), if_neg (by simp), if_pos]
    rw [h0, hp]
    decide
  · refine .inr ⟨by omega, ?_⟩
    have h1 : 0 < D.n - 2 - c := by have : room ⟨D.n, c, l, false⟩ = D.n - 2 - c := rfl; omega
    obtain ⟨E, e1, e2, e3, e4, e5, e6⟩ := append_on hs h ha hn [[120]] (by simp) (by rw [hp]; show 1 ≤ _; omega)
    rw [hp] at e1 e5 e6
    have e7 := open_neat e2 e5 e6
    rw [e3] at e7
    exact ⟨E, e1, e3, by rcases e4 with rfl | e4; exact .inl rfl; exact .inr e4, e7⟩
end Jn
end Go.Proofs.YtpmkgedlnanjiaaGreatDoor
