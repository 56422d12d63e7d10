/-
 Rule, plain laws 3: texts that are cut at a token and go on otherwise.
-/
import Derived.Test.YtocadlcglgpdcaaDoorLxQ
namespace Go.Proofs.YtocadlcglgpdcaaDoor
set_option linter.unusedVariables false
set_option linter.unusedSimpArgs false
namespace Lx
theorem take_len {α : Type} {l : List α} {n i : Nat} (h : n ≤ i) : (l.take i) = l.take n ++ (l.drop n).take (i - n) := by
 conv => lhs; rw [show i = n + (i - n) by omega]
 rw [List.take_add]
theorem bnd_take {s z : Bytes} {n i : Nat} (h : n ≤ i) (hz : Bnd (s.drop i) z) : Bnd (s.drop n) ((s.drop n).take (i - n) ++ z) := by
 intro d q hd
 cases hk : i - n with
 | zero =>
  rw [hk] at hd
  have e : i = n := by omega
  rw [e] at hz
  exact hz d q hd
 | succ k =>
  rw [hk] at hd
  cases hs : s.drop n with
  | nil =>
   rw [hs] at hd
   simp at hd
   have h9 : s.drop i = [] := by
    have := congrArg List.length hs
    rw [List.length_drop] at this
    apply List.drop_of_length_le
    simp at this
    omega
   rw [h9] at hz
   rcases hz d q hd with h8 | ⟨q', h8⟩
   · exact .inl h8
   · cases h8
  | cons c r =>
   rw [hs] at hd
   simp only [List.take_succ_cons, List.cons_append, List.cons.injEq] at hd
   exact .inr ⟨r, by rw [hd.1]⟩
/-- At a token the text may go on otherwise: what stands before it stays. -/
theorem sc_swap : ∀ (o : Nat) (s : Bytes) (p : List (Tk × Nat)) (t : Tk) (e : Nat) (q : List (Tk × Nat)), sc o s = p ++ (t, e) :: q → good p = true →
 ∃ i, t.at_ = o + i ∧ i < s.length ∧ (∀ z, Bnd (s.drop i) z → sc o (s.take i ++ z) = p ++ sc (o + i) z) ∧ sc (o + i) (s.drop i) = (t, e) :: q := by
 refine sc_ind ?_ ?_ ?_ ?_ ?_
 · intro o p t e q h
   rw [sc_nil] at h
   simp at h
 · intro o c s h ih p t e q h1 h3
   rw [sc_blank h] at h1
   obtain ⟨i, a1, a2, a3, a4⟩ := ih p t e q h1 h3
   refine ⟨i + 1, by omega, by simp; omega, fun z hz => ?_, ?_⟩
   · rw [List.take_succ_cons, List.cons_append, sc_blank h, a3 z hz, show o + 1 + i = o + (i + 1) by omega]
   · rw [List.drop_succ_cons, show o + (i + 1) = o + 1 + i by omega]
     exact a4
 · intro o c s h ih p t e q h1 h3
   have hw := wl_le line (c :: s)
   have h1' := h1
   rw [sc_hash h] at h1
   obtain ⟨i, a1, a2, a3, a4⟩ := ih p t e q h1 h3
   have hp := line_pos' (r := s) h
   rw [List.length_drop] at a2
   refine ⟨wl line (c :: s) + i, by omega, by omega, fun z hz => ?_, ?_⟩
   · have hz' : Bnd (((c :: s).drop (wl line (c :: s))).drop i) z := by rw [List.drop_drop]; exact hz
     have hi0 : i ≠ 0 := by
      rintro rfl
      -- the byte behind the comment is a line feed, no token
      rw [List.drop_zero] at a4
      obtain ⟨k, hk, b1, b2, b3, b4, b5⟩ := sc_first _ _ _ _ a4
      have hk0 : k = 0 := by
       have : t.at_ = o + wl line (c :: s) + 0 + k := by
        have := congrArg (fun x => x.1.at_) b1
        exact this
       omega
      subst hk0
      cases hd : (c :: s).drop (wl line (c :: s)) with
      | nil =>
       rw [hd] at hk
       simp at hk
      | cons d r =>
       have h9 := wl_drop_stop line _ d r hd
       have h8 : d = 10 := by
        unfold line at h9
        simpa using h9
       have h7 : ((c :: s).drop (wl line (c :: s)))[0] = d := by simp [hd]
       rw [h7, h8] at b3
       exact b3 (by decide)
     have e1 : (c :: s).take (wl line (c :: s) + i) ++ z = (c :: s).take (wl line (c :: s)) ++ (((c :: s).drop (wl line (c :: s))).take i ++ z) := by
      rw [take_len (Nat.le_add_right _ i), Nat.add_sub_cancel_left, List.append_assoc]
     obtain ⟨d, r, hdr⟩ : ∃ d r, (c :: s).drop (wl line (c :: s)) = d :: r := by
      cases hd : (c :: s).drop (wl line (c :: s)) with
      | nil =>
       have := congrArg List.length hd
       rw [List.length_drop, List.length_nil] at this
       omega
      | cons d r => exact ⟨d, r, rfl⟩
     have hstop := wl_drop_stop line _ d r hdr
     obtain ⟨j, hj⟩ : ∃ j, i = j + 1 := ⟨i - 1, by omega⟩
     have e2 : ((c :: s).drop (wl line (c :: s))).take i ++ z = d :: (r.take j ++ z) := by
      rw [hdr, hj, List.take_succ_cons, List.cons_append]
     have hwl : wl line ((c :: s).take (wl line (c :: s)) ++ d :: (r.take j ++ z)) = wl line (c :: s) := by
      rw [wl_stop hstop, wl_taken, Nat.min_self]
     obtain ⟨m, hm⟩ : ∃ m, wl line (c :: s) = m + 1 := ⟨wl line (c :: s) - 1, by omega⟩
     have e3 : (c :: s).take (m + 1) = c :: s.take m := List.take_succ_cons
     rw [e1, e2]
     have hwl2 := hwl
     rw [hm, e3, List.cons_append] at hwl2 ⊢
     rw [sc_hash h, hwl2]
     have e4 : (c :: (s.take m ++ d :: (r.take j ++ z))).drop (m + 1) = d :: (r.take j ++ z) := by
      rw [List.drop_succ_cons]
      have hlen : (s.take m).length = m := by
       rw [List.length_take]
       have := hw
       rw [hm] at this
       simp at this
       omega
      have := List.drop_left (l₁ := s.take m) (l₂ := d :: (r.take j ++ z))
      rw [hlen] at this
      exact this
     rw [e4, ← e2, ← hm, a3 z hz', hm, show o + (m + 1) + i = o + (m + 1 + i) by omega]
   · rw [← List.drop_drop, ← Nat.add_assoc]
     exact a4
 · intro o c s h1 h2 h3 p t e q h4 h6
   rw [sc_err h1 h2 h3] at h4
   have hp : p = [] := by
    have := congrArg List.length h4
    simp at this
    exact List.eq_nil_of_length_eq_zero (by omega)
   subst hp
   have h4' := h4
   simp only [List.nil_append, List.cons.injEq, Prod.mk.injEq] at h4
   refine ⟨0, by rw [← h4.1.1]; rfl, by simp, fun z hz => by rw [List.take_zero, List.nil_append, List.nil_append, Nat.add_zero], ?_⟩
   rw [List.drop_zero, Nat.add_zero, sc_err h1 h2 h3, h4']
   rfl
 · intro o c s h1 h2 h3 ih p t e q h4 h6
   have hl := tok_pos h3
   have h4' := h4
   rw [sc_tok h1 h2 h3] at h4
   cases p with
   | nil =>
    simp only [List.nil_append, List.cons.injEq, Prod.mk.injEq] at h4
    refine ⟨0, by rw [← h4.1.1]; rfl, by simp, fun z hz => by rw [List.take_zero, List.nil_append, List.nil_append, Nat.add_zero], ?_⟩
    rw [List.drop_zero, Nat.add_zero, h4']
    rfl
   | cons x p =>
    rw [List.cons_append, List.cons.injEq] at h4
    obtain ⟨i, a1, a2, a3, a4⟩ := ih p t e q h4.2 (good_iff.2 fun y hy => (good_iff.1 h6) y (by simp [hy]))
    rw [List.length_drop] at a2
    refine ⟨(tok (c :: s)).2.1 + i, by omega, by omega, fun z hz => ?_, ?_⟩
    · have hz' : Bnd (((c :: s).drop (tok (c :: s)).2.1).drop i) z := by rw [List.drop_drop]; exact hz
      have hb := bnd_take (s := c :: s) (z := z) (Nat.le_add_right (tok (c :: s)).2.1 i) hz
      rw [Nat.add_sub_cancel_left] at hb
      have e1 : (c :: s).take ((tok (c :: s)).2.1 + i) ++ z = (c :: s).take (tok (c :: s)).2.1 ++ (((c :: s).drop (tok (c :: s)).2.1).take i ++ z) := by
       rw [take_len (Nat.le_add_right _ i), Nat.add_sub_cancel_left, List.append_assoc]
      have htok := tok_rest h3 hb
      have hmk := mk_rest o h3 hb
      obtain ⟨m, hm⟩ : ∃ m, (tok (c :: s)).2.1 = m + 1 := ⟨(tok (c :: s)).2.1 - 1, by omega⟩
      have e3 : (c :: s).take (m + 1) = c :: s.take m := List.take_succ_cons
      rw [e1]
      generalize hZ : ((c :: s).drop (tok (c :: s)).2.1).take i ++ z = Z at htok hmk ⊢
      rw [hm, e3, List.cons_append] at htok hmk ⊢
      rw [sc_tok h1 h2 (by rw [htok]; exact h3), htok, hmk, hm]
      have e4 : (c :: (s.take m ++ Z)).drop (m + 1) = Z := by
       rw [List.drop_succ_cons]
       have hlen : (s.take m).length = m := by
        rw [List.length_take]
        have := hl.2
        rw [hm] at this
        simp at this
        omega
       have := List.drop_left (l₁ := s.take m) (l₂ := Z)
       rw [hlen] at this
       exact this
      rw [e4, ← hZ, ← hm, a3 z hz', List.cons_append, h4.1, show o + (tok (c :: s)).2.1 + i = o + ((tok (c :: s)).2.1 + i) by omega]
    · rw [← List.drop_drop, ← Nat.add_assoc]
      exact a4
end Lx
end Go.Proofs.YtocadlcglgpdcaaDoor
