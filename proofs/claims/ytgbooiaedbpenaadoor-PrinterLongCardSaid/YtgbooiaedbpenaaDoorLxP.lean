/-
 Layer 19: plain laws on tokens in their text.
-/
import Derived.Test.YtgbooiaedbpenaaDoorLxL
namespace Go.Proofs.YtgbooiaedbpenaaDoor
set_option linter.unusedVariables false
set_option linter.unusedSimpArgs false
namespace Lx
/-- The first of what is found: gaps before it, and what is found behind it. -/
theorem sc_first : ∀ (o : Nat) (s : Bytes) (x : Tk × Nat) (l : List (Tk × Nat)), sc o s = x :: l →
 ∃ i, ∃ h : i < s.length, x = (mk (o + i) (s.drop i), (tok (s.drop i)).2.2) ∧ sc 0 (s.take i) = [] ∧ cls s[i] ≠ 1 ∧ cls s[i] ≠ 2 ∧
  (x.2 = 0 → sc (o + i + (tok (s.drop i)).2.1) (s.drop (i + (tok (s.drop i)).2.1)) = l) := by
 refine sc_ind ?_ ?_ ?_ ?_ ?_
 · intro o x l h
   rw [sc_nil] at h
   cases h
 · intro o c s h ih x l h1
   rw [sc_blank h] at h1
   obtain ⟨i, hi, a1, a2, a3, a4, a5⟩ := ih x l h1
   refine ⟨i + 1, by simp; omega, by rw [a1, List.drop_succ_cons, show o + 1 + i = o + (i + 1) by omega], ?_, a3, a4, fun h0 => ?_⟩
   · rw [List.take_succ_cons, sc_blank h, show (0 : Nat) + 1 = 0 + 1 from rfl, sc_shift 1 0, a2]
     rfl
   · have := a5 h0
     rw [show o + 1 + i = o + (i + 1) by omega] at this
     rw [List.drop_succ_cons, show i + 1 + (tok (s.drop i)).2.1 = (i + (tok (s.drop i)).2.1) + 1 by omega, List.drop_succ_cons]
     exact this
 · intro o c s h ih x l h1
   have hp := line_pos' (r := s) h
   have hw := wl_le line (c :: s)
   rw [sc_hash h] at h1
   obtain ⟨i, hi, a1, a2, a3, a4, a5⟩ := ih x l h1
   have hi' := hi
   rw [List.length_drop] at hi'
   have hlen : wl line (c :: s) + i < (c :: s).length := by omega
   have hget : ((c :: s).drop (wl line (c :: s)))[i] = (c :: s)[wl line (c :: s) + i] := List.getElem_drop
   rw [hget] at a3 a4
   refine ⟨wl line (c :: s) + i, hlen, by rw [a1, List.drop_drop, Nat.add_assoc], ?_, a3, a4, fun h0 => ?_⟩
   · have h5 := wl_taken line (c :: s) (wl line (c :: s) + i)
     rw [Nat.min_eq_left (by omega)] at h5
     obtain ⟨j, hj⟩ : ∃ j, wl line (c :: s) + i = j + 1 := ⟨wl line (c :: s) + i - 1, by omega⟩
     have h6 : (c :: s).take (j + 1) = c :: s.take j := List.take_succ_cons
     rw [hj, h6] at h5
     rw [hj, h6, sc_hash h, h5, ← h6, ← hj, List.drop_take, show wl line (c :: s) + i - wl line (c :: s) = i by omega, Nat.zero_add]
     have := sc_shift (wl line (c :: s)) 0 (((c :: s).drop (wl line (c :: s))).take i)
     rw [Nat.zero_add] at this
     rw [this, a2]
     rfl
   · have := a5 h0
     rw [List.drop_drop, List.drop_drop] at this
     rw [show o + wl line (c :: s) + i = o + (wl line (c :: s) + i) by omega, ← Nat.add_assoc (wl line (c :: s))] at this
     exact this
 · intro o c s h1 h2 h3 x l h4
   rw [sc_err h1 h2 h3, List.cons.injEq] at h4
   refine ⟨0, by simp, by rw [← h4.1]; rfl, rfl, h1, h2, fun h0 => ?_⟩
   rw [← h4.1] at h0
   exact absurd h0 h3
 · intro o c s h1 h2 h3 _ x l h4
   rw [sc_tok h1 h2 h3, List.cons.injEq] at h4
   refine ⟨0, by simp, by rw [← h4.1, List.drop_zero, h3]; rfl, rfl, h1, h2, fun h0 => ?_⟩
   rw [List.drop_zero, Nat.zero_add]
   exact h4.2
/-- What a gap begins with. -/
def Sep (z : Bytes) : Prop := ∀ c r, z = c :: r → cls c = 1 ∨ cls c = 2
theorem sep_word {c : UInt8} (h : cls c = 1 ∨ cls c = 2) : word c = false ∧ dig c = false ∧ c ≠ 61 := by
 refine ⟨?_, ?_, ?_⟩
 · unfold word; rw [decide_eq_false_iff_not]; omega
 · unfold dig; rw [decide_eq_false_iff_not]; omega
 · rintro rfl
   revert h
   decide
theorem wl_sep {p : UInt8 → Bool} {t z : Bytes} (hz : ∀ c r, z = c :: r → p c = false) : wl p (t ++ z) = wl p t := by
 cases z with
 | nil => rw [List.append_nil]
 | cons d r => exact wl_stop (hz d r rfl) r t
theorem wl_all (p : UInt8 → Bool) : ∀ (t : Bytes) (r : Bytes), wl p (t ++ r) = t.length → wl p t = t.length
 | [], _, _ => rfl
 | c :: t, r, h => by
  rw [List.cons_append, wl] at h
  rw [wl]
  split at h
  · rename_i hc
    rw [if_pos hc, wl_all p t r (by simpa using h)]
    rfl
  · simp at h
/-- A token that a gap follows, in place of what followed it. -/
theorem tok_sep {c : UInt8} {t r z : Bytes} {k : Nat} (h : tok (c :: t ++ r) = (k, t.length + 1, 0)) (hz : Sep z) : tok (c :: t ++ z) = (k, t.length + 1, 0) := by
 have w1 := wl_sep (t := c :: t) (z := z) (p := word) (fun d q hd => (sep_word (hz d q hd)).1)
 have w2 := wl_sep (t := c :: t) (z := z) (p := dig) (fun d q hd => (sep_word (hz d q hd)).2.1)
 rw [List.cons_append] at h w1 w2 ⊢
 rw [tok_cons] at h ⊢
 by_cases e3 : cls c = 3
 · rw [if_pos e3] at h ⊢
   simp only [Prod.mk.injEq] at h
   have h1 := wl_all word (c :: t) r (by rw [List.cons_append]; exact h.2.1)
   rw [w1, h1]
   simp only [Prod.mk.injEq]
   refine ⟨h.1, rfl, ?_⟩
   rw [List.length_cons, ← h.2.1]
   exact h.2.2
 · rw [if_neg e3] at h ⊢
   by_cases e4 : cls c = 4
   · rw [if_pos e4] at h ⊢
     simp only [Prod.mk.injEq] at h
     have h1 := wl_all dig (c :: t) r (by rw [List.cons_append]; exact h.2.1)
     have h10 : ¬ 10 < t.length + 1 := by
      intro h9
      have := h.2.2
      rw [h.2.1, if_pos (Or.inl h9)] at this
      cases this
     have hd : (c :: (t ++ z)).drop (t.length + 1) = z := by rw [List.drop_succ_cons, List.drop_left]
     have hst : sticks z = false := by
      cases z with
      | nil => rfl
      | cons d q =>
       have := hz d q rfl
       show decide (cls d = 3 ∨ cls d = 5) = false
       rw [decide_eq_false_iff_not]
       omega
     rw [w2, h1, List.length_cons, hd, hst, if_neg (by simp; omega), h.1]
   · rw [if_neg e4] at h ⊢
     by_cases e6 : cls c = 6 ∨ cls c = 7 ∨ cls c = 8
     · rw [if_pos e6] at h ⊢
       cases t with
       | nil =>
        have hzh : ¬ (cls c ≠ 6 ∧ (([] : Bytes) ++ z).head? = some 61) := by
         rintro ⟨_, h9⟩
         cases z with
         | nil => cases h9
         | cons d q =>
          have h8 := (sep_word (hz d q rfl)).2.2
          simp at h9
          exact h8 h9
        rw [if_neg hzh]
        by_cases e61 : cls c ≠ 6 ∧ (([] : Bytes) ++ r).head? = some 61
        · rw [if_pos e61] at h
          simp at h
        · rw [if_neg e61] at h
          exact h
       | cons d q =>
        by_cases e61 : cls c ≠ 6 ∧ (d :: q ++ r).head? = some 61
        · rw [if_pos e61] at h
          rw [if_pos ⟨e61.1, by simpa using e61.2⟩]
          exact h
        · rw [if_neg e61] at h
          simp at h
     · rw [if_neg e6] at h
       simp at h
/-- A token by itself, whatever gap comes behind it. -/
structure One (t : Tk) : Prop where
 some : t.text ≠ []
 head : ∀ c r, t.text = c :: r → cls c ≠ 1 ∧ cls c ≠ 2
 tok : ∀ z, Sep z → tok (t.text ++ z) = (t.kind, t.text.length, 0)
 val : t.n = if t.kind = 2 then num t.text else 0
theorem one_of {o : Nat} {s : Bytes} (hs : s ≠ []) (h0 : (Lx.tok s).2.2 = 0) (hh : ∀ c r, s = c :: r → cls c ≠ 1 ∧ cls c ≠ 2) : One (mk o s) := by
 cases s with
 | nil => exact absurd rfl hs
 | cons c r =>
  have hp := tok_pos h0
  obtain ⟨n, hn⟩ : ∃ n, (Lx.tok (c :: r)).2.1 = n + 1 := ⟨(Lx.tok (c :: r)).2.1 - 1, by omega⟩
  have hlen : n ≤ r.length := by have := hp.2; simp at this; omega
  have ht : (mk o (c :: r)).text = c :: r.take n := by
   show (c :: r).take (Lx.tok (c :: r)).2.1 = _
   rw [hn, List.take_succ_cons]
  have hl : (r.take n).length = n := by rw [List.length_take]; omega
  refine ⟨by rw [ht]; simp, fun d q hd => ?_, fun z hz => ?_, ?_⟩
  · rw [ht, List.cons.injEq] at hd
    rw [← hd.1]
    exact hh c r rfl
  · rw [ht]
    have h1 : Lx.tok (c :: r.take n ++ r.drop n) = ((Lx.tok (c :: r)).1, (r.take n).length + 1, 0) := by
     rw [List.cons_append, List.take_append_drop, hl, ← hn, ← h0]
    have := tok_sep h1 hz
    rw [this]
    rfl
  · show (if (Lx.tok (c :: r)).1 = 2 ∧ (Lx.tok (c :: r)).2.2 = 0 then num _ else 0) = _
    rw [h0]
    show _ = (if (Lx.tok (c :: r)).1 = 2 then num ((c :: r).take (Lx.tok (c :: r)).2.1) else 0)
    by_cases h2 : (Lx.tok (c :: r)).1 = 2
    · rw [if_pos ⟨h2, rfl⟩, if_pos h2]
    · rw [if_neg (fun h => h2 h.1), if_neg h2]
/-- A token and a gap behind it. -/
theorem sc_one {t : Tk} (h : One t) {z : Bytes} (hz : Sep z) (o : Nat) : sc o (t.text ++ z) = ({ t with at_ := o }, 0) :: sc (o + t.text.length) z := by
 have ht := h.tok z hz
 have hv := h.val
 cases hh : t.text with
 | nil => exact absurd hh h.some
 | cons c r =>
  have hc := h.head c r hh
  rw [hh] at ht hv
  rw [List.cons_append] at ht ⊢
  rw [sc_tok hc.1 hc.2 (by rw [ht]), ht]
  have h1 : (c :: (r ++ z)).take (r.length + 1) = c :: r := by rw [List.take_succ_cons, List.take_left]
  have h2 : (c :: (r ++ z)).drop (r.length + 1) = z := by rw [List.drop_succ_cons, List.drop_left]
  have h3 : mk o (c :: (r ++ z)) = { t with at_ := o } := by
   unfold mk
   rw [ht]
   simp only [List.length_cons, h1, true_and, and_true]
   rw [← hv, ← hh]
  rw [h3]
  simp only [List.length_cons, h2]
  rw [hh]
theorem sc_ones : ∀ (l : List (Tk × Nat)) (o : Nat) (s : Bytes), sc o s = l → ∀ x ∈ l, x.2 = 0 → One x.1
 | [], _, _, _, x, hx, _ => by simp at hx
 | y :: l, o, s, h, x, hx, h0 => by
  obtain ⟨i, hi, a1, a2, a3, a4, a5⟩ := sc_first o s y l h
  have hd := List.drop_eq_getElem_cons hi
  rcases List.mem_cons.1 hx with rfl | hx
  · rw [a1] at h0 ⊢
    refine one_of (fun h9 => ?_) h0 (fun c r hc => ?_)
    · have := congrArg List.length h9
      rw [List.length_drop, List.length_nil] at this
      omega
    · have h9 := hd.symm.trans hc
      rw [List.cons.injEq] at h9
      rw [← h9.1]
      exact ⟨a3, a4⟩
  · by_cases hy : y.2 = 0
    · exact sc_ones l _ _ (a5 hy) x hx h0
    · exfalso
      have h9 : (Lx.tok (s.drop i)).2.2 ≠ 0 := by rw [a1] at hy; exact hy
      have hlast := sc_last o s
      rw [h] at hlast
      rcases hlast with h8 | ⟨p, t, e, h7, h6, h5⟩
      · exact hy ((good_iff.1 h8) y (by simp))
      · cases p with
        | nil =>
         simp only [List.nil_append, List.cons.injEq] at h7
         rw [h7.2] at hx
         simp at hx
        | cons z p =>
         rw [List.cons_append, List.cons.injEq] at h7
         rw [h7.1] at hy
         exact hy ((good_iff.1 h5) z (by simp))
end Lx
end Go.Proofs.YtgbooiaedbpenaaDoor
