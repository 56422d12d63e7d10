/-
 Layer 20: plain laws: writing tokens, putting gaps into a text, joining texts.
-/
import Derived.Test.YtgbooiaedbpenaaDoorLxP
namespace Go.Proofs.YtgbooiaedbpenaaDoor
set_option linter.unusedVariables false
set_option linter.unusedSimpArgs false
namespace Lx
/-- What may follow in place of r. -/
def Bnd (r z : Bytes) : Prop := ∀ d q, z = d :: q → (word d = false ∧ d ≠ 61) ∨ ∃ q', r = d :: q'
theorem word_dig {d : UInt8} (h : word d = false) : dig d = false ∧ cls d ≠ 3 ∧ cls d ≠ 5 := by
 unfold word at h
 rw [decide_eq_false_iff_not] at h
 refine ⟨?_, by omega, by omega⟩
 unfold dig
 rw [decide_eq_false_iff_not]
 omega
theorem wl_bnd (p : UInt8 → Bool) : ∀ (t : Bytes) (d : UInt8) (q : Bytes), wl p (t ++ d :: q) = t.length → p d = false
 | [], d, q, h => by
  rw [List.nil_append, wl] at h
  split at h
  · simp at h
  · rename_i hd
    simpa using hd
 | c :: t, d, q, h => by
  rw [List.cons_append, wl] at h
  split at h
  · exact wl_bnd p t d q (by simpa using h)
  · simp at h
theorem tok_bnd {c : UInt8} {t r z : Bytes} {k : Nat} (h : tok (c :: t ++ r) = (k, t.length + 1, 0)) (hz : Bnd r z) : tok (c :: t ++ z) = (k, t.length + 1, 0) := by
 rw [List.cons_append] at h ⊢
 rw [tok_cons] at h ⊢
 by_cases e3 : cls c = 3
 · rw [if_pos e3] at h ⊢
   simp only [Prod.mk.injEq] at h
   have h1 := wl_all word (c :: t) r (by rw [List.cons_append]; exact h.2.1)
   have w1 : wl word (c :: (t ++ z)) = wl word (c :: t) := by
    rw [← List.cons_append]
    refine wl_sep (fun d q hd => ?_)
    rcases hz d q hd with h2 | ⟨q', h2⟩
    · exact h2.1
    · exact wl_bnd word (c :: t) d q' (by rw [← h2, List.cons_append]; exact h.2.1)
   rw [w1, h1]
   simp only [Prod.mk.injEq]
   refine ⟨h.1, rfl, ?_⟩
   rw [List.length_cons, ← h.2.1]
   exact h.2.2
 · rw [if_neg e3] at h ⊢
   by_cases e4 : cls c = 4
   · rw [if_pos e4] at h ⊢
     simp only [Prod.mk.injEq] at h
     have h1 := wl_all dig (c :: t) r (by rw [List.cons_append]; exact h.2.1)
     have w2 : wl dig (c :: (t ++ z)) = wl dig (c :: t) := by
      rw [← List.cons_append]
      refine wl_sep (fun d q hd => ?_)
      rcases hz d q hd with h2 | ⟨q', h2⟩
      · exact (word_dig h2.1).1
      · exact wl_bnd dig (c :: t) d q' (by rw [← h2, List.cons_append]; exact h.2.1)
     have h9 : ¬ (10 < t.length + 1 ∨ sticks r = true) := by
      intro h9
      have h8 := h.2.2
      rw [h.2.1, if_pos (by rw [List.drop_succ_cons, List.drop_left]; exact h9)] at h8
      cases h8
     have hd : (c :: (t ++ z)).drop (t.length + 1) = z := by rw [List.drop_succ_cons, List.drop_left]
     have hst : sticks z = false := by
      cases z with
      | nil => rfl
      | cons d q =>
       rcases hz d q rfl with h2 | ⟨q', h2⟩
       · show decide (cls d = 3 ∨ cls d = 5) = false
         rw [decide_eq_false_iff_not]
         have := word_dig h2.1
         omega
       · cases h7 : sticks (d :: q) with
         | false => rfl
         | true =>
          exfalso
          refine h9 (.inr ?_)
          rw [h2]
          exact h7
     rw [w2, h1, List.length_cons, hd, hst, if_neg (by simp; omega), h.1]
   · rw [if_neg e4] at h ⊢
     by_cases e6 : cls c = 6 ∨ cls c = 7 ∨ cls c = 8
     · rw [if_pos e6] at h ⊢
       cases t with
       | nil =>
        by_cases e61 : cls c ≠ 6 ∧ (([] : Bytes) ++ r).head? = some 61
        · rw [if_pos e61] at h
          simp at h
        · rw [if_neg e61] at h
          rw [if_neg]
          · exact h
          rintro ⟨h8, h9⟩
          cases z with
          | nil => cases h9
          | cons d q =>
           simp at h9
           rcases hz d q rfl with h2 | ⟨q', h2⟩
           · exact h2.2 h9
           · exact e61 ⟨h8, by rw [h2, h9]; rfl⟩
       | cons d q =>
        by_cases e61 : cls c ≠ 6 ∧ (d :: q ++ r).head? = some 61
        · rw [if_pos e61] at h
          rw [if_pos ⟨e61.1, by simpa using e61.2⟩]
          exact h
        · rw [if_neg e61] at h
          simp at h
     · rw [if_neg e6] at h
       simp at h
theorem sep_bnd {r z : Bytes} (h : Sep z) : Bnd r z := fun d q hd => .inl ⟨(sep_word (h d q hd)).1, (sep_word (h d q hd)).2.2⟩
/-- The first token of a text whose rest is another. -/
theorem tok_rest {c : UInt8} {s z : Bytes} (h : (tok (c :: s)).2.2 = 0) (hz : Bnd ((c :: s).drop (tok (c :: s)).2.1) z) : tok ((c :: s).take (tok (c :: s)).2.1 ++ z) = tok (c :: s) := by
 have hp := tok_pos h
 obtain ⟨n, hn⟩ : ∃ n, (tok (c :: s)).2.1 = n + 1 := ⟨(tok (c :: s)).2.1 - 1, by omega⟩
 have hlen : (s.take n).length = n := by rw [List.length_take]; have := hp.2; simp at this; omega
 have h1 : tok (c :: s.take n ++ s.drop n) = ((tok (c :: s)).1, (s.take n).length + 1, 0) := by
  rw [List.cons_append, List.take_append_drop, hlen, ← hn, ← h]
 rw [hn, List.drop_succ_cons] at hz
 have h2 := tok_bnd h1 hz
 rw [hn, List.take_succ_cons, h2, hlen, ← hn, ← h]
theorem mk_rest (o : Nat) {c : UInt8} {s z : Bytes} (h : (tok (c :: s)).2.2 = 0) (hz : Bnd ((c :: s).drop (tok (c :: s)).2.1) z) : mk o ((c :: s).take (tok (c :: s)).2.1 ++ z) = mk o (c :: s) := by
 have hl := (tok_pos h).2
 have h1 := tok_rest h hz
 unfold mk
 rw [h1, List.take_append_of_le_length (by rw [List.length_take]; omega), List.take_take, Nat.min_self]
/-- A text in whose place behind one of its tokens something else stands that begins with a gap. -/
theorem sc_insert (z : Bytes) (hz : Sep z) : ∀ (o : Nat) (s : Bytes) (p : List (Tk × Nat)) (x : Tk × Nat) (q : List (Tk × Nat)), sc o s = p ++ x :: q → good (p ++ [x]) = true →
 ∃ i, x.1.at_ + x.1.text.length = o + i ∧ i ≤ s.length ∧ 0 < i ∧ sc o (s.take i ++ z) = p ++ x :: sc (o + i) z ∧ sc (o + i) (s.drop i) = q := by
 refine sc_ind ?_ ?_ ?_ ?_ ?_
 · intro o p x q h
   rw [sc_nil] at h
   simp at h
 · intro o c s h ih p x q h1 h2
   rw [sc_blank h] at h1
   obtain ⟨i, a1, a2, a3, a4, a5⟩ := ih p x q h1 h2
   refine ⟨i + 1, by omega, by simp; omega, by omega, ?_, ?_⟩
   · rw [List.take_succ_cons, List.cons_append, sc_blank h, a4, show o + (i + 1) = o + 1 + i by omega]
   · rw [List.drop_succ_cons, show o + (i + 1) = o + 1 + i by omega]
     exact a5
 · intro o c s h ih p x q h1 h2
   have hw := wl_le line (c :: s)
   have hp := line_pos' (r := s) h
   rw [sc_hash h] at h1
   obtain ⟨i, a1, a2, a3, a4, a5⟩ := ih p x q h1 h2
   rw [List.length_drop] at a2
   obtain ⟨d, r, hd⟩ : ∃ d r, (c :: s).drop (wl line (c :: s)) = d :: r := by
    cases hh : (c :: s).drop (wl line (c :: s)) with
    | nil =>
     have := congrArg List.length hh
     rw [List.length_drop, List.length_nil] at this
     omega
    | cons d r => exact ⟨d, r, rfl⟩
   have hds := wl_drop_stop line _ _ _ hd
   obtain ⟨j, rfl⟩ : ∃ j, i = j + 1 := ⟨i - 1, by omega⟩
   have e1 : (c :: s).take (wl line (c :: s) + (j + 1)) = (c :: s).take (wl line (c :: s)) ++ d :: r.take j := by
    rw [List.take_add, hd, List.take_succ_cons]
   have e2 : wl line ((c :: s).take (wl line (c :: s) + (j + 1)) ++ z) = wl line (c :: s) := by
    rw [e1, List.append_assoc, List.cons_append, wl_stop hds, wl_taken, Nat.min_self]
   have e3 : ((c :: s).take (wl line (c :: s) + (j + 1)) ++ z).drop (wl line (c :: s)) = ((c :: s).drop (wl line (c :: s))).take (j + 1) ++ z := by
    rw [List.drop_append_of_le_length (by rw [List.length_take]; omega), List.drop_take, show wl line (c :: s) + (j + 1) - wl line (c :: s) = j + 1 by omega]
   refine ⟨wl line (c :: s) + (j + 1), by omega, by omega, by omega, ?_, ?_⟩
   · obtain ⟨m, hm⟩ : ∃ m, wl line (c :: s) + (j + 1) = m + 1 := ⟨_, rfl⟩
     have e4 : (c :: s).take (m + 1) ++ z = c :: (s.take m ++ z) := by rw [List.take_succ_cons, List.cons_append]
     rw [hm] at e2 e3 ⊢
     rw [e4] at e2 e3 ⊢
     rw [sc_hash h, e2, e3, a4, ← hm, show o + (wl line (c :: s) + (j + 1)) = o + wl line (c :: s) + (j + 1) by omega]
   · rw [← List.drop_drop, ← Nat.add_assoc]
     exact a5
 · intro o c s h1 h2 h3 p x q h4 h5
   rw [sc_err h1 h2 h3] at h4
   cases p with
   | nil =>
    simp only [List.nil_append, List.cons.injEq] at h4
    have := (good_iff.1 h5) x (by simp)
    rw [← h4.1] at this
    exact absurd this h3
   | cons y p =>
    rw [List.cons_append, List.cons.injEq] at h4
    simp at h4
 · intro o c s h1 h2 h3 ih p x q h4 h5
   have hl := tok_pos h3
   rw [sc_tok h1 h2 h3] at h4
   cases p with
   | nil =>
    simp only [List.nil_append, List.cons.injEq] at h4
    have ht := tok_rest (z := z) h3 (sep_bnd hz)
    have hm := mk_rest o (z := z) h3 (sep_bnd hz)
    refine ⟨(tok (c :: s)).2.1, ?_, hl.2, hl.1, ?_, h4.2⟩
    · rw [← h4.1]
      show o + ((c :: s).take (tok (c :: s)).2.1).length = _
      rw [List.length_take, Nat.min_eq_left hl.2]
    · obtain ⟨n, hn⟩ : ∃ n, (tok (c :: s)).2.1 = n + 1 := ⟨(tok (c :: s)).2.1 - 1, by omega⟩
      have e4 : (c :: s).take (n + 1) ++ z = c :: (s.take n ++ z) := by rw [List.take_succ_cons, List.cons_append]
      have e5 : ((c :: s).take (n + 1) ++ z).drop (n + 1) = z := by
       rw [List.drop_append_of_le_length (by rw [List.length_take]; omega), List.drop_take, Nat.sub_self, List.take_zero, List.nil_append]
      rw [hn] at ht hm ⊢
      rw [e4] at ht hm e5 ⊢
      rw [List.nil_append, sc_tok h1 h2 (by rw [ht]; exact h3), ht, hm, hn, e5, h4.1]
   | cons y p =>
    rw [List.cons_append, List.cons.injEq] at h4
    obtain ⟨i, a1, a2, a3, a4, a5⟩ := ih p x q h4.2 (good_iff.2 fun y' hy => (good_iff.1 h5) y' (by
     rcases List.mem_append.1 hy with h | h
     · simp [h]
     · simp at h
       simp [h]))
    rw [List.length_drop] at a2
    have hb : Bnd ((c :: s).drop (tok (c :: s)).2.1) (((c :: s).drop (tok (c :: s)).2.1).take i ++ z) := by
     intro d q' hd
     right
     cases hh : (c :: s).drop (tok (c :: s)).2.1 with
     | nil =>
      have := congrArg List.length hh
      rw [List.length_drop, List.length_nil] at this
      omega
     | cons e r =>
      rw [hh] at hd
      obtain ⟨j, rfl⟩ : ∃ j, i = j + 1 := ⟨i - 1, by omega⟩
      rw [List.take_succ_cons, List.cons_append, List.cons.injEq] at hd
      exact ⟨r, by rw [hd.1]⟩
    have ht := tok_rest h3 hb
    have hm := mk_rest o h3 hb
    refine ⟨(tok (c :: s)).2.1 + i, by omega, by omega, by omega, ?_, by rw [← List.drop_drop, ← Nat.add_assoc]; exact a5⟩
    have e1 : (c :: s).take ((tok (c :: s)).2.1 + i) ++ z = (c :: s).take (tok (c :: s)).2.1 ++ (((c :: s).drop (tok (c :: s)).2.1).take i ++ z) := by
     rw [List.take_add, List.append_assoc]
    obtain ⟨Z, hZ⟩ : ∃ Z, Z = ((c :: s).drop (tok (c :: s)).2.1).take i ++ z := ⟨_, rfl⟩
    rw [← hZ] at e1 ht hm a4
    obtain ⟨n, hn⟩ : ∃ n, (tok (c :: s)).2.1 = n + 1 := ⟨(tok (c :: s)).2.1 - 1, by omega⟩
    have e4 : (c :: s).take (n + 1) ++ Z = c :: (s.take n ++ Z) := by rw [List.take_succ_cons, List.cons_append]
    have e5 : ((c :: s).take (n + 1) ++ Z).drop (n + 1) = Z := by
     rw [List.drop_append_of_le_length (by rw [List.length_take]; omega), List.drop_take, Nat.sub_self, List.take_zero, List.nil_append]
    rw [hn] at e1 ht hm a4 h4 ⊢
    rw [e4] at e1 ht hm e5
    rw [e1, sc_tok h1 h2 (by rw [ht]; exact h3), ht, hm, hn, e5, a4, h4.1, show o + (n + 1 + i) = o + (n + 1) + i by omega]
    rfl
/-- A token without its offset. -/
def bare (t : Tk) : Nat × Bytes × Nat := (t.kind, t.text, t.n)
/-- The texts of tokens with one blank after each. -/
def wr (l : List Tk) : Bytes := l.flatMap fun t => t.text ++ [32]
theorem sc_wr : ∀ (l : List Tk) (o : Nat), (∀ t ∈ l, One t) → good (sc o (wr l)) = true ∧ (sc o (wr l)).map (fun x => bare x.1) = l.map bare
 | [], o, _ => ⟨rfl, rfl⟩
 | t :: r, o, h => by
  have h1 := sc_wr r (o + t.text.length + 1) (fun u hu => h u (by simp [hu]))
  have hs : Sep (32 :: wr r) := fun c q hc => by
   rw [List.cons.injEq] at hc
   rw [← hc.1]
   exact .inl (by decide)
  have e : wr (t :: r) = t.text ++ 32 :: wr r := by
   unfold wr
   rw [List.flatMap_cons, List.append_assoc]
   rfl
  rw [e, sc_one (h t (by simp)) hs, sc_blank (by decide)]
  refine ⟨by simpa [good] using h1.1, ?_⟩
  rw [List.map_cons, h1.2]
  rfl
theorem wr_len : ∀ (o : Nat) (s : Bytes), good (sc o s) = true → (wr ((sc o s).map Prod.fst)).length ≤ 2 * s.length := by
 refine sc_ind ?_ ?_ ?_ ?_ ?_
 · exact fun o _ => Nat.le_refl _
 · intro o c s h ih hg
   rw [sc_blank h] at hg ⊢
   have := ih hg
   simp only [List.length_cons]
   omega
 · intro o c s h ih hg
   rw [sc_hash h] at hg ⊢
   have := ih hg
   rw [List.length_drop] at this
   omega
 · intro o c s h1 h2 h3 hg
   rw [sc_err h1 h2 h3] at hg
   simp [good] at hg
   exact absurd hg h3
 · intro o c s h1 h2 h3 ih hg
   have hp := tok_pos h3
   rw [sc_tok h1 h2 h3] at hg ⊢
   have := ih (by simpa [good] using hg)
   rw [List.length_drop] at this
   have e : (wr (((mk o (c :: s), 0) :: sc (o + (tok (c :: s)).2.1) ((c :: s).drop (tok (c :: s)).2.1)).map Prod.fst)).length = (tok (c :: s)).2.1 + 1 + (wr ((sc (o + (tok (c :: s)).2.1) ((c :: s).drop (tok (c :: s)).2.1)).map Prod.fst)).length := by
    unfold wr
    rw [List.map_cons, List.flatMap_cons, List.length_append, List.length_append]
    show ((c :: s).take (tok (c :: s)).2.1).length + 1 + _ = _
    rw [List.length_take, Nat.min_eq_left hp.2]
   rw [e]
   omega
/-- Offsets are within the text. -/
theorem sc_at : ∀ (o : Nat) (s : Bytes), ∀ x ∈ sc o s, x.1.at_ < o + s.length := by
 refine sc_ind ?_ ?_ ?_ ?_ ?_
 · intro o x hx
   simp [sc_nil] at hx
 · intro o c s h ih x hx
   rw [sc_blank h] at hx
   have := ih x hx
   simp only [List.length_cons]
   omega
 · intro o c s h ih x hx
   have hw := wl_le line (c :: s)
   rw [sc_hash h] at hx
   have := ih x hx
   rw [List.length_drop] at this
   omega
 · intro o c s h1 h2 h3 x hx
   rw [sc_err h1 h2 h3] at hx
   simp at hx
   rw [hx]
   show o < _
   simp
 · intro o c s h1 h2 h3 ih x hx
   have hp := tok_pos h3
   rw [sc_tok h1 h2 h3] at hx
   rcases List.mem_cons.1 hx with rfl | hx
   · show o < _
     simp
   · have := ih x hx
     rw [List.length_drop] at this
     omega
end Lx
end Go.Proofs.YtgbooiaedbpenaaDoor
