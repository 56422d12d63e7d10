/-
  Rule, plain laws 5: texts that are joined; a rule that is left out.
-/
import Derived.Test.YtmfjebpefneboaaDoorRlO
namespace Go.Proofs.YtmfjebpefneboaaDoor
set_option linter.unusedVariables false
set_option linter.unusedSimpArgs false
namespace Rl
open Lx (Tk)
theorem shift_ren (d : Nat) (l : List (Tk × Nat)) : (l.map (Lx.shift d)).map Prod.fst = (l.map Prod.fst).map (renT (· + d)) := by
  rw [List.map_map, List.map_map]
  rfl
theorem sc_ren (o : Nat) (s : Bytes) : (Lx.sc o s).map Prod.fst = ((Lx.sc 0 s).map Prod.fst).map (renT (· + o)) := by
  have h := Lx.sc_shift o 0 s
  rw [Nat.zero_add] at h
  rw [h, shift_ren]
/-- Rules that fit, behind others. -/
theorem items_full {cs : List (List Tk)} {xs : List Itm} (h : Segs cs xs) {k : Nat} (hk : xs.length ≤ k) (acc : List Itm) : items k acc cs.flatten = .ok (acc ++ xs) [] := by
  have h1 := items_segs h (k - xs.length) acc []
  rw [List.append_nil, Nat.sub_add_cancel hk, items_done] at h1
  exact h1
theorem items_two {cs cs' : List (List Tk)} {xs ys : List Itm} (h : Segs cs xs) (h' : Segs cs' ys) {k : Nat} (hk : xs.length + ys.length ≤ k) : items k [] (cs.flatten ++ cs'.flatten) = .ok (xs ++ ys) [] := by
  have h1 := items_full (h.append h') (k := k) (by rw [List.length_append]; exact hk) []
  rw [List.flatten_append] at h1
  exact h1
theorem renT_renT (f g : Nat → Nat) (l : List Tk) : (l.map (renT f)).map (renT g) = l.map (renT (fun n => g (f n))) := by
  rw [List.map_map]
  rfl
theorem renI_renI (f g : Nat → Nat) (l : List Itm) : (l.map (renI f)).map (renI g) = l.map (renI (fun n => g (f n))) := by
  rw [List.map_map]
  refine List.map_congr_left (fun x _ => ?_)
  unfold renI
  simp [List.map_map]
  intro r _
  exact fun t _ => rfl
/-- Rules of the same tokens with other offsets. -/
theorem segs_ren {l : List Tk} {f : Nat → Nat} {z : List Itm} (h : items 200 [] (l.map (renT f)) = .ok z []) (g : Nat → Nat) : ∃ cs ys, Segs cs ys ∧ cs.flatten = l.map (renT g) ∧ ys.length = z.length ∧ z.map (renI (fun _ => 0)) = ys.map (renI (fun _ => 0)) := by
  have h1 := eqv_items f 200 [] l
  rw [List.map_nil, h] at h1
  have h2 := eqv_items g 200 [] l
  rw [List.map_nil] at h2
  cases hl : items 200 [] l with
  | ok y r =>
    rw [hl] at h1 h2
    simp only [Out.ren, Out.ok.injEq] at h1 h2
    obtain ⟨hr, _⟩ := items_ok _ _ _ _ _ hl
    subst hr
    obtain ⟨_, cs, xs, h3, h4, _, h5⟩ := items_ok _ _ _ _ _ h2
    refine ⟨cs, xs, h3, h4.symm, ?_, ?_⟩
    · have e : xs = y.map (renI g) := by rw [List.nil_append] at h5; exact h5.symm
      rw [e, h1.1, List.length_map, List.length_map]
    · have e : xs = y.map (renI g) := by rw [List.nil_append] at h5; exact h5.symm
      rw [e, h1.1, renI_renI, renI_renI]
  | bad c r =>
    rw [hl] at h1
    cases h1
/-- What RuleJoins asks. -/
theorem joins_law {a b : Bytes} (ha : (parse a).2.1 = 0) (hb : (parse b).2.1 = 0) (hn : (parse a).1.length + (parse b).1.length ≤ 200) (hL : (Lx.lex (a ++ 10 :: b)).2.1 = 0) :
    parse (a ++ 10 :: b) = ((parse a).1 ++ (parse b).1.map (renI (· + (a.length + 1))), 0, 0) := by
  obtain ⟨la, ia, _⟩ := parse_zero ha
  obtain ⟨lb, ib, _⟩ := parse_zero hb
  obtain ⟨q, hq, _, _, hq2⟩ := Lx.lex_join la hL
  have hqb : q = (Lx.lex b).1.map (renT (· + (a.length + 1))) := by
    rw [hq2, sc_ren, (Lx.lex_of_zero lb).2.2.2]
  obtain ⟨_, cs, xs, h1, h2, h3, h4⟩ := items_ok _ _ _ _ _ ia
  have h5 := eqv_items (· + (a.length + 1)) 200 [] (Lx.lex b).1
  rw [List.map_nil, ib] at h5
  obtain ⟨_, cs', ys, h6, h7, h8, h9⟩ := items_ok _ _ _ _ _ h5
  rw [List.nil_append] at h4 h9
  rw [parse_of_lex hL, hq, hqb, h2, h7, items_two h1 h6 (by rw [← h4, ← h9, List.length_map]; exact hn), ← h4, ← h9]
  rfl
/-- The first token of a rule's own tokens. -/
theorem seg_head {c : List Tk} {x : Itm} (h : item c = .ok x []) : ∃ t r, c = t :: r ∧ t.at_ = x.at_ := by
  obtain ⟨t, n, b, w, l2, l3, l4, rfl, _, _, _, _, _, _, rfl⟩ := item_ok h
  exact ⟨t, _, rfl, rfl⟩
/-- A token in the scan of a text without an error. -/
theorem at_scan {s : Bytes} (h0 : (Lx.lex s).2.1 = 0) {p q : List Tk} {t : Tk} (h : (Lx.lex s).1 = p ++ t :: q) : ∃ p' q', Lx.sc 0 s = p' ++ (t, 0) :: q' ∧ p'.map Prod.fst = p ∧ q'.map Prod.fst = q ∧ Lx.good p' = true ∧ Lx.good q' = true := by
  obtain ⟨_, g1, _, e1⟩ := Lx.lex_of_zero h0
  rw [e1] at h
  obtain ⟨a, b, hab, ha, hb⟩ := List.map_eq_append_iff.1 h
  cases b with
  | nil => simp at hb
  | cons x b =>
    rw [List.map_cons, List.cons.injEq] at hb
    have hx : x.2 = 0 := (Lx.good_iff.1 g1) x (by rw [hab]; simp)
    refine ⟨a, b, by rw [hab]; congr 1; rw [← hb.1, ← hx], ha, hb.2, ?_, ?_⟩
    · exact Lx.good_iff.2 fun y hy => (Lx.good_iff.1 g1) y (by rw [hab]; simp [hy])
    · exact Lx.good_iff.2 fun y hy => (Lx.good_iff.1 g1) y (by rw [hab]; simp [hy])
/-- Where the rule behind the one with index i begins; the end of the text if there is none. -/
def endAt (xs : List Itm) (i : Nat) (n : Nat) : Nat := match xs[i + 1]? with
  | some y => y.at_
  | none => n
theorem leaves_law {s : Bytes} (hs : s.length ≤ 4000) (h0 : (parse s).2.1 = 0) {i : Nat} {x : Itm} (hx : (parse s).1[i]? = some x) :
    x.at_ ≤ s.length ∧ endAt (parse s).1 i s.length ≤ s.length ∧ (parse (s.take x.at_ ++ 10 :: s.drop (endAt (parse s).1 i s.length))).2.1 = 0 ∧
    (parse (s.take x.at_ ++ 10 :: s.drop (endAt (parse s).1 i s.length))).1.map (renI (fun _ => 0)) = ((parse s).1.take i ++ (parse s).1.drop (i + 1)).map (renI (fun _ => 0)) := by
  obtain ⟨l0, i0, _⟩ := parse_zero h0
  obtain ⟨_, cs, xs, h1, h2, h3, h4⟩ := items_ok _ _ _ _ _ i0
  rw [List.nil_append] at h4
  rw [h4] at hx ⊢
  have hi := (List.getElem?_eq_some_iff.1 hx).1
  have hsp : xs = xs.take i ++ x :: xs.drop (i + 1) := by
    conv => lhs; rw [← List.take_append_drop i xs]
    rw [List.drop_eq_getElem_cons hi, (List.getElem?_eq_some_iff.1 hx).2]
  have h1' := h1
  rw [hsp] at h1'
  obtain ⟨a, b, rfl, h5, h6⟩ := Segs.split _ _ h1'
  cases h6 with
  | cons h7 h8 =>
    rename_i c cs2
    obtain ⟨t, cr, rfl, ht⟩ := seg_head h7
    have htk : (Lx.lex s).1 = a.flatten ++ t :: (cr ++ cs2.flatten) := by rw [h2]; simp
    obtain ⟨p', q', k1, k2, k3, k4, k5⟩ := at_scan l0 htk
    obtain ⟨j, m1, m2, m3, m4⟩ := Lx.sc_swap 0 s p' t 0 q' k1 k4
    rw [Nat.zero_add] at m1 m3 m4
    obtain rfl : j = x.at_ := by omega
    have hlen : (xs.take i).length = i := by rw [List.length_take]; omega
    have hnl : ∀ z : Bytes, Lx.Bnd (s.drop x.at_) (10 :: z) := fun z d q hd => .inl (by
      rw [List.cons.injEq] at hd
      rw [← hd.1]
      decide)
    have hd3 : ∀ z : Bytes, Lx.sc 0 (s.take x.at_ ++ 10 :: z) = p' ++ Lx.sc (x.at_ + 1) z := fun z => by
      rw [m3 (10 :: z) (hnl z), Lx.sc_blank (by decide)]
    have hlex : ∀ z : Bytes, z.length ≤ s.length - x.at_ → Lx.good (Lx.sc (x.at_ + 1) z) = true → Lx.lex (s.take x.at_ ++ 10 :: z) = (a.flatten ++ (Lx.sc (x.at_ + 1) z).map Prod.fst, 0, 0) := fun z hz hg => by
      have hl := Lx.sc_length 0 (s.take x.at_ ++ 10 :: z)
      have hl2 : (s.take x.at_ ++ 10 :: z).length ≤ s.length + 1 := by
        rw [List.length_append, List.length_take, List.length_cons]
        omega
      rw [Lx.lex_zero' (by omega) (by rw [hd3]; exact Lx.good_iff.2 fun y hy => (List.mem_append.1 hy).elim ((Lx.good_iff.1 k4) y) ((Lx.good_iff.1 hg) y)) (by omega), hd3, List.map_append, k2]
    cases hd : xs.drop (i + 1) with
    | nil =>
      have he : endAt xs i s.length = s.length := by
        unfold endAt
        rw [List.drop_eq_nil_iff] at hd
        rw [List.getElem?_eq_none hd]
      rw [he, List.drop_length]
      rw [hd] at h8
      have hn := hlex [] (by simp) (by rfl)
      have hi1 := items_full h5 (k := 200) (by rw [hlen]; omega) []
      have hp : parse (s.take x.at_ ++ [10]) = (xs.take i, 0, 0) := by
        rw [parse_of_lex (by rw [hn]), hn]
        simp only [Lx.sc_nil, List.map_nil, List.append_nil]
        rw [hi1]
        rfl
      refine ⟨by omega, Nat.le_refl _, by rw [hp], by rw [hp, List.append_nil]⟩
    | cons y ys =>
      have hy : xs[i + 1]? = some y := by
        have := congrArg (·[0]?) hd
        simpa using this
      have he : endAt xs i s.length = y.at_ := by
        unfold endAt
        rw [hy]
      rw [he]
      rw [hd] at h8
      cases h8 with
      | cons g1 g2 =>
        rename_i c2 cs3
        obtain ⟨u, ur, rfl, hu⟩ := seg_head g1
        have htk2 : (Lx.lex s).1 = (a.flatten ++ (t :: cr)) ++ u :: (ur ++ cs3.flatten) := by rw [h2]; simp
        obtain ⟨p2, q2, n1, n2, n3, n4, n5⟩ := at_scan l0 htk2
        obtain ⟨j2, o1, o2, o3, o4⟩ := Lx.sc_swap 0 s p2 u 0 q2 n1 n4
        rw [Nat.zero_add] at o1 o3 o4
        obtain rfl : j2 = y.at_ := by omega
        have hlt : x.at_ < y.at_ := by
          have hr := Lx.lex_rising s
          rw [htk2] at hr
          have := (List.pairwise_append.1 hr).2.2 t (by simp) u (by simp)
          omega
        have hc2 : (u :: ur) ++ cs3.flatten = ((Lx.sc 0 (s.drop y.at_)).map Prod.fst).map (renT (· + y.at_)) := by
          rw [← sc_ren, o4, List.map_cons, n3]
          rfl
        have hit : items 200 [] (((Lx.sc 0 (s.drop y.at_)).map Prod.fst).map (renT (· + y.at_))) = .ok (y :: ys) [] := by
          rw [← hc2]
          have := items_full (Segs.cons g1 g2) (k := 200) (by rw [← hd, List.length_drop]; omega) []
          simpa using this
        obtain ⟨cs', ys', w1, w2, w3, w4⟩ := segs_ren hit (· + (x.at_ + 1))
        rw [← sc_ren] at w2
        have hg : Lx.good (Lx.sc (x.at_ + 1) (s.drop y.at_)) = true := by
          have e1 := Lx.sc_shift (x.at_ + 1) 0 (s.drop y.at_)
          have e2 := Lx.sc_shift y.at_ 0 (s.drop y.at_)
          rw [Nat.zero_add] at e1 e2
          rw [e1, Lx.good_shift, ← Lx.good_shift y.at_, ← e2, o4]
          exact Lx.good_iff.2 fun z hz => (List.mem_cons.1 hz).elim (fun e => by rw [e]) ((Lx.good_iff.1 n5) z)
        have hn := hlex (s.drop y.at_) (by rw [List.length_drop]; omega) hg
        have hp : parse (s.take x.at_ ++ 10 :: s.drop y.at_) = (xs.take i ++ ys', 0, 0) := by
          rw [parse_of_lex (by rw [hn]), hn]
          simp only
          rw [← w2, items_two h5 w1 (by rw [hlen, w3, ← hd, List.length_drop]; omega)]
          rfl
        refine ⟨by omega, by omega, by rw [hp], ?_⟩
        rw [hp, List.map_append, List.map_append, w4]
end Rl
end Go.Proofs.YtmfjebpefneboaaDoor
