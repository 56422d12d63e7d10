/-
  Plan: the plain law of PlanFirstError.
-/
import Derived.Test.YtocadlcglgpdcaaDoorPoD
namespace Go.Proofs.YtocadlcglgpdcaaDoor
set_option linter.unusedVariables false
open Lx (Tk)
namespace Lx
/-- A token among those of a text without an error: how the text is cut before it and behind it. -/
theorem tok_cuts {s : Bytes} (h0 : (lex s).2.1 = 0) {p q : List Tk} {u : Tk} (h : (lex s).1 = p ++ u :: q) :
    u.at_ + u.text.length ≤ s.length ∧ lex (s.take u.at_) = (p, 0, 0) ∧ lex (s.take (u.at_ + u.text.length)) = (p ++ [u], 0, 0) := by
  obtain ⟨l1, g1, g2, e1⟩ := lex_of_zero h0
  have hsc : ∃ p' q', sc 0 s = p' ++ (u, 0) :: q' ∧ p'.map Prod.fst = p := by
    have h3 : (sc 0 s).map Prod.fst = p ++ u :: q := by rw [← h, e1]
    obtain ⟨a, b, hab, ha, hb⟩ := List.map_eq_append_iff.1 h3
    cases b with
    | nil => simp at hb
    | cons x b =>
      rw [List.map_cons, List.cons.injEq] at hb
      have hx : x.2 = 0 := (good_iff.1 g1) x (by rw [hab]; simp)
      exact ⟨a, b, by rw [hab]; congr 1; rw [← hb.1, ← hx], ha⟩
  obtain ⟨p', q', hpq, hp'⟩ := hsc
  have hgp : good p' = true := good_iff.2 fun x hx => (good_iff.1 g1) x (by rw [hpq]; simp [hx])
  have hgp1 : good (p' ++ [(u, 0)]) = true := good_iff.2 fun x hx => (good_iff.1 g1) x (by rw [hpq]; rcases List.mem_append.1 hx with h | h <;> simp_all)
  obtain ⟨i, a1, a2, a3, a4, a5⟩ := sc_insert [] (fun c r h => by cases h) 0 s p' (u, 0) q' hpq hgp1
  rw [List.append_nil, sc_nil] at a4
  have hi : u.at_ + u.text.length = i := by simpa using a1
  obtain ⟨j, b1, b2, b3, -⟩ := sc_swap 0 s p' u 0 q' hpq hgp
  have b4 := b3 [] (fun d q h => by cases h)
  rw [List.append_nil, sc_nil, List.append_nil] at b4
  have hj : u.at_ = j := by omega
  have hl : (sc 0 s).length = p'.length + (q'.length + 1) := by rw [hpq]; simp
  rw [hi, hj]
  refine ⟨by omega, ?_, ?_⟩
  · rw [lex_zero' (by rw [List.length_take]; omega) (by rw [b4]; exact hgp) (by rw [b4]; omega), b4, hp']
  · rw [lex_zero' (by rw [List.length_take]; omega) (by rw [a4]; simpa using hgp1) (by rw [a4]; simp; omega), a4, List.map_append, hp']
    simp
end Lx
theorem rising_at {l : List Tk} (hr : Rising l) {k i : Nat} {u t : Tk} (hu : l[k]? = some u) (ht : l[i]? = some t) : t.at_ = u.at_ ↔ i = k := by
  constructor
  · intro he
    apply Classical.byContradiction
    intro hne
    obtain ⟨hi, hi2⟩ := List.getElem?_eq_some_iff.1 ht
    obtain ⟨hj, hj2⟩ := List.getElem?_eq_some_iff.1 hu
    rcases Nat.lt_or_gt_of_ne hne with h | h
    · have := List.pairwise_iff_getElem.1 hr i k hi hj h
      rw [hi2, hj2] at this
      omega
    · have := List.pairwise_iff_getElem.1 hr k i hj hi h
      rw [hi2, hj2] at this
      omega
  · intro he
    subst he
    rw [hu] at ht
    cases ht
    rfl
namespace Pn
open Rl (Out)
theorem first_error {s m : Bytes} (h0 : (Lx.lex s).2.1 = 0) (h4 : (parse s).2.1 = 4) :
    ∃ p u q, (Lx.lex s).1 = p ++ u :: q ∧ (parse s).2.2 = (u.at_ : Int) ∧ u.at_ + u.text.length ≤ s.length ∧
      ((parse (s.take u.at_)).2.1 = 0 ∨ (parse (s.take u.at_)).2.1 = 7 ∧ (parse (s.take u.at_)).2.2 = (u.at_ : Int)) ∧
      ((Lx.lex (s.take (u.at_ + u.text.length) ++ 10 :: m)).2.1 = 0 → (parse (s.take (u.at_ + u.text.length) ++ 10 :: m)).2.1 = 4 ∧ (parse (s.take (u.at_ + u.text.length) ++ 10 :: m)).2.2 = (u.at_ : Int)) := by
  rw [parse_of_lex h0] at h4 ⊢
  cases hh : hall (Lx.lex s).1 with
  | ok x r =>
    rw [hh] at h4
    cases h4
  | bad c r =>
    rw [hh] at h4
    have hc := errs_hall _ _ _ hh
    subst hc
    cases r with
    | nil => cases h4
    | cons u q =>
      have hs := nice_hall.suf (Lx.lex s).1
      rw [hh] at hs
      obtain ⟨p, hp⟩ := hs
      have hp : p ++ u :: q = (Lx.lex s).1 := hp
      obtain ⟨c1, c2, c3⟩ := Lx.tok_cuts h0 hp.symm
      refine ⟨p, u, q, hp.symm, rfl, c1, ?_, fun h2 => ?_⟩
      · rw [parse_of_lex (by rw [c2]), c2]
        show (fin _ (hall p)).2.1 = 0 ∨ _
        have hleft : (hall p).left = [] := by
          apply Classical.byContradiction
          intro hne
          have h1 := nice_hall.far p (u :: q) hne
          rw [hp, hh] at h1
          cases hq : hall p with
          | ok b r =>
            rw [hq] at h1
            cases h1
          | bad e r =>
            rw [hq] at h1 hne
            simp only [Out.more, Out.bad.injEq] at h1
            have h3 : [] ++ u :: q = r ++ u :: q := by simpa using h1.2
            exact hne (List.append_cancel_right h3).symm
        cases hq : hall p with
        | ok b r => exact .inl rfl
        | bad e r =>
          rw [hq] at hleft
          have hr : r = [] := hleft
          subst hr
          right
          refine ⟨rfl, ?_⟩
          show (((s.take u.at_).length : Nat) : Int) = _
          rw [List.length_take]
          omega
      · obtain ⟨q', hq1, -⟩ := Lx.lex_join (by rw [c3]) h2
        rw [c3] at hq1
        rw [parse_of_lex h2, hq1]
        have hb := nice_hall.swapBad (q := q) (by rw [hp]; exact hh) q'
        rw [show p ++ [u] ++ q' = p ++ u :: q' by simp, hb]
        exact ⟨rfl, rfl⟩
end Pn
end Go.Proofs.YtocadlcglgpdcaaDoor
