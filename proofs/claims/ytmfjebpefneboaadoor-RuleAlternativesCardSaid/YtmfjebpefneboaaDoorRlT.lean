/-
  Rule, plain laws 7: the law on alternatives, over texts.
-/
import Derived.Test.YtmfjebpefneboaaDoorRlS
namespace Go.Proofs.YtmfjebpefneboaaDoor
set_option linter.unusedVariables false
set_option linter.unusedSimpArgs false
namespace Lx
theorem one_lit {s : Bytes} (h1 : s ≠ []) (h2 : (tok s).2.2 = 0) (h3 : ∀ c r, s = c :: r → cls c ≠ 1 ∧ cls c ≠ 2) {t : Tk} (ht : mk 0 s = t) : One t := by
  rw [← ht]
  exact one_of h1 h2 h3
theorem sep32 (z : Bytes) : Sep (32 :: z) := fun c r h => by
  rw [List.cons.injEq] at h
  rw [← h.1]
  exact .inl (by decide)
theorem one_when : One ⟨1, Rl.wWhen, 0, 0⟩ := one_lit (s := Rl.wWhen) (by decide) (by decide) (fun c r h => by cases h; decide) (by decide)
theorem one_or : One ⟨1, Rl.wOr, 0, 0⟩ := one_lit (s := Rl.wOr) (by decide) (by decide) (fun c r h => by cases h; decide) (by decide)
theorem one_held : One ⟨1, [104, 101, 108, 100], 0, 0⟩ := one_lit (s := [104, 101, 108, 100]) (by decide) (by decide) (fun c r h => by cases h; decide) (by decide)
theorem one_le : One ⟨3, [60, 61], 0, 0⟩ := one_lit (s := [60, 61]) (by decide) (by decide) (fun c r h => by cases h; decide) (by decide)
/-- Digits and a semicolon. -/
theorem sc_num {d : Bytes} (hd0 : d ≠ []) (hd : ∀ x ∈ d, cls x = 4 ∧ x ≠ 61) (hdl : d.length ≤ 10) (o : Nat) : sc o (d ++ [59]) = [(⟨2, d, num d, o⟩, 0), (⟨3, [59], 0, o + d.length⟩, 0)] := by
  obtain ⟨b, q, rfl⟩ : ∃ b q, d = b :: q := by
    cases d with
    | nil => exact absurd rfl hd0
    | cons b q => exact ⟨b, q, rfl⟩
  have hb := hd b (by simp)
  have w3 : wl dig ((b :: q) ++ [59]) = (b :: q).length := by
    rw [wl_stop (by decide), wl_all' (fun x hx => by unfold dig; simp [(hd x hx).1])]
  have hdrop : ((b :: q) ++ [59]).drop (b :: q).length = [59] := List.drop_left
  have htake : ((b :: q) ++ [59]).take (b :: q).length = b :: q := List.take_left
  rw [List.cons_append] at w3 hdrop htake ⊢
  have t3 : tok (b :: (q ++ [59])) = (2, (b :: q).length, 0) := by
    rw [tok_cons, if_neg (by omega), if_pos hb.1, w3, hdrop, if_neg]
    rintro (h | h)
    · omega
    · revert h
      decide
  have h3 : mk o (b :: (q ++ [59])) = ⟨2, b :: q, num (b :: q), o⟩ := by
    unfold mk
    rw [t3]
    simp only [htake, and_self, if_true]
  have e2 : ∀ o2, sc o2 [59] = [(⟨3, [59], 0, o2⟩, 0)] := fun o2 => by
    rw [sc_tok (by decide) (by decide) (by decide)]
    rfl
  rw [sc_tok (by omega) (by omega) (by rw [t3]), t3, h3]
  simp only
  rw [hdrop, e2]
where
  wl_all' {p : UInt8 → Bool} : ∀ {s : Bytes}, (∀ c ∈ s, p c = true) → wl p s = s.length
    | [], _ => rfl
    | c :: s, h => by
      rw [wl, if_pos (h c (by simp)), wl_all' (fun d hd => h d (by simp [hd]))]
      rfl
end Lx
namespace Rl
open Lx (Tk)
/-- The end that RuleAlternatives writes. -/
def altText (kw d : Bytes) : Bytes := 32 :: (kw ++ 32 :: ([104, 101, 108, 100] ++ 32 :: ([60, 61] ++ 32 :: (d ++ [59]))))
theorem sc_alt {kw d : Bytes} (hk : Lx.One ⟨1, kw, 0, 0⟩) (hd0 : d ≠ []) (hd : ∀ x ∈ d, Lx.cls x = 4 ∧ x ≠ 61) (hdl : d.length ≤ 10) (o : Nat) : ∃ o1 o2 o3 o4 o5, Lx.sc o (altText kw d) =
    [(⟨1, kw, 0, o1⟩, 0), (⟨1, [104, 101, 108, 100], 0, o2⟩, 0), (⟨3, [60, 61], 0, o3⟩, 0), (⟨2, d, Lx.num d, o4⟩, 0), (⟨3, [59], 0, o5⟩, 0)] := by
  have s1 := fun z => Lx.sc_one hk (Lx.sep32 z) (o + 1)
  have s2 := fun z o => Lx.sc_one Lx.one_held (Lx.sep32 z) o
  have s3 := fun z o => Lx.sc_one Lx.one_le (Lx.sep32 z) o
  unfold altText
  rw [Lx.sc_blank (by decide)]
  simp only at s1 s2 s3
  rw [s1, Lx.sc_blank (by decide), s2, Lx.sc_blank (by decide), s3, Lx.sc_blank (by decide), Lx.sc_num hd0 hd hdl]
  exact ⟨_, _, _, _, _, rfl⟩
theorem alts_law {s d : Bytes} {x : Itm} {u : Tk} (hs : s.length ≤ 4000) (h0 : (parse s).2.1 = 0) (h1 : (parse s).1 = [x]) (hl : (Lx.lex s).1.getLast? = some u) (hu : u.at_ + 1 = s.length) (hlen : x.whn.length < 12)
    (hd0 : d ≠ []) (hd : ∀ c ∈ d, Lx.cls c = 4 ∧ c ≠ 61) (hdl : d.length ≤ 10) : ∃ a, parse (s.take (s.length - 1) ++ altText (if x.whn = [] then wWhen else wOr) d) = ([{ x with whn := x.whn ++ [[⟨[104, 101, 108, 100], 4, [], Lx.num d, a⟩]] }], 0, 0) := by
  obtain ⟨l0, i0, _⟩ := parse_zero h0
  obtain ⟨_, cs, xs, g1, g2, g3, g4⟩ := items_ok _ _ _ _ _ i0
  rw [List.nil_append, h1] at g4
  subst g4
  cases g1 with
  | cons h2 h3 =>
    cases h3
    rename_i c
    have hc : (Lx.lex s).1 = c := by rw [g2]; simp
    obtain ⟨P, hP⟩ : ∃ P, c = P ++ [u] := by
      rw [hc] at hl
      have hne : c ≠ [] := (shut_item.ext c x h2).1
      refine ⟨c.dropLast, ?_⟩
      have := List.dropLast_concat_getLast hne
      rw [List.getLast?_eq_some_getLast hne, Option.some.injEq] at hl
      rw [← hl]
      exact this.symm
    rw [hP] at h2 hc
    obtain ⟨p', q', k1, k2, k3, k4, k5⟩ := at_scan l0 hc
    obtain ⟨i, m1, m2, m3, m4⟩ := Lx.sc_swap 0 s p' u 0 q' k1 k4
    rw [Nat.zero_add] at m1 m3
    have hi : i = s.length - 1 := by omega
    have hone : Lx.One ⟨1, (if x.whn = [] then wWhen else wOr), 0, 0⟩ := by
      by_cases h : x.whn = []
      · rw [if_pos h]; exact Lx.one_when
      · rw [if_neg h]; exact Lx.one_or
    obtain ⟨o1, o2, o3, o4, o5, hsc⟩ := sc_alt hone hd0 hd hdl i
    have hz := m3 (altText (if x.whn = [] then wWhen else wOr) d) (fun e r he => .inl (by
      unfold altText at he
      rw [List.cons.injEq] at he
      rw [← he.1]
      decide))
    rw [hsc, hi] at hz
    have hll := Lx.sc_length 0 (s.take (s.length - 1) ++ altText (if x.whn = [] then wWhen else wOr) d)
    have hkl : (if x.whn = [] then wWhen else wOr).length ≤ 4 := by split <;> decide
    have hal : (altText (if x.whn = [] then wWhen else wOr) d).length ≤ 30 := by
      unfold altText
      simp only [List.length_cons, List.length_append, List.length_nil]
      omega
    have hlx : Lx.lex (s.take (s.length - 1) ++ altText (if x.whn = [] then wWhen else wOr) d) = (P ++ [⟨1, (if x.whn = [] then wWhen else wOr), 0, o1⟩, ⟨1, [104, 101, 108, 100], 0, o2⟩, ⟨3, [60, 61], 0, o3⟩, ⟨2, d, Lx.num d, o4⟩, ⟨3, [59], 0, o5⟩], 0, 0) := by
      have hlen2 : (s.take (s.length - 1) ++ altText (if x.whn = [] then wWhen else wOr) d).length ≤ 4030 := by
        rw [List.length_append, List.length_take]
        omega
      rw [Lx.lex_zero' (by omega) (by
        rw [hz]
        refine Lx.good_iff.2 fun y hy => ?_
        rcases List.mem_append.1 hy with h | h
        · exact (Lx.good_iff.1 k4) y h
        · simp only [List.mem_cons, List.not_mem_nil, or_false] at h
          rcases h with rfl | rfl | rfl | rfl | rfl <;> rfl) (by omega), hz, List.map_append, k2]
      rfl
    have htests : tests [⟨1, [104, 101, 108, 100], 0, o2⟩, ⟨3, [60, 61], 0, o3⟩, ⟨2, d, Lx.num d, o4⟩, ⟨3, [59], 0, o5⟩] = .ok [⟨[104, 101, 108, 100], 4, [], Lx.num d, o2⟩] [⟨3, [59], 0, o5⟩] := by rfl
    obtain ⟨_, hitem⟩ := item_alt (c0 := ⟨1, (if x.whn = [] then wWhen else wOr), 0, o1⟩) h2 hlen htests ⟨rfl, rfl⟩ ⟨rfl, rfl⟩
    refine ⟨o2, ?_⟩
    rw [parse_of_lex (by rw [hlx]), hlx]
    simp only
    have h9 := items_step (k := 199) (acc := []) hitem []
    rw [List.append_nil, items_done] at h9
    rw [h9]
    rfl
end Rl
end Go.Proofs.YtmfjebpefneboaaDoor
