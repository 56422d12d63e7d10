/-
  Plan, the law PlanFirstError: the walk.
-/
import Derived.Test.YtocadlcglgpdcaaDoorPnY
import Derived.Test.YtocadlcglgpdcaaDoorPoE
namespace Go.Proofs.YtocadlcglgpdcaaDoor
set_option linter.unusedVariables false
set_option linter.unusedSimpArgs false
open Go Go.RowKit Go.Shelf
open Lx (Tk)
attribute [local go_sem ↓] Go.wp_at_zero Go.wp_at_succ
/-- Where the end of the token stands in the loop that looks for it. -/
def endAt (k e i : Nat) : Int := if k < i then (e : Int) else -1
set_option maxHeartbeats 4000000 in
set_option maxRecDepth 100000 in
theorem planFirst_walk (w : World) (s : Bytes) (hs0 : s.length ≤ 9223372036854775807) (m : Bytes) (hm0 : m.length ≤ 9223372036854775807) :
    Calls Tryd.prog 5 #[.string ⟨s.toArray⟩, .string ⟨m.toArray⟩] w fun e w' => e = .returned (.bool true) ∧ Chg [] w w' := by
  obtain ⟨sb, hsb⟩ : ∃ sb : ByteArray, sb = ⟨s.toArray⟩ := ⟨_, rfl⟩
  obtain ⟨mb, hmb⟩ : ∃ mb : ByteArray, mb = ⟨m.toArray⟩ := ⟨_, rfl⟩
  rw [← hsb, ← hmb]
  have HSB := Lib.hid hsb
  have HMB := Lib.hid hmb
  have hsz := hsize HSB
  have hmz := hsize HMB
  clear hsb hmb
  go_enter Tryd.func5, Tryd.ntmps5
  go_wp2_with fail
  refine (head_spec06 _).mono ?_
  rintro e w1 ⟨rfl, hc1⟩
  have HC1 := Lib.hid hc1
  clear hc1
  by_cases hl : s.length ≤ 2000
  · by_cases hm : m.length ≤ 2000
    · have q1 : ¬ (2000 : Int) < (sb.size : Int) := by rw [hsz]; omega
      have q2 : ¬ (2000 : Int) < (mb.size : Int) := by rw [hmz]; omega
      have HL := Lib.hid hl
      have HM := Lib.hid hm
      have HZ := Lib.hid hsz
      clear hl hm hs0 hm0 hsz hmz
      go_wp2_with fail
      refine parse_hl (by have := HL.out; omega) HSB (fun h er A ao n cap w2 HPA HNL HL2 HC2 => ?_)
      clear q1 q2
      go_wp2_with fail
      refine lex_r (by have := HL.out; omega) HSB (fun ao3 n3 cap3 E0 A0 w3 HT3 HC3 HE0 => ?_)
      have HC13 : Hid (Chg [] w w3) := Lib.hid (((HC1.out.trans HC2.out (by simp)).alloc _).trans HC3.out (by simp))
      by_cases h4 : er = 4
      · have n4 : ((er : Int) != 4) = false := by subst h4; rfl
        by_cases h0 : E0 = 0
        · have n0 : ((E0 : Int) != 0) = false := by subst h0; rfl
          obtain ⟨p, u, q, a1, a2, a3, a4, a5⟩ := Pn.first_error (s := s) (m := m) (HE0.out.2.1.trans h0) (by rw [HPA.out]; exact h4)
          rw [HPA.out] at a2
          obtain ⟨at9, hat⟩ : ∃ a, u.at_ = a := ⟨_, rfl⟩
          obtain ⟨ln, hln⟩ : ∃ a, u.text.length = a := ⟨_, rfl⟩
          obtain ⟨k, hk⟩ : ∃ k, p.length = k := ⟨_, rfl⟩
          rw [hat, hln] at a5 a3
          rw [hat] at a4
          replace a2 : A = (at9 : Int) := by rw [← hat]; exact a2
          subst a2
          have HTK : Hid (∀ i t, (Lx.lex s).1[i]? = some t → (t.at_ = at9 ↔ i = k)) := Lib.hid (fun i t ht => by
            have hr := Lx.lex_rising s
            have hu : (Lx.lex s).1[k]? = some u := by rw [a1, ← hk]; simp
            rw [← hat]
            constructor
            · intro he
              apply Classical.byContradiction
              intro hne
              obtain ⟨hi, hi2⟩ := List.getElem?_eq_some_iff.1 ht
              obtain ⟨hj, hj2⟩ := List.getElem?_eq_some_iff.1 hu
              rcases Nat.lt_or_gt_of_ne hne with h | h
              · have := List.pairwise_iff_getElem.1 hr i k hi hj h
                rw [hi2, hj2] at this
                omega
              · have := List.pairwise_iff_getElem.1 hr k i hj hi h
                rw [hi2, hj2] at this
                omega
            · intro he
              subst he
              rw [hu] at ht
              cases ht
              rfl)
          have HTX : Hid (∀ t, (Lx.lex s).1[k]? = some t → t.text.length = ln) := Lib.hid (fun t ht => by
            have hu : (Lx.lex s).1[k]? = some u := by rw [a1, ← hk]; simp
            rw [hu] at ht
            cases ht
            exact hln)
          have HKN : Hid (k < n3) := Lib.hid (by rw [← HE0.out.1, a1, ← hk]; simp)
          have HA3 := Lib.hid a3
          have HA4 := Lib.hid a4
          have HA5 := Lib.hid a5
          clear a1 a3 a4 a5 hat hln hk h4 h0
          go_wp2_with fail
          go_loopw [12, 13] (fun en i wr => ∃ j : Nat, en = .int .i64 (endAt k (at9 + ln) j) ∧ i = .int .i64 (j : Int) ∧ j ≤ n3 ∧ Hid (Chg [] w3 wr)) (fun _ i _ => n3 - (intN i))
          case atStart => exact ⟨0, rfl, rfl, Nat.zero_le _, Lib.hid (Chg.refl _ _)⟩
          case round =>
            obtain ⟨j, rfl, rfl, hj, HCR⟩ := hrel
            by_cases hlt : j < n3
            · obtain ⟨t, ht⟩ : ∃ t, (Lx.lex s).1[j]? = some t := ⟨(Lx.lex s).1[j]'(by rw [HE0.out.1]; exact hlt), by simp⟩
              obtain ⟨g, off, e1, e2, e3, k0, k1, k2, k3⟩ := (HT3.out.quiet HCR.out).get ht
              subst e1
              have q0 : (0 : Int) ≤ (j : Int) := by omega
              have q1 : (j : Int) < (n3 : Int) := by omega
              have q2 : (j : Int) ≤ (cap3 : Int) := by omega
              have qj : ((j : Int)).toNat = j := by omega
              have hw2 : IntKind.i64.wrap ((j : Int) + 1) = ((j + 1 : Nat) : Int) := by rw [IntWalk.i64_in _ (by have h1 := Lx.lex_len s; have h2 := HE0.out.1; omega)]; omega
              by_cases hjk : j = k
              · have hta := (HTK.out j t ht).2 hjk
                have htx := HTX.out t (hjk ▸ ht)
                have hxz : (⟨t.text.toArray⟩ : ByteArray).size = ln := by rw [size_of, htx]
                have b0 : ((t.at_ : Int) == (at9 : Int)) = true := by rw [hta]; exact beq_self_eq_true _
                have hw1 : IntKind.i64.wrap ((at9 : Int) + (ln : Int)) = ((at9 + ln : Nat) : Int) := by rw [IntWalk.i64_in _ (by have h1 := HA3.out; have h2 := HL.out; omega)]; omega
                have he : endAt k (at9 + ln) (j + 1) = ((at9 + ln : Nat) : Int) := by unfold endAt; rw [if_pos (by omega)]
                have HEE := Lib.hid he
                clear ht hta htx e2 e3 he hjk
                go_wp2_with fail
                refine ⟨?_, by simp [intN]; omega⟩
                first | exact ⟨j + 1, by rw [HEE.out]; exact vintP (by omega), vintP (by omega), by omega, HCR⟩ | ((repeat apply Exists.intro); exact ⟨⟨j + 1, by rw [HEE.out]; exact vintP (by omega), vintP (by omega), by omega, HCR⟩, rfl⟩)
              · have b0 : ((t.at_ : Int) == (at9 : Int)) = false := beq_eq_false_iff_ne.2 (fun h => hjk ((HTK.out j t ht).1 (by omega)))
                have he : endAt k (at9 + ln) (j + 1) = endAt k (at9 + ln) j := by
                  unfold endAt
                  by_cases h9 : k < j
                  · rw [if_pos h9, if_pos (by omega)]
                  · rw [if_neg h9, if_neg (by omega)]
                have HEE := Lib.hid he
                clear ht e2 e3 he hjk
                go_wp2_with fail
                refine ⟨?_, by simp [intN]; omega⟩
                first | exact ⟨j + 1, by rw [HEE.out], vintP (by omega), by omega, HCR⟩ | ((repeat apply Exists.intro); exact ⟨⟨j + 1, by rw [HEE.out], vintP (by omega), by omega, HCR⟩, rfl⟩)
            · have q1 : ¬ (j : Int) < (n3 : Int) := by omega
              have he : endAt k (at9 + ln) j = ((at9 + ln : Nat) : Int) := by
                have := HKN.out
                unfold endAt
                rw [if_pos (by omega)]
              rw [he]
              have hsz := HZ.out
              have q2 : ¬ ((at9 + ln : Nat) : Int) < 0 := by omega
              have q3 : ¬ (sb.size : Int) < ((at9 + ln : Nat) : Int) := by rw [hsz]; have := HA3.out; omega
              have q4 : (at9 : Int) ≤ (sb.size : Int) := by rw [hsz]; have := HA3.out; omega
              have q5 : (0 : Int) ≤ (at9 : Int) := by omega
              obtain ⟨en, hen⟩ : ∃ en : Nat, en = at9 + ln := ⟨_, rfl⟩
              rw [← hen] at HA3 HA5 q2 q3 ⊢
              have HEN := Lib.hid hen
              clear he hen hsz
              go_wp2_with fail
              refine parse_hl (s := s.take at9) (by rw [List.length_take]; have := HL.out; omega) (Lib.hid (cut_to HSB at9)) (fun h5 er5 A5 ao5 n5 cap5 w5 HPA5 HNL5 HL5 HC5 => ?_)
              have HC15 : Hid (Chg [] w w5) := Lib.hid ((HC13.out.trans HCR.out (by simp)).trans HC5.out (by simp))
              have HA4' := Lib.hid HA4.out
              rw [HPA5.out] at HA4'
              clear q2 q3 q4 q5 q1
              go_upto_region 17 with fail
              obtain ⟨W, hW⟩ : ∃ W, W = w5.alloc (.cells #[.string ⟨h5.name.toArray⟩, .int .i64 (h5.sx : Nat), .int .i64 (h5.sy : Nat), .slice ao5 n5 cap5] 27) := ⟨_, rfl⟩
              rw [← hW]
              have HCW : Hid (Chg [] w W) := Lib.hid (HC15.out.trans (by rw [hW]; exact (Chg.refl [] w5).alloc _) (by simp))
              clear hW
              have q2 : (en : Int) ≤ (sb.size : Int) := by rw [HZ.out]; have := HA3.out; omega
              have q3 : (0 : Int) ≤ (en : Int) := by omega
              have HCAT : Hid (sb.extract 0 en ++ (⟨#[10]⟩ : ByteArray) ++ mb = ⟨(s.take en ++ 10 :: m).toArray⟩) := Lib.hid (nl_cat (Lib.hid (cut_to HSB en)) HMB)
              have HLC : Hid ((s.take en ++ 10 :: m).length ≤ 10000) := Lib.hid (by have h1 := HL.out; have h2 := HM.out; simp only [List.length_append, List.length_take, List.length_cons]; omega)
              by_cases z0 : er5 = 0
              · have b1 : ((er5 : Int) != 0) = false := by subst z0; rfl
                clear z0
                go_wp2_with fail
                refine lex_r (s := s.take en ++ 10 :: m) (by have := HLC.out; omega) HCAT (fun ao7 n7 cap7 E7 A7 w7 HT7 HC7 HE7 => ?_)
                clear q2 q3
                go_wp2_with fail
                refine parse_hl (s := s.take en ++ 10 :: m) (by have := HLC.out; omega) HCAT (fun h8 er8 A8 ao8 n8 cap8 w8 HPA8 HNL8 HL8 HC8 => ?_)
                have HC18 : Hid (Chg [] w w8) := Lib.hid ((HCW.out.trans HC7.out (by simp)).trans HC8.out (by simp))
                by_cases f9 : E7 = 0
                · have b4 : ((E7 : Int) != 0) = false := by subst f9; rfl
                  have h9 := HA5.out (HE7.out.2.1.trans f9)
                  rw [HPA8.out] at h9
                  obtain ⟨h91, h92⟩ := h9
                  have b5 : ((er8 : Int) == 4) = true := by rw [show er8 = 4 from h91]; rfl
                  have b6 : ((A8 : Int) == (at9 : Int)) = true := by rw [show A8 = (at9 : Int) from h92]; simp
                  clear f9 h91 h92
                  go_wp2_with fail
                  go_ret
                  exact ⟨rfl, HC18.out.alloc _⟩
                · have b4 : ((E7 : Int) != 0) = true := bne_iff_ne.2 (by omega)
                  clear f9
                  go_wp2_with fail
                  go_ret
                  exact ⟨rfl, HC18.out.alloc _⟩
              · have b1 : ((er5 : Int) != 0) = true := bne_iff_ne.2 (by omega)
                have z7 : er5 = 7 ∧ A5 = (at9 : Int) := by rcases HA4'.out with h | h; exact absurd h z0; exact h
                obtain ⟨z7, z8⟩ := z7
                have b2 : ((er5 : Int) != 7) = false := by subst z7; rfl
                subst z8
                have b3 : ((at9 : Int) != (at9 : Int)) = false := by simp
                clear z0
                go_wp2_with fail
                refine lex_r (s := s.take en ++ 10 :: m) (by have := HLC.out; omega) HCAT (fun ao7 n7 cap7 E7 A7 w7 HT7 HC7 HE7 => ?_)
                clear q2 q3
                go_wp2_with fail
                refine parse_hl (s := s.take en ++ 10 :: m) (by have := HLC.out; omega) HCAT (fun h8 er8 A8 ao8 n8 cap8 w8 HPA8 HNL8 HL8 HC8 => ?_)
                have HC18 : Hid (Chg [] w w8) := Lib.hid ((HCW.out.trans HC7.out (by simp)).trans HC8.out (by simp))
                by_cases f9 : E7 = 0
                · have b4 : ((E7 : Int) != 0) = false := by subst f9; rfl
                  have h9 := HA5.out (HE7.out.2.1.trans f9)
                  rw [HPA8.out] at h9
                  obtain ⟨h91, h92⟩ := h9
                  have b5 : ((er8 : Int) == 4) = true := by rw [show er8 = 4 from h91]; rfl
                  have b6 : ((A8 : Int) == (at9 : Int)) = true := by rw [show A8 = (at9 : Int) from h92]; simp
                  clear f9 h91 h92
                  go_wp2_with fail
                  go_ret
                  exact ⟨rfl, HC18.out.alloc _⟩
                · have b4 : ((E7 : Int) != 0) = true := bne_iff_ne.2 (by omega)
                  clear f9
                  go_wp2_with fail
                  go_ret
                  exact ⟨rfl, HC18.out.alloc _⟩
        · have n0 : ((E0 : Int) != 0) = true := bne_iff_ne.2 (by omega)
          clear h4 h0
          go_wp2_with fail
          go_ret
          exact ⟨rfl, HC13.out⟩
      · have n4 : ((er : Int) != 4) = true := bne_iff_ne.2 (by omega)
        clear h4
        go_wp2_with fail
        go_ret
        exact ⟨rfl, HC13.out⟩
    · have q1 : ¬ (2000 : Int) < (sb.size : Int) := by rw [hsz]; omega
      have q2 : (2000 : Int) < (mb.size : Int) := by rw [hmz]; omega
      go_wp2_with fail
      go_ret
      exact ⟨rfl, HC1.out⟩
  · have q1 : (2000 : Int) < (sb.size : Int) := by rw [hsz]; omega
    go_wp2_with fail
    go_ret
    exact ⟨rfl, HC1.out⟩
end Go.Proofs.YtocadlcglgpdcaaDoor
