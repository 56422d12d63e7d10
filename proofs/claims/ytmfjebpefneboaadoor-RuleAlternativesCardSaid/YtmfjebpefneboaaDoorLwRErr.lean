/-
  Rule, the law RuleErrors: the walk.
-/
import Derived.Test.YtmfjebpefneboaaDoorRlM
namespace Go.Proofs.YtmfjebpefneboaaDoor
set_option linter.unusedVariables false
set_option linter.unusedSimpArgs false
open Go Go.RowKit Go.Shelf
open Lx (Tk)

/-- Parse, with letters for what comes back. -/
theorem parse_r {w : World} {s : Bytes} (hs : s.length ≤ 100000) {sb : ByteArray} (HSB : Hid (sb = ⟨s.toArray⟩)) {R : Ending → World → Prop}
    (h : ∀ (ao : Option Addr) (n cap E : Nat) (A : Int) (w' : World), Hid (ListS w.heap.size 42 9 (Ci w.heap.size) (Rl.parse s).1 (.slice ao n cap) w') → Hid (Chg [] w w') → Hid ((Rl.parse s).1.length = n ∧ (Rl.parse s).2.1 = E ∧ (Rl.parse s).2.2 = A) →
      R (.returned (.tuple #[.agg #[.slice ao n cap], .int .i64 (E : Int), .int .i64 A])) w') : Calls Tryd.prog 11 #[.string sb] w R := by
  rw [HSB.out]
  refine (parse_spec w s hs).mono ?_
  rintro e w' ⟨v, rfl, hl, hc⟩
  obtain ⟨ao, cap, rfl⟩ := hl.form
  exact h ao _ cap _ _ w' (Lib.hid hl) (Lib.hid hc) (Lib.hid ⟨rfl, rfl, rfl⟩)
theorem lex_r {w : World} {s : Bytes} (hs : s.length ≤ 100000) {sb : ByteArray} (HSB : Hid (sb = ⟨s.toArray⟩)) {R : Ending → World → Prop}
    (h : ∀ (ao : Option Addr) (n cap E : Nat) (A : Int) (w' : World), Hid (TokS w' (.slice ao n cap) (Lx.lex s).1) → Hid (Chg [] w w') → Hid ((Lx.lex s).1.length = n ∧ (Lx.lex s).2.1 = E ∧ (Lx.lex s).2.2 = A) →
      R (.returned (.tuple #[.slice ao n cap, .int .i64 (E : Int), .int .i64 A])) w') : Calls Tryd.prog 14 #[.string sb] w R := by
  rw [HSB.out]
  refine (lex_spec w s (by omega)).mono ?_
  rintro e w' ⟨v, rfl, ht, hc⟩
  obtain ⟨ao, cap, rfl⟩ := ht.frm
  exact h ao _ cap _ _ w' (Lib.hid ht) (Lib.hid hc) (Lib.hid ⟨rfl, rfl, rfl⟩)
theorem hsize {s : Bytes} {sb : ByteArray} (HSB : Hid (sb = ⟨s.toArray⟩)) : sb.size = s.length := by rw [HSB.out]; exact size_of s
theorem nl_cat {s m : Bytes} {sb mb : ByteArray} (HSB : Hid (sb = ⟨s.toArray⟩)) (HMB : Hid (mb = ⟨m.toArray⟩)) : sb ++ (⟨#[10]⟩ : ByteArray) ++ mb = ⟨(s ++ 10 :: m).toArray⟩ := by
  rw [HSB.out, HMB.out]
  apply ByteArray.ext
  apply Array.ext'
  simp
theorem cut_to {s : Bytes} {sb : ByteArray} (HSB : Hid (sb = ⟨s.toArray⟩)) (i : Nat) : sb.extract 0 i = ⟨(s.take i).toArray⟩ := by
  rw [HSB.out]
  exact sub_take s i
theorem fld0 (a b c d : Value) (w : World) : (Instr.field 44 (.agg #[a, b, c, d]) 0).run Tryd.prog w = .ok a w := by kernel_rfl
theorem Lx.lex_len (s : Bytes) : (Lx.lex s).1.length ≤ s.length := by
  by_cases h : (Lx.lex s).2.1 = 0
  · rw [(Lx.lex_of_zero h).2.2.2]
    have := Lx.sc_length 0 s
    simpa using this
  · rw [Lx.lex_nonzero h]
    simp
set_option maxHeartbeats 2000000 in
set_option maxRecDepth 100000 in
theorem ruleErrors_walk (w : World) (s : Bytes) (hs0 : s.length ≤ 9223372036854775807) (m : Bytes) (hm0 : m.length ≤ 9223372036854775807) :
    Calls Tryd.prog 7 #[.string ⟨s.toArray⟩, .string ⟨m.toArray⟩] w fun e w' => e = .returned (.bool true) ∧ Chg [] w w' := by
  obtain ⟨sb, hsb⟩ : ∃ sb : ByteArray, sb = ⟨s.toArray⟩ := ⟨_, rfl⟩
  obtain ⟨mb, hmb⟩ : ∃ mb : ByteArray, mb = ⟨m.toArray⟩ := ⟨_, rfl⟩
  rw [← hsb, ← hmb]
  have HSB := Lib.hid hsb
  have HMB := Lib.hid hmb
  have hsz := hsize HSB
  have hmz := hsize HMB
  clear hsb hmb
  go_enter Tryd.func7, Tryd.ntmps7
  go_wp2_with fail
  refine (head_spec07 _).mono ?_
  rintro e w1 ⟨rfl, hc1⟩
  have HC1 := Lib.hid hc1
  clear hc1
  by_cases hl : s.length ≤ 4000
  · have q1 : ¬ (4000 : Int) < (sb.size : Int) := by rw [hsz]; omega
    by_cases hl2 : m.length ≤ 200
    · have q2 : ¬ (200 : Int) < (mb.size : Int) := by rw [hmz]; omega
      have HL := Lib.hid hl
      have HL2 := Lib.hid hl2
      have HSZ := Lib.hid hsz
      have HMZ := Lib.hid hmz
      clear hl hl2 hs0 hm0 hsz hmz
      go_wp2_with fail
      refine lex_r (by have := HL.out; omega) HSB (fun ao n cap E0 A0 w2 HT2 HC2 HE0 => ?_)
      go_wp2_with fail
      refine parse_r (by have := HL.out; omega) HSB (fun bo k bp E1 A1 w3 HL3 HC3 HE1 => ?_)
      have HC13 : Hid (Chg [] w w3) := Lib.hid ((HC1.out.trans HC2.out (by simp)).trans HC3.out (by simp))
      by_cases e0 : E0 = 0
      · have n0 : ((E0 : Int) != 0) = false := by subst e0; rfl
        by_cases e1 : E1 = 0
        · have n1 : ((E1 : Int) == 0) = true := by subst e1; rfl
          clear e0 e1
          go_wp2_with fail
          go_ret
          exact ⟨rfl, HC13.out.alloc _⟩
        · have n1 : ((E1 : Int) == 0) = false := beq_eq_false_iff_ne.2 (by omega)
          have HE00 := Lib.hid e0
          have HE11 := Lib.hid e1
          clear e0 e1
          have k1 : ¬ 9223372036854775807 < sb.size + 1 := by rw [HSZ.out]; have := HL.out; omega
          have k2 : ¬ 9223372036854775807 < sb.size + 1 + mb.size := by rw [HSZ.out, HMZ.out]; have := HL.out; have := HL2.out; omega
          go_wp2_with fail
          have HCAT : Hid (sb ++ (⟨#[10]⟩ : ByteArray) ++ mb = ⟨(s ++ 10 :: m).toArray⟩) := Lib.hid (nl_cat HSB HMB)
          refine lex_r (s := s ++ 10 :: m) (by have := HL.out; have := HL2.out; simp; omega) HCAT (fun co nn2 cap2 E2 A2 w4 HT4 HC4 HE2 => ?_)
          go_wp2_with fail
          refine parse_r (s := s ++ 10 :: m) (by have := HL.out; have := HL2.out; simp; omega) HCAT (fun d0 k2' dp E3 A3 w5 HL5 HC5 HE3 => ?_)
          have HC35 : Hid (Chg [] w w5) := Lib.hid (((HC13.out.alloc _).trans HC4.out (by simp)).trans HC5.out (by simp))
          by_cases e2 : E2 = 0
          · have n2 : ((E2 : Int) != 0) = false := by subst e2; rfl
            have HE22 := Lib.hid e2
            clear e2
            rcases Rl.errors_law (m := m) (HE0.out.2.1.trans HE00.out) (by rw [HE1.out.2.1]; exact HE11.out) (HE2.out.2.1.trans HE22.out) with ⟨h1, h2, h3⟩ | ⟨t, i, h1, h2, h3, h4, h5, h6, h7, h8, h9, h10, h11⟩
            · rw [HE1.out.2.1] at h1
              rw [HE1.out.2.2] at h2
              rw [HE0.out.1, HE2.out.1, HE3.out.2.1, HE3.out.2.2] at h3
              have m1 : ((E1 : Int) == 7) = true := by rw [h1]; rfl
              have m2 : (A1 == (sb.size : Int)) = true := by rw [HSZ.out, h2]; simp
              rcases h3 with ⟨h31, h32⟩ | ⟨h31, h32⟩
              · have m3 : ((nn2 : Int) == (n : Int)) = true := by rw [h31]; simp
                have m4 : ¬ (n : Int) < (nn2 : Int) := by omega
                have m5 : ((E3 : Int) == 7) = true := by rw [h32]; rfl
                clear h1 h2 h31 h32
                go_wp2_with fail
                go_ret
                exact ⟨rfl, HC35.out.alloc _⟩
              · have m3 : ((nn2 : Int) == (n : Int)) = false := beq_eq_false_iff_ne.2 (by omega)
                have m4 : (n : Int) < (nn2 : Int) := by omega
                by_cases e3 : E3 = 0
                · have m5 : ((E3 : Int) == 0) = true := by rw [e3]; rfl
                  clear h1 h2 h31 h32 e3
                  go_wp2_with fail
                  go_ret
                  exact ⟨rfl, HC35.out.alloc _⟩
                · have m5 : ((E3 : Int) == 0) = false := beq_eq_false_iff_ne.2 (by omega)
                  have m6 : A1 < A3 := by
                    rcases h32 with h | h
                    · exact absurd h e3
                    · omega
                  clear h1 h2 h31 h32 e3
                  go_wp2_with fail
                  go_ret
                  exact ⟨rfl, HC35.out.alloc _⟩
            · rw [HE1.out.2.1] at h1 h2 h8 h10
              rw [HE1.out.2.2] at h3
              rw [HE3.out.2.1] at h8
              rw [HE3.out.2.2] at h9
              subst h3 h6 h8 h9
              have m1 : ((E3 : Int) == 7) = false := beq_eq_false_iff_ne.2 (by omega)
              have hat : t.at_ + t.text.length ≤ 4000 := by have := HL.out; omega
              have hat2 : t.at_ + t.text.length ≤ sb.size := by rw [HSZ.out]; exact h7
              have H2 := Lib.hid h2
              have H4 := Lib.hid h4
              have H5 := Lib.hid h5
              have H10 := Lib.hid h10
              have H11 := Lib.hid h11
              have hf1 := fld1
              have hf0 := fld0
              have HLL : Hid ((Lx.lex s).1.length ≤ 1000000) := Lib.hid (by have := Lx.lex_len s; have := HL.out; omega)
              clear h1 h2 h4 h5 h7 h10 h11
              go_wp2_with fail
              have HT5 : Hid (TokS (w5.alloc (.cells #[.slice d0 k2' dp] 25)) (.slice ao n cap) (Lx.lex s).1) := Lib.hid (((((HT2.out.quiet HC3.out).quiet ((Chg.refl [] _).alloc _)).quiet HC4.out).quiet HC5.out).quiet ((Chg.refl [] _).alloc _))
              refine (token_spec _ _ _ HT5 HLL.out t.at_).mono ?_
              rintro e w6 ⟨rfl, hc6⟩
              rw [H4.out]
              have HC6 : Hid (Chg [] w w6) := Lib.hid ((HC35.out.alloc _).trans hc6 (by simp))
              have HT6 := Lib.hid (HT5.out.quiet hc6)
              clear hc6
              go_wp2_with fail
              have HCUT : Hid (sb.extract 0 (t.at_ + t.text.length) = ⟨(s.take (t.at_ + t.text.length)).toArray⟩) := Lib.hid (cut_to HSB _)
              refine parse_r (s := s.take (t.at_ + t.text.length)) (by rw [List.length_take]; have := HL.out; omega) HCUT (fun f0 k4 fp E5 A5 w7 HL7 HC7 HE7 => ?_)
              obtain rfl : E5 = E3 := HE7.out.2.1.symm.trans H10.out
              obtain rfl : A5 = (t.at_ : Int) := HE7.out.2.2.symm.trans H11.out
              have m3 : ((t.kind : Int) != 0) = true := bne_iff_ne.2 (by have := H5.out; omega)
              have m4 : ((E5 : Int) == (E5 : Int)) = true := by simp
              have m5 : ((t.at_ : Int) == (t.at_ : Int)) = true := by simp
              rcases H2.out with h2 | h2
              · have m2 : ((E5 : Int) == 4) = true := by rw [h2]; rfl
                clear h2
                go_wp2_with fail
                refine (token_spec _ _ _ (Lib.hid ((HT6.out.quiet HC7.out).quiet ((Chg.refl [] _).alloc _))) HLL.out t.at_).mono ?_
                rintro e w8 ⟨rfl, hc8⟩
                rw [H4.out]
                have HC8 : Hid (Chg [] w w8) := Lib.hid (((HC6.out.trans HC7.out (by simp)).alloc _).trans hc8 (by simp))
                clear hc8
                go_wp2_with fail
                go_ret
                exact ⟨rfl, HC8.out⟩
              · have m2 : ((E5 : Int) == 4) = false := beq_eq_false_iff_ne.2 (by omega)
                have m6 : ((E5 : Int) == 3) = true := by rw [h2]; rfl
                clear h2
                go_wp2_with fail
                refine (token_spec _ _ _ (Lib.hid ((HT6.out.quiet HC7.out).quiet ((Chg.refl [] _).alloc _))) HLL.out t.at_).mono ?_
                rintro e w8 ⟨rfl, hc8⟩
                rw [H4.out]
                have HC8 : Hid (Chg [] w w8) := Lib.hid (((HC6.out.trans HC7.out (by simp)).alloc _).trans hc8 (by simp))
                clear hc8
                go_wp2_with fail
                go_ret
                exact ⟨rfl, HC8.out⟩
          · have n2 : ((E2 : Int) != 0) = true := bne_iff_ne.2 (by omega)
            clear e2
            go_wp2_with fail
            go_ret
            exact ⟨rfl, HC35.out.alloc _⟩
      · have n0 : ((E0 : Int) != 0) = true := bne_iff_ne.2 (by omega)
        clear e0
        go_wp2_with fail
        go_ret
        exact ⟨rfl, HC13.out.alloc _⟩
    · have q2 : (200 : Int) < (mb.size : Int) := by rw [hmz]; omega
      clear hl hl2 hs0 hm0 hsz hmz
      go_wp2_with fail
      go_ret
      exact ⟨rfl, HC1.out⟩
  · have q1 : (4000 : Int) < (sb.size : Int) := by rw [hsz]; omega
    clear hl hs0 hm0 hsz hmz
    go_wp2_with fail
    go_ret
    exact ⟨rfl, HC1.out⟩
end Go.Proofs.YtmfjebpefneboaaDoor
