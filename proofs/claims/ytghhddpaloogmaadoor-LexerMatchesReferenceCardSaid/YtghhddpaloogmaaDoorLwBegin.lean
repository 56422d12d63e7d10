/-
  Layer 16: the law LexerBeginnings: the walk.
-/
import Derived.Test.YtghhddpaloogmaaDoorLxK
import Derived.Test.YtghhddpaloogmaaDoorLxL
namespace Go.Proofs.YtghhddpaloogmaaDoor
set_option linter.unusedVariables false
set_option linter.unusedSimpArgs false
open Go Go.RowKit Go.Shelf

/-- What Beginnings asks. -/
theorem begin_law {s : Bytes} (hs : s.length ≤ 3000) : ((Lx.lex s).2.1 = 0 ∧ (Lx.lex s).2.2 = 0) ∨
    ∃ i : Nat, (Lx.lex s).2.1 ≠ 0 ∧ (Lx.lex s).2.2 = (i : Int) ∧ i < s.length ∧ (Lx.lex (s.take i)).2.1 = 0 ∧ (Lx.lex (s.drop i)).2.1 = (Lx.lex s).2.1 ∧ (Lx.lex (s.drop i)).2.2 = 0 := by
  rcases Lx.sc_last 0 s with h | ⟨p, t, e, h1, h2, h3⟩
  · left
    rw [Lx.lex_good (by omega) h]
    exact ⟨rfl, rfl⟩
  · right
    obtain ⟨i, a1, a2, a3, t', a4, a5⟩ := Lx.sc_begin 0 s p t e h1 h2 h3
    rw [Lx.lex_bad (by omega) h1 h2 h3]
    refine ⟨i, h2, by show (t.at_ : Int) = _; omega, a2, (Lx.lex_zero (by rw [List.length_take]; omega)).2 (by rw [a3]; exact h3), ?_⟩
    rw [Lx.lex_bad (p := []) (by rw [List.length_drop]; omega) a4 h2 rfl, a5]
    exact ⟨rfl, rfl⟩
theorem sub_take (s : Bytes) (i : Nat) : (⟨s.toArray⟩ : ByteArray).extract 0 i = ⟨(s.take i).toArray⟩ := by
  rw [ByteArray.extract_mk]
  simp
theorem sub_drop (s : Bytes) (i : Nat) : (⟨s.toArray⟩ : ByteArray).extract i s.length = ⟨(s.drop i).toArray⟩ := by
  rw [ByteArray.extract_mk]
  simp [List.take_of_length_le]
theorem size_of (s : Bytes) : (⟨s.toArray⟩ : ByteArray).size = s.length := by show s.toArray.size = _; simp
theorem begin_walk (w : World) (s : Bytes) (hs0 : s.length ≤ 9223372036854775807) :
    Calls Tryd.prog 7 #[.string ⟨s.toArray⟩] w fun e w' => e = .returned (.bool true) ∧ Chg [] w w' := by
  obtain ⟨sb, hsb⟩ : ∃ sb : ByteArray, sb = ⟨s.toArray⟩ := ⟨_, rfl⟩
  have HSB := Lib.hid hsb
  have hsz : sb.size = s.length := by rw [hsb]; exact size_of s
  rw [← hsb]
  clear hsb
  go_enter Tryd.func7, Tryd.ntmps7
  by_cases hl : s.length ≤ 3000
  · have q1 : ¬ (3000 : Int) < (sb.size : Int) := by rw [hsz]; omega
    have HL := Lib.hid hl
    have HSZ := Lib.hid hsz
    clear hl hsz hs0
    go_wp2_with fail
    refine (head_spec _).mono ?_
    rintro e w1 ⟨rfl, hc1⟩
    have HC1 := Lib.hid hc1
    clear hc1
    go_wp2_with fail
    rw [HSB.out]
    refine (lex_spec _ s (by have := HL.out; omega)).mono ?_
    rintro e w2 ⟨v2, rfl, ht2, hc2⟩
    have HC2 := Lib.hid (HC1.out.trans hc2 (by simp))
    rw [← HSB.out]
    rcases begin_law HL.out with ⟨h1, h2⟩ | ⟨i, h1, h2, h3, h4, h5, h6⟩
    · rw [h1, h2]
      clear h1 h2 hc2 ht2
      go_wp2_with fail
      go_ret
      exact ⟨rfl, HC2.out⟩
    · have H4 := Lib.hid h4
      have H5 := Lib.hid h5
      have H6 := Lib.hid h6
      have n1 : (((Lx.lex s).2.1 : Int) == 0) = false := beq_eq_false_iff_ne.2 (by omega)
      obtain ⟨er, her⟩ : ∃ er, (Lx.lex s).2.1 = er := ⟨_, rfl⟩
      have HER := Lib.hid her
      rw [h2]
      rw [her] at n1 ⊢
      have n2 : ¬ (i : Int) < 0 := by omega
      have n3 : ¬ (sb.size : Int) ≤ (i : Int) := by have := HSZ.out; omega
      have n4 : (i : Int) ≤ (sb.size : Int) := by omega
      have n5 : (0 : Int) ≤ (i : Int) := by omega
      have H3 := Lib.hid h3
      clear h1 h2 h3 h4 h5 h6 her hc2 ht2
      go_wp2_with fail
      rw [HSB.out, sub_take]
      refine (lex_spec _ (s.take i) (by have := HL.out; rw [List.length_take]; omega)).mono ?_
      rintro e w3 ⟨v3, rfl, _, hc3⟩
      have HC3 := Lib.hid (HC2.out.trans hc3 (by simp))
      rw [H4.out, ← HSB.out]
      clear hc3
      go_wp2_with fail
      rw [HSZ.out, HSB.out, sub_drop]
      refine (lex_spec _ (s.drop i) (by have := HL.out; rw [List.length_drop]; omega)).mono ?_
      rintro e w4 ⟨v4, rfl, _, hc4⟩
      have HC4 := Lib.hid (HC3.out.trans hc4 (by simp))
      rw [H5.out, H6.out, HER.out]
      clear hc4
      go_wp2_with fail
      go_ret
      exact ⟨rfl, HC4.out⟩
  · have q1 : (3000 : Int) < (sb.size : Int) := by rw [hsz]; omega
    clear hl hsz hs0
    go_wp2_with fail
    refine (head_spec _).mono ?_
    rintro e w1 ⟨rfl, hc1⟩
    have HC1 := Lib.hid hc1
    clear hc1
    go_wp2_with fail
    go_ret
    exact ⟨rfl, HC1.out⟩
end Go.Proofs.YtghhddpaloogmaaDoor
