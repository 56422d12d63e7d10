/-
  Layer 22: the law LexerAgain: the walk.
-/
import Derived.Test.YtghhddpaloogmaaDoorLxR
import Derived.Test.YtghhddpaloogmaaDoorLwBegin
namespace Go.Proofs.YtghhddpaloogmaaDoor
set_option linter.unusedVariables false
set_option linter.unusedSimpArgs false
open Go Go.RowKit Go.Shelf

theorem again_law {s : Bytes} (hs : s.length ≤ 2000) : (Lx.lex s).2.1 ≠ 0 ∨ ((Lx.lex s).2.1 = 0 ∧ (Lx.lex s).1.length ≤ 2000 ∧ (Lx.wr (Lx.lex s).1).length ≤ 4000 ∧
    (Lx.lex (Lx.wr (Lx.lex s).1)).2.1 = 0 ∧ (Lx.lex (Lx.wr (Lx.lex s).1)).1.length ≤ 4000 ∧ (Lx.lex s).1.map Lx.bare = (Lx.lex (Lx.wr (Lx.lex s).1)).1.map Lx.bare) := by
  by_cases h0 : (Lx.lex s).2.1 = 0
  · right
    have hg := (Lx.lex_zero (by omega)).1 h0
    have hl := Lx.sc_length 0 s
    have hw := Lx.wr_len 0 s hg
    have h1 := Lx.sc_wr ((Lx.sc 0 s).map Prod.fst) 0 (fun t ht => by
      obtain ⟨x, hx, rfl⟩ := List.mem_map.1 ht
      exact Lx.sc_ones _ 0 s rfl x hx ((Lx.good_iff.1 hg) x hx))
    have hl2 := Lx.sc_length 0 (Lx.wr ((Lx.sc 0 s).map Prod.fst))
    rw [Lx.lex_good (by omega) hg]
    rw [Lx.lex_good (by omega) h1.1]
    refine ⟨rfl, by rw [List.length_map]; omega, by show (Lx.wr ((Lx.sc 0 s).map Prod.fst)).length ≤ 4000; omega, rfl, by rw [List.length_map]; omega, ?_⟩
    have h2 := h1.2
    rw [← h2, List.map_map]
    rfl
  · exact .inl h0
theorem again_walk (w : World) (s : Bytes) (hs0 : s.length ≤ 9223372036854775807) :
    Calls Tryd.prog 5 #[.string ⟨s.toArray⟩] w fun e w' => e = .returned (.bool true) ∧ Chg [] w w' := by
  obtain ⟨sb, hsb⟩ : ∃ sb : ByteArray, sb = ⟨s.toArray⟩ := ⟨_, rfl⟩
  have HSB := Lib.hid hsb
  have hsz : sb.size = s.length := by rw [hsb]; exact size_of s
  rw [← hsb]
  clear hsb
  go_enter Tryd.func5, Tryd.ntmps5
  by_cases hl : s.length ≤ 2000
  · have q1 : ¬ (2000 : Int) < (sb.size : Int) := by rw [hsz]; omega
    have HL := Lib.hid hl
    clear hl hsz hs0
    go_wp2_with fail
    refine (head_spec _).mono ?_
    rintro e w1 ⟨rfl, hc1⟩
    have HC1 := Lib.hid hc1
    clear hc1
    go_wp2_with fail
    rw [HSB.out]
    refine (lex_spec _ s (by have := HL.out; omega)).mono ?_
    rintro e w2 ⟨v2, rfl, ht2, hc2⟩
    have HC2 := Lib.hid (HC1.out.trans hc2 (by simp))
    have HT2 := Lib.hid ht2
    rw [← HSB.out]
    clear hc2 ht2
    rcases again_law HL.out with h1 | ⟨h1, h2, h3, h4, h5, h6⟩
    · have n1 : (((Lx.lex s).2.1 : Int) != 0) = true := bne_iff_ne.2 (by omega)
      clear h1
      go_wp2_with fail
      go_ret
      exact ⟨rfl, HC2.out⟩
    · rw [h1]
      have H4 := Lib.hid h4
      have H6 := Lib.hid (decide_eq_true h6)
      have H25 := Lib.hid (And.intro h2 h5)
      have H3 := Lib.hid h3
      clear h1 h2 h3 h4 h5 h6
      go_wp2_with fail
      refine (written_spec _ v2 _ HT2 (by have := H25.out.1; omega) (Lib.hid (by have := H3.out; omega))).mono ?_
      rintro e w3 ⟨rfl, rfl⟩
      go_wp2_with fail
      refine (lex_spec _ (Lx.wr (Lx.lex s).1) (by have := H3.out; omega)).mono ?_
      rintro e w4 ⟨v4, rfl, ht4, hc4⟩
      have HC4 := Lib.hid (HC2.out.trans hc4 (by simp))
      have HT4 := Lib.hid ht4
      have HT3 := Lib.hid (HT2.out.quiet hc4)
      rw [H4.out]
      clear hc4 ht4
      go_wp2_with fail
      refine (alike_spec _ v2 v4 _ _ HT3 HT4 (by have := H25.out.1; omega) (by have := H25.out.2; omega)).mono ?_
      rintro e w5 ⟨rfl, hc5⟩
      have HC5 := Lib.hid (HC4.out.trans hc5 (by simp))
      rw [H6.out]
      clear hc5
      go_wp2_with fail
      go_ret
      exact ⟨rfl, HC5.out⟩
  · have q1 : (2000 : Int) < (sb.size : Int) := by rw [hsz]; omega
    clear hl hsz hs0
    go_wp2_with fail
    refine (head_spec _).mono ?_
    rintro e w1 ⟨rfl, hc1⟩
    have HC1 := Lib.hid hc1
    clear hc1
    go_wp2_with fail
    go_ret
    exact ⟨rfl, HC1.out⟩
end Go.Proofs.YtghhddpaloogmaaDoor
