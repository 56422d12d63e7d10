/-
  Layer 24: the law LexerMatchesReference: the walk.
-/
import Derived.Test.YtghhddpaloogmaaDoorLxU
namespace Go.Proofs.YtghhddpaloogmaaDoor
set_option linter.unusedVariables false
set_option linter.unusedSimpArgs false
open Go Go.RowKit Go.Shelf

theorem fin_in : ∀ (l : List (Lx.Tk × Nat)) (k : Nat) (out : List Lx.Tk), (Lx.fin k out l).1 = [] ∨ (Lx.fin k out l).1 = out ++ l.map Prod.fst
  | [], k, out => .inr (by simp [Lx.fin])
  | (t, e) :: r, k, out => by
    unfold Lx.fin
    split
    · exact .inl rfl
    · split
      · exact .inl rfl
      · rcases fin_in r (k + 1) (out ++ [t]) with h | h
        · exact .inl h
        · exact .inr (by rw [h]; simp)
theorem match_law (s : Bytes) (hs : s.length ≤ 21000) : (Lx.lex s).1.length ≤ 1000000 ∧ ∀ t ∈ (Lx.lex s).1, t.at_ ≤ 1000000 := by
  have hsl := Lx.sc_length 0 s
  unfold Lx.lex
  split
  · exact ⟨by simp, by simp⟩
  · rcases fin_in (Lx.scan s.length 0 s) 0 [] with h | h
    · rw [h]
      exact ⟨by simp, by simp⟩
    · rw [h, List.nil_append]
      refine ⟨by rw [List.length_map]; have : (Lx.scan s.length 0 s).length ≤ s.length := hsl; omega, fun t ht => ?_⟩
      obtain ⟨x, hx, rfl⟩ := List.mem_map.1 ht
      have := Lx.sc_at 0 s x hx
      omega
theorem match_same (l : List Lx.Tk) : decide (l.map (Lx.tshift 0) = l) = true := by
  rw [decide_eq_true_iff]
  conv => rhs; rw [← List.map_id l]
  exact List.map_congr_left (fun x _ => rfl)
theorem match_walk (w : World) (s : Bytes) (hs0 : s.length ≤ 9223372036854775807) :
    Calls Tryd.prog 3 #[.string ⟨s.toArray⟩] w fun e w' => e = .returned (.bool true) ∧ Chg [] w w' := by
  obtain ⟨sb, hsb⟩ : ∃ sb : ByteArray, sb = ⟨s.toArray⟩ := ⟨_, rfl⟩
  have HSB := Lib.hid hsb
  have hsz : sb.size = s.length := by rw [hsb]; exact size_of s
  rw [← hsb]
  clear hsb
  go_enter Tryd.func3, Tryd.ntmps3
  by_cases hl : s.length ≤ 21000
  · have q1 : ¬ (21000 : Int) < (sb.size : Int) := by rw [hsz]; omega
    have HL := Lib.hid hl
    have HLAW := Lib.hid (match_law s hl)
    clear hl hsz hs0
    go_wp2_with fail
    refine (head_spec _).mono ?_
    rintro e w1 ⟨rfl, hc1⟩
    have HC1 := Lib.hid hc1
    clear hc1
    go_wp2_with fail
    rw [HSB.out]
    refine (lex_spec _ s (by have := HL.out; omega)).mono ?_
    rintro e w2 ⟨v2, rfl, ht2, hc2⟩
    have HC2 := Lib.hid (HC1.out.trans hc2 (by simp))
    have HT2 := Lib.hid ht2
    rw [← HSB.out]
    clear hc2 ht2
    go_wp2_with fail
    rw [HSB.out]
    refine (ref_spec _ s (by have := HL.out; omega)).mono ?_
    rintro e w3 ⟨v3, rfl, ht3, hc3⟩
    have HC3 := Lib.hid (HC2.out.trans hc3 (by simp))
    have HT3 := Lib.hid ht3
    have HT23 := Lib.hid (HT2.out.quiet hc3)
    rw [← HSB.out]
    clear hc3 ht3
    have HSM := Lib.hid (match_same (Lx.lex s).1)
    go_wp2_with fail
    refine (same_spec _ v2 v3 _ _ 0 HT23 HT3 HLAW.out.1 HLAW.out.1 (by decide) (Lib.hid HLAW.out.2)).mono ?_
    rintro e w4 ⟨rfl, hc4⟩
    rw [HSM.out]
    have HC4 := Lib.hid (HC3.out.trans hc4 (by simp))
    clear hc4
    go_wp2_with fail
    go_ret
    exact ⟨rfl, HC4.out⟩
  · have q1 : (21000 : Int) < (sb.size : Int) := by rw [hsz]; omega
    clear hl hsz hs0
    go_wp2_with fail
    refine (head_spec _).mono ?_
    rintro e w1 ⟨rfl, hc1⟩
    have HC1 := Lib.hid hc1
    clear hc1
    go_wp2_with fail
    go_ret
    exact ⟨rfl, HC1.out⟩
end Go.Proofs.YtghhddpaloogmaaDoor
