/-
  Layer 22: the law LexerPlaces: the walk.
-/
import Derived.Test.YtghhddpaloogmaaDoorLxO
import Derived.Test.YtghhddpaloogmaaDoorLxN
import Derived.Test.YtghhddpaloogmaaDoorLwBegin
import Derived.Deep.RegionHeld3
namespace Go.Proofs.YtghhddpaloogmaaDoor
set_option linter.unusedVariables false
set_option linter.unusedSimpArgs false
open Go Go.RowKit Go.Shelf
namespace Lx
/-- One token further: its place, the gap before it, and what is found behind it. -/
theorem place_step {s : Bytes} {pre : List (Tk × Nat)} {e : Nat} (hg : good (sc 0 s) = true) (he : e ≤ s.length) (h : sc 0 s = pre ++ sc e (s.drop e)) {t : Tk} (ht : ((sc 0 s).map Prod.fst)[pre.length]? = some t) :
    ∃ i n x, x.1 = t ∧ t.at_ = e + i ∧ t.text = (s.drop (e + i)).take n ∧ t.text.length = n ∧ 0 < n ∧ e + i + n ≤ s.length ∧ sc 0 ((s.drop e).take i) = [] ∧ sc 0 s = (pre ++ [x]) ++ sc (e + i + n) (s.drop (e + i + n)) := by
  rw [h, List.getElem?_map, List.getElem?_append_right (Nat.le_refl _), Nat.sub_self] at ht
  cases hh : sc e (s.drop e) with
  | nil =>
    rw [hh] at ht
    cases ht
  | cons x rest =>
    rw [hh] at ht
    simp only [List.getElem?_cons_zero, Option.map_some, Option.some.injEq] at ht
    obtain ⟨i, hi, a1, a2, a3, a4, a5⟩ := sc_first e (s.drop e) x rest hh
    have h0 : x.2 = 0 := (good_iff.1 hg) x (by rw [h, hh]; simp)
    have h5 := a5 h0
    rw [List.length_drop] at hi
    rw [List.drop_drop] at a1
    rw [List.drop_drop, List.drop_drop] at h5
    have hp : (tok (s.drop (e + i))).2.2 = 0 := by rw [a1] at h0; exact h0
    have hlt : e + i < s.length := by omega
    have hd := List.drop_eq_getElem_cons hlt
    have hl : 0 < (tok (s.drop (e + i))).2.1 ∧ (tok (s.drop (e + i))).2.1 ≤ (s.drop (e + i)).length := by
      have := tok_pos (c := s[e + i]) (r := s.drop (e + i + 1)) (by rw [← hd]; exact hp)
      rw [← hd] at this
      exact this
    have hl2 := hl.2
    rw [List.length_drop] at hl2
    refine ⟨i, (tok (s.drop (e + i))).2.1, x, ht, by rw [← ht, a1]; rfl, by rw [← ht, a1]; rfl, ?_, hl.1, by omega, a2, ?_⟩
    · rw [← ht, a1]
      show ((s.drop (e + i)).take _).length = _
      rw [List.length_take]
      omega
    · obtain ⟨T, hT⟩ : ∃ T, T = (tok (s.drop (e + i))).2.1 := ⟨_, rfl⟩
      rw [← hT] at h5 ⊢
      rw [show e + (i + T) = e + i + T by omega] at h5
      rw [List.append_assoc, List.singleton_append, h5, ← hh]
      exact h
theorem place_end {s : Bytes} {pre : List (Tk × Nat)} {e : Nat} (h : sc 0 s = pre ++ sc e (s.drop e)) (hl : pre.length = (sc 0 s).length) : sc 0 (s.drop e) = [] := by
  have h1 := congrArg List.length h
  rw [List.length_append, hl] at h1
  have h2 : (sc e (s.drop e)).length = 0 := by omega
  rw [sc_off'] at h2
  · rw [List.length_map] at h2
    exact List.eq_nil_of_length_eq_zero h2
where
  sc_off' {o : Nat} {s : Bytes} : sc o s = (sc 0 s).map (shift o) := by
    have := sc_shift o 0 s
    rwa [Nat.zero_add] at this
end Lx
theorem places_bad {s : Bytes} (hs : s.length ≤ 3000) (h0 : (Lx.lex s).2.1 ≠ 0) : (Lx.lex s).1 = [] ∧ ∃ i : Nat, (Lx.lex s).2.2 = (i : Int) ∧ i < s.length := by
  rcases Lx.sc_last 0 s with h | ⟨p, t, e, h1, h2, h3⟩
  · exact absurd ((Lx.lex_zero (by omega)).2 h) h0
  · obtain ⟨i, a1, a2, _⟩ := Lx.sc_begin 0 s p t e h1 h2 h3
    rw [Lx.lex_bad (by omega) h1 h2 h3]
    exact ⟨rfl, i, by show (t.at_ : Int) = _; omega, a2⟩
theorem sub_mid (s : Bytes) (i n : Nat) : (⟨s.toArray⟩ : ByteArray).extract i (i + n) = ⟨((s.drop i).take n).toArray⟩ := by
  rw [ByteArray.extract_mk]
  simp
theorem gaps_str (w : World) (sb : ByteArray) (s : Bytes) (h : sb = ⟨s.toArray⟩) (hs : s.length ≤ 1000000) (hg : Lx.sc 0 s = []) : Calls Tryd.prog 15 #[.string sb] w fun e w' => e = .returned (.bool true) ∧ w' = w := by
  subst h
  have := gaps_spec w s hs
  rwa [decide_eq_true hg] at this
set_option maxRecDepth 100000 in
set_option maxHeartbeats 4000000 in
theorem places_walk (w : World) (s : Bytes) (hs0 : s.length ≤ 9223372036854775807) :
    Calls Tryd.prog 4 #[.string ⟨s.toArray⟩] w fun e w' => e = .returned (.bool true) ∧ Chg [] w w' := by
  obtain ⟨sb, hsb⟩ : ∃ sb : ByteArray, sb = ⟨s.toArray⟩ := ⟨_, rfl⟩
  have HSB := Lib.hid hsb
  have hsz : sb.size = s.length := by rw [hsb]; exact size_of s
  rw [← hsb]
  clear hsb
  go_enter Tryd.func4, Tryd.ntmps4
  by_cases hl : s.length ≤ 3000
  · have q1 : ¬ (3000 : Int) < (sb.size : Int) := by rw [hsz]; omega
    have HL := Lib.hid hl
    have HSZ := Lib.hid hsz
    clear hl hsz hs0
    go_wp2_with fail
    refine (head_spec _).mono ?_
    rintro e w1 ⟨rfl, hc1⟩
    have HC1 := Lib.hid hc1
    clear hc1
    go_wp2_with fail
    rw [HSB.out]
    refine (lex_spec _ s (by have := HL.out; omega)).mono ?_
    rintro e w2 ⟨v2, rfl, ht2, hc2⟩
    have HC2 := Lib.hid (HC1.out.trans hc2 (by simp))
    have HT2 := Lib.hid ht2
    rw [← HSB.out]
    clear hc2 ht2
    by_cases h0 : (Lx.lex s).2.1 = 0
    · have hgood := (Lx.lex_zero (by have := HL.out; omega)).1 h0
      have hlx := Lx.lex_good (by have := HL.out; omega) hgood
      rw [hlx] at HT2 ⊢
      have HG := Lib.hid hgood
      have hsl := Lx.sc_length 0 s
      obtain ⟨A, hA⟩ : ∃ A, A = (Lx.sc 0 s).map Prod.fst := ⟨_, rfl⟩
      rw [← hA] at HT2
      have HA := Lib.hid hA
      obtain ⟨ao, cap, rfl, hcap⟩ := HT2.out.form
      obtain ⟨a, ha⟩ : ∃ a, a = A.length := ⟨_, rfl⟩
      rw [← ha] at HT2 hcap ⊢
      have HHA := Lib.hid ha
      have ha3 : a ≤ 3000 := by rw [ha, hA, List.length_map]; have := HL.out; omega
      clear hA ha h0 hgood hlx hsl
      go_wp2_with fail
      go_loopw [7, 8] (fun ev i wr => ∃ (k e : Nat) (pre : List (Lx.Tk × Nat)), i = .int .i64 (k : Int) ∧ ev = .int .i64 (e : Int) ∧ k ≤ a ∧ Hid (pre.length = k ∧ e ≤ s.length ∧ Lx.sc 0 s = pre ++ Lx.sc e (s.drop e)) ∧ Chg [] w2 wr) (fun _ i _ => a - (intOf i).toNat)
      case atStart => exact ⟨0, 0, [], rfl, rfl, Nat.zero_le _, Lib.hid ⟨rfl, Nat.zero_le _, rfl⟩, Chg.refl _ _⟩
      case round =>
        obtain ⟨k, e, pre, rfl, rfl, hk, HP, hc⟩ := hrel
        have HC := Lib.hid hc
        clear hc
        by_cases hlt : k < a
        · obtain ⟨t, ht⟩ : ∃ t, A[k]? = some t := ⟨A[k]'(by rw [← HHA.out]; exact hlt), by simp⟩
          obtain ⟨g, off, rfl, _, c1, _, c3⟩ := (HT2.out.quiet HC.out).get ht
          have hst := Lx.place_step HG.out HP.out.2.1 HP.out.2.2 (t := t) (by rw [HP.out.1, ← HA.out]; exact ht)
          obtain ⟨i, n, x, hxt, a1, a2, a3, a4, a5, a6, a7⟩ := hst
          obtain ⟨m, hm⟩ : ∃ m, m = e + i := ⟨_, rfl⟩
          rw [← hm] at a1 a2 a5 a7
          have HM := Lib.hid hm
          have hss := HL.out
          have hx1 : sb.extract m (m + n) = ⟨t.text.toArray⟩ := by rw [HSB.out, sub_mid, a2]
          obtain ⟨gb, hx2⟩ : ∃ gb, sb.extract e m = gb := ⟨_, rfl⟩
          have HGB : Hid (gb = ⟨((s.drop e).take i).toArray⟩) := Lib.hid (by rw [← hx2, HSB.out, hm, sub_mid])
          have HGN := Lib.hid a6
          have HGL : Hid (((s.drop e).take i).length ≤ 1000000) := Lib.hid (by rw [List.length_take]; omega)
          have HN : Hid ((pre ++ [x]).length = k + 1 ∧ m + n ≤ s.length ∧ Lx.sc 0 s = (pre ++ [x]) ++ Lx.sc (m + n) (s.drop (m + n))) := Lib.hid ⟨by rw [List.length_append, HP.out.1]; rfl, a5, a7⟩
          rw [a1] at c3
          have i1 : (0 : Int) ≤ (k : Int) := by omega
          have i2 : (k : Int) < (a : Int) := by omega
          have j1 : ¬ (m : Int) < (e : Int) := by omega
          have j2 : ((n : Int) == 0) = false := beq_eq_false_iff_ne.2 (by omega)
          have j3 : IntKind.i64.wrap ((m : Int) + (n : Int)) = (m : Int) + (n : Int) := IntWalk.i64_in _ (by omega)
          have j4 : ¬ (sb.size : Int) < (m : Int) + (n : Int) := by rw [HSZ.out]; omega
          have j5 : (0 : Int) ≤ (m : Int) := by omega
          have j6 : (m : Int) ≤ (m : Int) + (n : Int) := by omega
          have j7 : (m : Int) + (n : Int) ≤ (sb.size : Int) := by rw [HSZ.out]; omega
          have j8 : (0 : Int) ≤ (e : Int) := by omega
          have j9 : (e : Int) ≤ (m : Int) := by omega
          have j10 : (m : Int) ≤ (sb.size : Int) := by rw [HSZ.out]; omega
          have j11 : ((m : Int) + (n : Int)).toNat = m + n := by omega
          have hm3 : m + n ≤ 3000 := by omega
          clear ht hxt a1 a2 a5 a6 a7 hm hss
          go_upto_region 12 with fail
          go_region_held3 (fun W => W.cell? ⟨g, off + k * 4 + 1, none⟩ = some (.string ⟨t.text.toArray⟩) ∧ Chg [] wr W)
            (first | exact ⟨c1, ⟨rfl, rfl, rfl, Nat.le_refl _, fun _ _ _ => rfl⟩⟩)
            (first | (go_at_call 15; refine (gaps_str _ _ _ HGB.out HGL.out HGN.out).mono ?_; rintro e wx ⟨rfl, rfl⟩))
          go_wp2_with fail
          refine ⟨⟨k + 1, m + n, pre ++ [x], vint (by omega), vint (by omega), by omega, HN, ⟨HC.out.os, HC.out.tape, HC.out.output, HC.out.size, HC.out.block⟩⟩, ?_⟩
          simp [intOf]
          omega
        · have hka : k = a := by omega
          have i2 : ¬ (k : Int) < (a : Int) := by omega
          have HE := Lib.hid (Lx.place_end HP.out.2.2 (by rw [HP.out.1, hka, HHA.out, HA.out, List.length_map]))
          have he := HP.out.2.1
          have HCX := Lib.hid (HC2.out.trans HC.out (by simp))
          have j8 : (0 : Int) ≤ (e : Int) := by omega
          have j9 : (e : Int) ≤ (sb.size : Int) := by rw [HSZ.out]; omega
          have HDS : Hid (sb.extract e sb.size = ⟨(s.drop e).toArray⟩) := Lib.hid (by rw [HSZ.out, HSB.out, sub_drop])
          clear hka he
          go_wp2_with fail
          refine (gaps_str _ _ _ HDS.out (by have := HL.out; rw [List.length_drop]; omega) HE.out).mono ?_
          rintro e wx ⟨rfl, rfl⟩
          go_wp2_with fail
          go_ret
          exact ⟨rfl, HCX.out⟩
    · obtain ⟨h1, i, h2, h3⟩ := places_bad HL.out h0
      have n1 : (((Lx.lex s).2.1 : Int) != 0) = true := bne_iff_ne.2 (by omega)
      rw [h1] at HT2
      rw [h2]
      obtain ⟨ao, cap, rfl, hcap⟩ := HT2.out.form
      have n2 : (0 : Int) ≤ (i : Int) := by omega
      have n3 : (i : Int) < (sb.size : Int) := by rw [HSZ.out]; omega
      clear h0 h1 h2 h3
      go_wp2_with fail
      go_ret
      exact ⟨rfl, HC2.out⟩
  · have q1 : (3000 : Int) < (sb.size : Int) := by rw [hsz]; omega
    clear hl hsz hs0
    go_wp2_with fail
    refine (head_spec _).mono ?_
    rintro e w1 ⟨rfl, hc1⟩
    have HC1 := Lib.hid hc1
    clear hc1
    go_wp2_with fail
    go_ret
    exact ⟨rfl, HC1.out⟩
end Go.Proofs.YtghhddpaloogmaaDoor
