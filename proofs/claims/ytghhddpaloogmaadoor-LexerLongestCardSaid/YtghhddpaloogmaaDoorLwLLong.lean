/-
  Layer 22: the law LexerLongest: the walk.
-/
import Derived.Test.YtghhddpaloogmaaDoorLxR
import Derived.Test.YtghhddpaloogmaaDoorLwBegin
import Derived.Test.YtghhddpaloogmaaDoorLxN
import Derived.Deep.RegionHeld3
namespace Go.Proofs.YtghhddpaloogmaaDoor
set_option linter.unusedVariables false
set_option linter.unusedSimpArgs false
open Go Go.RowKit Go.Shelf
namespace Lx
/-- Where a token lies, and what is found behind it. -/
theorem sc_mem : ∀ (p : List (Tk × Nat)) (o : Nat) (s : Bytes) (x : Tk × Nat) (q : List (Tk × Nat)), sc o s = p ++ x :: q → good (p ++ [x]) = true →
    ∃ i, ∃ h : i < s.length, x = (mk (o + i) (s.drop i), 0) ∧ (tok (s.drop i)).2.2 = 0 ∧ cls s[i] ≠ 1 ∧ cls s[i] ≠ 2 ∧ sc (o + i + (tok (s.drop i)).2.1) (s.drop (i + (tok (s.drop i)).2.1)) = q
  | [], o, s, x, q, h, hg => by
    obtain ⟨i, hi, a1, _, a3, a4, a5⟩ := sc_first o s x q h
    have h0 : x.2 = 0 := (good_iff.1 hg) x (by simp)
    have h1 : (tok (s.drop i)).2.2 = 0 := by rw [a1] at h0; exact h0
    exact ⟨i, hi, by rw [a1, h1], h1, a3, a4, a5 h0⟩
  | y :: p, o, s, x, q, h, hg => by
    obtain ⟨i, hi, a1, _, a3, a4, a5⟩ := sc_first o s y (p ++ x :: q) h
    have h0 : y.2 = 0 := (good_iff.1 hg) y (by simp)
    obtain ⟨j, hj, b1, b2, b3, b4, b5⟩ := sc_mem p _ _ x q (a5 h0) (good_iff.2 fun z hz => (good_iff.1 hg) z (by rw [List.cons_append]; exact List.mem_cons_of_mem _ hz))
    have hj' := hj
    rw [List.length_drop] at hj'
    have hget : (s.drop (i + (tok (s.drop i)).2.1))[j] = s[i + (tok (s.drop i)).2.1 + j] := List.getElem_drop
    rw [hget] at b3 b4
    rw [List.drop_drop] at b1 b2 b5
    rw [List.drop_drop] at b5
    refine ⟨i + (tok (s.drop i)).2.1 + j, by omega, by rw [b1]; congr 2; omega, b2, b3, b4, ?_⟩
    rw [show o + (i + (tok (s.drop i)).2.1 + j) = o + i + (tok (s.drop i)).2.1 + j by omega, show i + (tok (s.drop i)).2.1 + j + (tok (s.drop (i + (tok (s.drop i)).2.1 + j))).2.1 = i + (tok (s.drop i)).2.1 + (j + (tok (s.drop (i + (tok (s.drop i)).2.1 + j))).2.1) by omega]
    exact b5
/-- Two tokens that follow each other directly are not one. -/
theorem sc_two {o : Nat} {s : Bytes} {p q : List (Tk × Nat)} {x y : Tk × Nat} (h : sc o s = p ++ x :: y :: q) (hg : good (p ++ [x, y]) = true) (ha : x.1.at_ + x.1.text.length = y.1.at_) :
    2 ≤ (sc 0 (x.1.text ++ y.1.text)).length := by
  obtain ⟨i, hi, a1, a2, a3, a4, a5⟩ := sc_mem p o s x (y :: q) h (good_iff.2 fun z hz => (good_iff.1 hg) z (by
    rcases List.mem_append.1 hz with h | h
    · simp [h]
    · simp at h
      simp [h]))
  have hy0 : y.2 = 0 := (good_iff.1 hg) y (by simp)
  have hd := List.drop_eq_getElem_cons hi
  obtain ⟨n, hn⟩ : ∃ n, n = (tok (s.drop i)).2.1 := ⟨_, rfl⟩
  rw [← hn] at a5
  obtain ⟨j, hj, b1, _, b3, b4, b5⟩ := sc_first _ _ y q a5
  have hp : 0 < n ∧ n ≤ (s.drop i).length := by
    have := tok_pos (c := s[i]) (r := s.drop (i + 1)) (by rw [← hd]; exact a2)
    rw [← hd, ← hn] at this
    exact this
  have hxt : x.1.text = (s.drop i).take n := by rw [a1, hn]; rfl
  have hxl : x.1.text.length = n := by rw [hxt, List.length_take]; omega
  have hxa : x.1.at_ = o + i := by rw [a1]; rfl
  have hya : y.1.at_ = o + i + n + j := by rw [b1]; rfl
  have hj0 : j = 0 := by omega
  subst hj0
  rw [List.drop_zero] at b1
  have hyt : y.1.text = (s.drop (i + n)).take (tok (s.drop (i + n))).2.1 := by rw [b1]; rfl
  have hy2 : (tok (s.drop (i + n))).2.2 = 0 := by rw [b1] at hy0; exact hy0
  have hj' := hj
  rw [List.length_drop] at hj'
  have hin : i + n < s.length := by omega
  have hd2 := List.drop_eq_getElem_cons hin
  have hg2 : (s.drop (i + n))[0] = s[i + n] := by rw [List.getElem_drop]; rfl
  rw [hg2] at b3 b4
  obtain ⟨m, hm⟩ : ∃ m, m = (tok (s.drop (i + n))).2.1 := ⟨_, rfl⟩
  rw [← hm] at hyt
  have hp2 : 0 < m := by
    have := tok_pos (c := s[i + n]) (r := s.drop (i + n + 1)) (by rw [← hd2]; exact hy2)
    rw [← hd2, ← hm] at this
    exact this.1
  have hcat : x.1.text ++ y.1.text = (s.drop i).take (n + m) := by
    rw [hxt, hyt, ← List.drop_drop, ← List.take_add]
  have htk := tok_cut (c := s[i]) (r := s.drop (i + 1)) (i := n + m) (by rw [← hd]; exact a2) (by rw [← hd, ← hn]; omega) a3 a4
  rw [← hd] at htk
  obtain ⟨r, hr⟩ : ∃ r, (s.drop i).take (n + m) = s[i] :: r := by
    rw [hd, show n + m = (n + m - 1) + 1 by omega, List.take_succ_cons]
    exact ⟨_, rfl⟩
  have hdrop : ((s.drop i).take (n + m)).drop n = y.1.text := by
    rw [List.drop_take, List.drop_drop, show n + m - n = m by omega, hyt]
  rw [hcat, hr]
  rw [hr] at htk hdrop
  rw [sc_tok a3 a4 (by rw [htk]; exact a2), htk, ← hn, hdrop, hyt, hd2, show m = (m - 1) + 1 by omega, List.take_succ_cons, List.length_cons]
  have := sc_some (o := 0 + n) (r := (s.drop (i + n + 1)).take (m - 1)) b3 b4
  cases hh : sc (0 + n) (s[i + n] :: (s.drop (i + n + 1)).take (m - 1)) with
  | nil => exact absurd hh this
  | cons a b => simp
end Lx
/-- What Longest asks. -/
theorem long_law {s : Bytes} (hs : s.length ≤ 3000) (h0 : (Lx.lex s).2.1 = 0) : (Lx.lex s).1.length ≤ 3000 ∧ ∀ k x y, (Lx.lex s).1[k]? = some x → (Lx.lex s).1[k + 1]? = some y →
    x.at_ ≤ 3000 ∧ x.text.length ≤ 3000 ∧ y.text.length ≤ 3000 ∧ (x.at_ + x.text.length = y.at_ → ¬ ((Lx.lex (x.text ++ y.text)).2.1 = 0 ∧ (Lx.lex (x.text ++ y.text)).1.length = 1)) := by
  have hg := (Lx.lex_zero (by omega)).1 h0
  rw [Lx.lex_good (by omega) hg]
  have hsl := Lx.sc_length 0 s
  refine ⟨by rw [List.length_map]; omega, fun k x y hx hy => ?_⟩
  have text_le : ∀ z ∈ Lx.sc 0 s, z.1.text.length ≤ 3000 := by
    intro z hz
    obtain ⟨p, q, hpq⟩ := List.append_of_mem hz
    obtain ⟨i, a1, a2, _⟩ := Lx.sc_insert [] (fun c r h => by cases h) 0 s p z q hpq (Lx.good_iff.2 fun y hy => (Lx.good_iff.1 hg) y (by
      rw [hpq]
      rcases List.mem_append.1 hy with h | h
      · simp [h]
      · simp at h
        simp [h]))
    omega
  simp only [List.getElem?_map, Option.map_eq_some_iff] at hx hy
  obtain ⟨x', hx', rfl⟩ := hx
  obtain ⟨y', hy', rfl⟩ := hy
  have hat := Lx.sc_at 0 s x' (List.mem_of_getElem? hx')
  have hxt := text_le x' (List.mem_of_getElem? hx')
  have hyt := text_le y' (List.mem_of_getElem? hy')
  refine ⟨by omega, hxt, hyt, fun hadj hno => ?_⟩
  have hk := (List.getElem?_eq_some_iff.1 hy').1
  have e1 : Lx.sc 0 s = (Lx.sc 0 s).take k ++ x' :: y' :: (Lx.sc 0 s).drop (k + 2) := by
    have h1 : (Lx.sc 0 s)[k] = x' := (List.getElem?_eq_some_iff.1 hx').2
    have h2 : (Lx.sc 0 s)[k + 1] = y' := (List.getElem?_eq_some_iff.1 hy').2
    have h3 := List.drop_eq_getElem_cons (show k < (Lx.sc 0 s).length by omega)
    have h4 := List.drop_eq_getElem_cons hk
    rw [h4, h1, h2] at h3
    rw [← h3, List.take_append_drop]
  have h2 := Lx.sc_two e1 (Lx.good_iff.2 fun z hz => (Lx.good_iff.1 hg) z (by
    rw [e1]
    rcases List.mem_append.1 hz with h | h
    · exact List.mem_append.2 (.inl h)
    · refine List.mem_append.2 (.inr ?_)
      simp at h
      rcases h with h | h <;> simp [h])) hadj
  have hll : (x'.1.text ++ y'.1.text).length ≤ 5000 ∨ 5000 < (x'.1.text ++ y'.1.text).length := by omega
  rcases hll with hll | hll
  · have hz := (Lx.lex_zero hll).1 hno.1
    rw [Lx.lex_good hll hz] at hno
    have h9 := hno.2
    rw [List.length_map] at h9
    omega
  · have hsum : (x'.1.text ++ y'.1.text).length ≤ 3000 := by
      have h5 := Lx.wr_len 0 s hg
      rw [List.length_append] at hll ⊢
      obtain ⟨i, a1, a2, _, _, a5⟩ := Lx.sc_insert [] (fun c r h => by cases h) 0 s (((Lx.sc 0 s).take k) ++ [x']) y' ((Lx.sc 0 s).drop (k + 2)) (by rw [List.append_assoc, List.singleton_append]; exact e1) (Lx.good_iff.2 fun z hz => (Lx.good_iff.1 hg) z (by
        rw [e1]
        simp only [List.mem_append, List.mem_cons, List.not_mem_nil, or_false] at hz ⊢
        rcases hz with (h | h) | h
        · exact .inl h
        · exact .inr (.inl h)
        · exact .inr (.inr (.inl h))))
      have := hadj
      omega
    omega
theorem str_two (a b : Bytes) : (⟨a.toArray⟩ : ByteArray) ++ ⟨b.toArray⟩ = ⟨(a ++ b).toArray⟩ := by
  apply ByteArray.ext
  apply Array.ext'
  simp
theorem lex_two (w : World) (a b : Bytes) (h : (a ++ b).length ≤ 1000000) :
    Calls Tryd.prog 12 #[.string ((⟨a.toArray⟩ : ByteArray) ++ ⟨b.toArray⟩)] w fun e w' => ∃ v, e = .returned (.tuple #[v, .int .i64 (Lx.lex (a ++ b)).2.1, .int .i64 (Lx.lex (a ++ b)).2.2]) ∧ TokS w' v (Lx.lex (a ++ b)).1 ∧ Chg [] w w' := by
  rw [str_two]
  exact lex_spec w _ h
/-- What stays through region 9. -/
def Keep9 (w0 : World) (a b : Addr) (u v : Value) (W : World) : Prop := W.cell? a = some u ∧ W.cell? b = some v ∧ Chg [] w0 W
theorem keep9 {w0 W W' : World} {a b : Addr} {u v : Value} (h1 : W.cell? a = some u) (h2 : W.cell? b = some v) (h3 : Chg [] w0 W) (hc : Chg [] W W') : W'.cell? a = some u ∧ W'.cell? b = some v ∧ Chg [] w0 W' :=
  ⟨(World.cell?_of_block (hc.block a.block (World.block_lt_of_cell? _ _ h1) (by simp))).trans h1, (World.cell?_of_block (hc.block b.block (World.block_lt_of_cell? _ _ h2) (by simp))).trans h2, h3.trans hc (by simp)⟩
set_option maxRecDepth 100000 in
set_option maxHeartbeats 2000000 in
theorem long_walk (w : World) (s : Bytes) (hs0 : s.length ≤ 9223372036854775807) :
    Calls Tryd.prog 9 #[.string ⟨s.toArray⟩] w fun e w' => e = .returned (.bool true) ∧ Chg [] w w' := by
  obtain ⟨sb, hsb⟩ : ∃ sb : ByteArray, sb = ⟨s.toArray⟩ := ⟨_, rfl⟩
  have HSB := Lib.hid hsb
  have hsz : sb.size = s.length := by rw [hsb]; exact size_of s
  rw [← hsb]
  clear hsb
  go_enter Tryd.func9, Tryd.ntmps9
  by_cases hl : s.length ≤ 3000
  · have q1 : ¬ (3000 : Int) < (sb.size : Int) := by rw [hsz]; omega
    have HL := Lib.hid hl
    clear hl hsz hs0
    go_wp2_with fail
    refine (head_spec _).mono ?_
    rintro e w1 ⟨rfl, hc1⟩
    have HC1 := Lib.hid hc1
    clear hc1
    go_wp2_with fail
    rw [HSB.out]
    refine (lex_spec _ s (by have := HL.out; omega)).mono ?_
    rintro e w2 ⟨v2, rfl, ht2, hc2⟩
    have HC2 := Lib.hid (HC1.out.trans hc2 (by simp))
    have HT2 := Lib.hid ht2
    rw [← HSB.out]
    clear hc2 ht2
    obtain ⟨ao, cap, rfl, hcap⟩ := HT2.out.form
    have HLAW := Lib.hid fun h0 => long_law HL.out h0
    obtain ⟨A, hA⟩ : ∃ A, A = (Lx.lex s).1 := ⟨_, rfl⟩
    obtain ⟨er, her⟩ : ∃ er, er = (Lx.lex s).2.1 := ⟨_, rfl⟩
    rw [← hA] at HT2 hcap HLAW ⊢
    rw [← her] at HLAW ⊢
    obtain ⟨a, ha⟩ : ∃ a, a = A.length := ⟨_, rfl⟩
    rw [← ha] at HT2 hcap HLAW ⊢
    have HHA := Lib.hid ha
    clear hA her ha
    go_wp2_with fail
    go_loopw [7] (fun i wr => ∃ k : Nat, i = .int .i64 ((k : Int) + 1) ∧ k ≤ a ∧ Chg [] w2 wr) (fun i _ => a - (intOf i).toNat)
    case atStart => exact ⟨0, rfl, Nat.zero_le _, Chg.refl _ _⟩
    case round =>
      obtain ⟨k, rfl, hk, hc⟩ := hrel
      have HC := Lib.hid hc
      clear hc
      by_cases h0 : er = 0
      · subst h0
        obtain ⟨ha3, hlaw⟩ := HLAW.out rfl
        by_cases hlt : k + 1 < a
        · obtain ⟨x, hx⟩ : ∃ x, A[k]? = some x := ⟨A[k]'(by rw [← HHA.out]; omega), by simp⟩
          obtain ⟨y, hy⟩ : ∃ y, A[k + 1]? = some y := ⟨A[k + 1]'(by rw [← HHA.out]; exact hlt), by simp⟩
          obtain ⟨g, off, rfl, _, c1, _, c3⟩ := (HT2.out.quiet HC.out).get hx
          obtain ⟨_, _, e9, _, d1, _, d3⟩ := (HT2.out.quiet HC.out).get hy
          cases e9
          obtain ⟨b1, b2, b3, b4⟩ := hlaw k x y hx hy
          obtain ⟨n1, hn1⟩ : ∃ n1, x.text.length = n1 := ⟨_, rfl⟩
          obtain ⟨n2, hn2⟩ : ∃ n2, y.text.length = n2 := ⟨_, rfl⟩
          have hn3 : (x.text ++ y.text).length ≤ 1000000 := by rw [List.length_append]; omega
          have HN3 := Lib.hid hn3
          rw [hn1] at b2 b4
          rw [hn2] at b3
          have HB4 := Lib.hid b4
          have i1 : (0 : Int) ≤ (k : Int) := by omega
          have i2 : (k : Int) < (a : Int) := by omega
          have i3 : (0 : Int) ≤ (k : Int) + 1 := by omega
          have i4 : (k : Int) + 1 < (a : Int) := by omega
          clear hlaw hx hy b4 hn3
          by_cases hadj : x.at_ + n1 = y.at_
          · have n5 : ((x.at_ : Int) + (n1 : Int) != (y.at_ : Int)) = false := bne_eq_false_iff_eq.2 (by omega)
            have hno := HB4.out hadj
            have HNO := Lib.hid hno
            have wk : IntKind.i64.wrap ((k : Int) + 1 - 1) = (k : Int) := by rw [IntWalk.i64_in _ (by omega)]; omega
            have wk0 : IntKind.i64.wrap (k : Int) = (k : Int) := by rw [IntWalk.i64_in _ (by omega)]
            have ti : ((k : Int)).toNat = k := by omega
            have k9 : ¬ 9223372036854775807 < n1 + n2 := by omega
            clear hno
            go_wp2_with fail
            go_quiet (fail)
            go_wp2_with fail
            go_region_held3 (fun W => W.cell? ⟨g, off + k * 4 + 1, none⟩ = some (.string ⟨x.text.toArray⟩) ∧ W.cell? ⟨g, off + (k + 1) * 4 + 1, none⟩ = some (.string ⟨y.text.toArray⟩) ∧ Chg [] wr W)
              (first | exact ⟨c1, d1, ⟨rfl, rfl, rfl, Nat.le_refl _, fun _ _ _ => rfl⟩⟩ | exact keep9 c1 d1 (Chg.refl [] wr) ⟨hcx.os, hcx.tape, hcx.output, hcx.size, hcx.block⟩)
              (first | (go_at_call 12; refine (lex_two _ x.text y.text HN3.out).mono ?_; rintro e wx ⟨vx, rfl, htx, hcx⟩; obtain ⟨axo, axc, rfl, _⟩ := htx.form))
            have HCX := Lib.hid (HC.out.trans (own1 := []) (w1 := wr) ⟨hcx.os, hcx.tape, hcx.output, hcx.size, hcx.block⟩ (by simp))
            clear hcx htx
            by_cases e0 : (Lx.lex (x.text ++ y.text)).2.1 = 0
            · have n6 : (((Lx.lex (x.text ++ y.text)).2.1 : Int) == 0) = true := by rw [e0]; rfl
              have n7 : (((Lx.lex (x.text ++ y.text)).1.length : Int) == 1) = false := beq_eq_false_iff_ne.2 (fun h => HNO.out ⟨e0, by omega⟩)
              clear e0
              go_wp2_with fail
              refine ⟨?_, ?_⟩
              · repeat apply Exists.intro
                refine ⟨?_, rfl⟩
                exact ⟨k + 1, vint (by omega), by omega, HCX.out⟩
              · simp [intOf]
                omega
            · have n6 : (((Lx.lex (x.text ++ y.text)).2.1 : Int) == 0) = false := beq_eq_false_iff_ne.2 (by omega)
              clear e0
              go_wp2_with fail
              refine ⟨?_, ?_⟩
              · repeat apply Exists.intro
                refine ⟨?_, rfl⟩
                exact ⟨k + 1, vint (by omega), by omega, HCX.out⟩
              · simp [intOf]
                omega
          · have n5 : ((x.at_ : Int) + (n1 : Int) != (y.at_ : Int)) = true := bne_iff_ne.2 (by omega)
            go_wp2_with fail
            go_quiet (fail)
            go_wp2_with fail
            refine ⟨?_, ?_⟩
            · repeat apply Exists.intro
              refine ⟨?_, rfl⟩
              exact ⟨k + 1, vint (by omega), by omega, ⟨HC.out.os, HC.out.tape, HC.out.output, HC.out.size, HC.out.block⟩⟩
            · simp [intOf]
              omega
        · have i4 : ¬ (k : Int) + 1 < (a : Int) := by omega
          have HCX := Lib.hid (HC2.out.trans HC.out (by simp))
          go_wp2_with fail
          go_ret
          exact ⟨rfl, HCX.out⟩
      · have n1 : ((er : Int) == 0) = false := beq_eq_false_iff_ne.2 (by omega)
        have HCX := Lib.hid (HC2.out.trans HC.out (by simp))
        by_cases hlt : k + 1 < a
        · have i4 : (k : Int) + 1 < (a : Int) := by omega
          go_wp2_with fail
          go_ret
          exact ⟨rfl, HCX.out⟩
        · have i4 : ¬ (k : Int) + 1 < (a : Int) := by omega
          go_wp2_with fail
          go_ret
          exact ⟨rfl, HCX.out⟩
  · have q1 : (3000 : Int) < (sb.size : Int) := by rw [hsz]; omega
    clear hl hsz hs0
    go_wp2_with fail
    refine (head_spec _).mono ?_
    rintro e w1 ⟨rfl, hc1⟩
    have HC1 := Lib.hid hc1
    clear hc1
    go_wp2_with fail
    go_ret
    exact ⟨rfl, HC1.out⟩
end Go.Proofs.YtghhddpaloogmaaDoor
