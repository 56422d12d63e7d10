/-
  Layer 22: the law LexerParts: the walk.
-/
import Derived.Test.YtghhddpaloogmaaDoorLxR
import Derived.Test.YtghhddpaloogmaaDoorLwBegin
namespace Go.Proofs.YtghhddpaloogmaaDoor
set_option linter.unusedVariables false
set_option linter.unusedSimpArgs false
open Go Go.RowKit Go.Shelf

theorem shift_fst (d : Nat) (l : List (Lx.Tk × Nat)) : (l.map (Lx.shift d)).map Prod.fst = (l.map Prod.fst).map (Lx.tshift d) := by
  rw [List.map_map, List.map_map]
  rfl
theorem tshift_zero (l : List Lx.Tk) : l.map (Lx.tshift 0) = l := by
  conv => rhs; rw [← List.map_id l]
  exact List.map_congr_left (fun x _ => rfl)
/-- What Parts asks of one ++ line feed ++ two. -/
theorem parts_law {s t : Bytes} (hs : s.length ≤ 1500) (ht : t.length ≤ 1500) :
    ((Lx.lex s).2.1 ≠ 0 ∧ (Lx.lex (s ++ 10 :: t)).2.1 ≠ 0) ∨
    ((Lx.lex s).2.1 = 0 ∧ (Lx.lex t).2.1 ≠ 0 ∧ (Lx.lex (s ++ 10 :: t)).2.1 = (Lx.lex t).2.1 ∧ ∃ i : Nat, (Lx.lex t).2.2 = (i : Int) ∧ i ≤ 1500 ∧ (Lx.lex (s ++ 10 :: t)).2.2 = (i : Int) + (s.length : Int) + 1) ∨
    ((Lx.lex s).2.1 = 0 ∧ (Lx.lex t).2.1 = 0 ∧ (Lx.lex (s ++ 10 :: t)).2.1 = 0 ∧ (Lx.lex s).1.length ≤ 1500 ∧ (Lx.lex t).1.length ≤ 1500 ∧ (∀ x ∈ (Lx.lex s).1, x.at_ ≤ 1500) ∧ (∀ x ∈ (Lx.lex t).1, x.at_ ≤ 1500) ∧
      (Lx.lex (s ++ 10 :: t)).1 = (Lx.lex s).1 ++ (Lx.lex t).1.map (Lx.tshift (s.length + 1))) := by
  have hj := Lx.sc_join t 0 s
  have hlen : (s ++ 10 :: t).length ≤ 5000 := by simp; omega
  have ls := Lx.sc_length 0 s
  have lt := Lx.sc_length 0 t
  have hsh := Lx.sc_shift (s.length + 1) 0 t
  rw [Nat.zero_add] at hsh
  rw [Nat.zero_add, hsh] at hj
  rcases Lx.sc_last 0 s with h1 | ⟨p, x, e, h1, h2, h3⟩
  · rw [if_pos h1] at hj
    rcases Lx.sc_last 0 t with h4 | ⟨p, x, e, h4, h5, h6⟩
    · right; right
      have hg : Lx.good (Lx.sc 0 (s ++ 10 :: t)) = true := by
        rw [hj, Lx.good_iff]
        intro y hy
        rcases List.mem_append.1 hy with h | h
        · exact (Lx.good_iff.1 h1) y h
        · exact (Lx.good_iff.1 ((Lx.good_shift _ _).trans h4)) y h
      rw [Lx.lex_good (by omega) h1, Lx.lex_good (by omega) h4, Lx.lex_good hlen hg, hj]
      refine ⟨rfl, rfl, rfl, by rw [List.length_map]; omega, by rw [List.length_map]; omega, ?_, ?_, ?_⟩
      · intro x hx
        obtain ⟨y, hy, rfl⟩ := List.mem_map.1 hx
        have := Lx.sc_at 0 s y hy
        omega
      · intro x hx
        obtain ⟨y, hy, rfl⟩ := List.mem_map.1 hx
        have := Lx.sc_at 0 t y hy
        omega
      · show (Lx.sc 0 s ++ (Lx.sc 0 t).map (Lx.shift (s.length + 1))).map Prod.fst = _
        rw [List.map_append, shift_fst]
    · right; left
      rw [h4, List.map_append, ← List.append_assoc] at hj
      have hg : Lx.good (Lx.sc 0 s ++ p.map (Lx.shift (s.length + 1))) = true := by
        rw [Lx.good_iff]
        intro y hy
        rcases List.mem_append.1 hy with h | h
        · exact (Lx.good_iff.1 h1) y h
        · exact (Lx.good_iff.1 ((Lx.good_shift _ _).trans h6)) y h
      have hat := Lx.sc_at 0 t (x, e) (by rw [h4]; simp)
      rw [Lx.lex_good (by omega) h1, Lx.lex_bad (by omega) h4 h5 h6, Lx.lex_bad hlen hj h5 hg]
      exact ⟨rfl, h5, rfl, x.at_, rfl, by simp at hat; omega, by show ((x.at_ + (s.length + 1) : Nat) : Int) = _; omega⟩
  · left
    have hb : ¬ Lx.good (Lx.sc 0 s) = true := by
      rw [h1, Lx.good_iff]
      intro h
      exact h2 (h (x, e) (by simp))
    rw [if_neg hb, List.append_nil, h1] at hj
    rw [Lx.lex_bad (by omega) h1 h2 h3, Lx.lex_bad hlen hj h2 h3]
    exact ⟨h2, h2⟩
/-- A part of a list of tokens. -/
theorem TokS.front {w : World} {ao : Option Addr} {n cap : Nat} {l : List Lx.Tk} (h : TokS w (.slice ao n cap) l) {k : Nat} (hk : k ≤ l.length) : TokS w (.slice ao k cap) (l.take k) := by
  obtain ⟨ao', cap', he, hle, h2⟩ := h
  cases he
  refine ⟨ao, cap, by rw [List.length_take, Nat.min_eq_left hk], by rw [List.length_take]; omega, fun i x hx => ?_⟩
  rw [List.getElem?_take] at hx
  split at hx
  · exact h2 i x hx
  · cases hx
theorem TokS.back {w : World} {co : Option Addr} {n cap b : Nat} {l : List Lx.Tk} (h : TokS w (.slice co n cap) l) {k : Nat} (hb : l.length = k + b) : TokS w (.slice (co.map fun x => x.add (k * 4)) b (cap - k)) (l.drop k) := by
  obtain ⟨ao', cap', he, hle, h2⟩ := h
  cases he
  refine ⟨co.map fun x => x.add (k * 4), cap - k, by rw [List.length_drop, hb, Nat.add_sub_cancel_left], by rw [List.length_drop]; omega, fun i x hx => ?_⟩
  rw [List.getElem?_drop] at hx
  obtain ⟨g', off', rfl, h4⟩ := h2 (k + i) x hx
  refine ⟨g', off' + k * 4, by rw [Option.map_some, addr_add], ?_⟩
  rw [show off' + k * 4 + 4 * i = off' + 4 * (k + i) by omega]
  exact h4
theorem TokS.nil (w : World) (ao : Option Addr) (cap : Nat) : TokS w (.slice ao 0 cap) [] := ⟨ao, cap, rfl, Nat.zero_le _, fun i t h => by simp at h⟩
theorem str_nl (s t : Bytes) : (⟨s.toArray⟩ : ByteArray) ++ ⟨#[10]⟩ ++ ⟨t.toArray⟩ = ⟨(s ++ 10 :: t).toArray⟩ := by
  apply ByteArray.ext
  apply Array.ext'
  simp
set_option maxHeartbeats 1000000 in
theorem parts_walk (w : World) (s : Bytes) (hs0 : s.length ≤ 9223372036854775807) (t : Bytes) (ht0 : t.length ≤ 9223372036854775807) :
    Calls Tryd.prog 6 #[.string ⟨s.toArray⟩, .string ⟨t.toArray⟩] w fun e w' => e = .returned (.bool true) ∧ Chg [] w w' := by
  obtain ⟨sb, hsb⟩ : ∃ sb : ByteArray, sb = ⟨s.toArray⟩ := ⟨_, rfl⟩
  obtain ⟨tb, htb⟩ : ∃ tb : ByteArray, tb = ⟨t.toArray⟩ := ⟨_, rfl⟩
  have HSB := Lib.hid hsb
  have HTB := Lib.hid htb
  have hsz : sb.size = s.length := by rw [hsb]; exact size_of s
  have htz : tb.size = t.length := by rw [htb]; exact size_of t
  rw [← hsb, ← htb]
  clear hsb htb
  go_enter Tryd.func6, Tryd.ntmps6
  go_wp2_with fail
  refine (head_spec _).mono ?_
  rintro e w1 ⟨rfl, hc1⟩
  have HC1 := Lib.hid hc1
  clear hc1
  by_cases hl : s.length ≤ 1500
  · have q1 : ¬ (1500 : Int) < (sb.size : Int) := by rw [hsz]; omega
    by_cases hl2 : t.length ≤ 1500
    · have q2 : ¬ (1500 : Int) < (tb.size : Int) := by rw [htz]; omega
      have HL := Lib.hid hl
      have HL2 := Lib.hid hl2
      have HSZ := Lib.hid hsz
      have HTZ := Lib.hid htz
      clear hl hl2 hs0 ht0 hsz htz
      go_wp2_with fail
      rw [HSB.out]
      refine (lex_spec _ s (by have := HL.out; omega)).mono ?_
      rintro e w2 ⟨v2, rfl, ht2, hc2⟩
      have HC2 := Lib.hid (HC1.out.trans hc2 (by simp))
      have HT2 := Lib.hid ht2
      rw [← HSB.out]
      clear hc2 ht2
      go_wp2_with fail
      rw [HTB.out]
      refine (lex_spec _ t (by have := HL2.out; omega)).mono ?_
      rintro e w3 ⟨v3, rfl, ht3, hc3⟩
      have HC3 := Lib.hid (HC2.out.trans hc3 (by simp))
      have HT3 := Lib.hid ht3
      have HT23 := Lib.hid (HT2.out.quiet hc3)
      rw [← HTB.out]
      clear hc3 ht3
      have k1 : ¬ 9223372036854775807 < sb.size + 1 := by rw [HSZ.out]; have := HL.out; omega
      have k2 : ¬ 9223372036854775807 < sb.size + 1 + tb.size := by rw [HSZ.out, HTZ.out]; have := HL.out; have := HL2.out; omega
      go_wp2_with fail
      rw [HSB.out, HTB.out, str_nl]
      refine (lex_spec _ (s ++ 10 :: t) (by have := HL.out; have := HL2.out; simp; omega)).mono ?_
      rintro e w4 ⟨v4, rfl, ht4, hc4⟩
      have HC4 := Lib.hid (HC3.out.trans hc4 (by simp))
      have HT4 := Lib.hid ht4
      have HT24 := Lib.hid (HT23.out.quiet hc4)
      have HT34 := Lib.hid (HT3.out.quiet hc4)
      rw [← HSB.out, ← HTB.out]
      clear hc4 ht4
      rcases parts_law HL.out HL2.out with ⟨h1, h2⟩ | ⟨h1, h2, h3, i, h4, h5, h6⟩ | ⟨h1, h2, h3, h4, h5, h6, h7, h8⟩
      · have n1 : (((Lx.lex s).2.1 : Int) != 0) = true := bne_iff_ne.2 (by omega)
        have n2 : (((Lx.lex (s ++ 10 :: t)).2.1 : Int) != 0) = true := bne_iff_ne.2 (by omega)
        clear h1 h2
        go_wp2_with fail
        go_ret
        exact ⟨rfl, HC4.out⟩
      · have n2 : (((Lx.lex t).2.1 : Int) != 0) = true := bne_iff_ne.2 (by omega)
        rw [h1, h3, h4, h6]
        obtain ⟨er, her⟩ : ∃ er, (Lx.lex t).2.1 = er := ⟨_, rfl⟩
        rw [her] at n2 ⊢
        have n3 : ((i : Int) + (s.length : Int) + 1 == (i : Int) + (sb.size : Int) + 1) = true := by rw [HSZ.out]; exact beq_self_eq_true _
        have n4 := HL.out
        have n5 := HSZ.out
        clear h1 h2 h3 h4 h6 her
        go_wp2_with fail
        go_ret
        exact ⟨rfl, HC4.out⟩
      · rw [h1, h2, h3]
        have H4 := Lib.hid h4
        have H5 := Lib.hid h5
        have H6 := Lib.hid h6
        have H7 := Lib.hid h7
        have H8 := Lib.hid h8
        clear h1 h2 h3 h4 h5 h6 h7 h8
        obtain ⟨ao, cap, rfl, hcap⟩ := HT24.out.form
        obtain ⟨bo, cup, rfl, hcup⟩ := HT34.out.form
        obtain ⟨co, cop, rfl, hcop⟩ := HT4.out.form
        obtain ⟨A, hA⟩ : ∃ A, A = (Lx.lex s).1 := ⟨_, rfl⟩
        obtain ⟨B, hB⟩ : ∃ B, B = (Lx.lex t).1 := ⟨_, rfl⟩
        obtain ⟨C, hC⟩ : ∃ C, C = (Lx.lex (s ++ 10 :: t)).1 := ⟨_, rfl⟩
        rw [← hA] at HT24 hcap H4 H6 H8 ⊢
        rw [← hB] at HT34 hcup H5 H7 H8 ⊢
        rw [← hC] at HT4 hcop H8 ⊢
        have hcl : C.length = A.length + B.length := by rw [H8.out]; simp
        have HCL := Lib.hid hcl
        have HCA : Hid (C.take A.length = A) := Lib.hid (by rw [H8.out, List.take_left])
        have HCB : Hid (C.drop A.length = B.map (Lx.tshift (s.length + 1))) := Lib.hid (by rw [H8.out, List.drop_left])
        obtain ⟨a, ha⟩ : ∃ a, a = A.length := ⟨_, rfl⟩
        obtain ⟨b, hb⟩ : ∃ b, b = B.length := ⟨_, rfl⟩
        obtain ⟨c, hc⟩ : ∃ c, c = C.length := ⟨_, rfl⟩
        rw [← ha, ← hb, ← hc] at hcl
        rw [← ha] at HT24 hcap H4 HCA HCB ⊢
        rw [← hb] at HT34 hcup H5 ⊢
        rw [← hc] at HT4 hcop ⊢
        have HHA := Lib.hid ha
        have HHB := Lib.hid hb
        have HHC := Lib.hid hc
        have h4' := H4.out
        have h5' := H5.out
        have n1 : ((c : Int) == (a : Int) + (b : Int)) = true := by rw [beq_iff_eq]; omega
        have n2 : (0 : Int) ≤ (a : Int) := by omega
        have n3 : (a : Int) ≤ (c : Int) := by omega
        have n4 : (a : Int) ≤ (cop : Int) := by omega
        clear hA hB hC ha hb hc HT2 HT23 HT3
        go_wp2_with fail
        refine (same_spec _ (.slice ao a cap) (.slice co a cop) A (C.take a) 0 HT24 (Lib.hid (HT4.out.front (by rw [HCL.out, HHA.out]; omega))) (by rw [← HHA.out]; omega) (by rw [List.length_take]; omega) (by decide) (Lib.hid fun x hx => by have := H6.out x hx; omega)).mono ?_
        rintro e w5 ⟨rfl, hc5⟩
        rw [tshift_zero, HCA.out, decide_eq_true rfl]
        have HC5 := Lib.hid (HC4.out.trans hc5 (by simp))
        have HT45 := Lib.hid (HT4.out.quiet hc5)
        have HT35 := Lib.hid (HT34.out.quiet hc5)
        clear hc5
        have HSH : Hid (decide (B.map (Lx.tshift (s.length + 1)) = C.drop a) = true) := Lib.hid (by rw [HCB.out]; exact decide_eq_true rfl)
        have HAB : Hid (C.length = a + b) := Lib.hid (by rw [HCL.out, HHA.out, HHB.out])
        have hsb9 : (sb.size : Int) + 1 = ((s.length + 1 : Nat) : Int) := by rw [HSZ.out]; omega
        have hl9 := HL.out
        by_cases hca : cop = a
        · have hb0 : b = 0 := by omega
          have HD0 : Hid (C.drop a = []) := Lib.hid (by rw [List.drop_eq_nil_iff, HAB.out]; omega)
          subst hb0
          rw [HD0.out] at HSH
          go_wp2_with fail
          refine (same_spec _ (.slice bo 0 cup) (.slice co 0 0) B [] (s.length + 1) HT35 (Lib.hid (TokS.nil _ _ _)) (by rw [← HHB.out]; omega) (by simp) (by omega) (Lib.hid fun x hx => by have := H7.out x hx; omega)).mono ?_
          rintro e w6 ⟨rfl, hc6⟩
          have HC6 := Lib.hid (HC5.out.trans hc6 (by simp))
          rw [HSH.out]
          clear hc6
          go_wp2_with fail
          go_ret
          exact ⟨rfl, HC6.out⟩
        · have n9 : ¬ cop - a = 0 := by omega
          go_wp2_with fail
          refine (same_spec _ (.slice bo b cup) (.slice (co.map fun x => x.add (a * 4)) b (cop - a)) B (C.drop a) (s.length + 1) HT35 (Lib.hid (HT45.out.back HAB.out)) (by rw [← HHB.out]; omega) (by rw [List.length_drop, HAB.out]; omega) (by omega) (Lib.hid fun x hx => by have := H7.out x hx; omega)).mono ?_
          rintro e w6 ⟨rfl, hc6⟩
          have HC6 := Lib.hid (HC5.out.trans hc6 (by simp))
          rw [HSH.out]
          clear hc6
          go_wp2_with fail
          go_ret
          exact ⟨rfl, HC6.out⟩
    · have q2 : (1500 : Int) < (tb.size : Int) := by rw [htz]; omega
      go_wp2_with fail
      go_ret
      exact ⟨rfl, HC1.out⟩
  · have q1 : (1500 : Int) < (sb.size : Int) := by rw [hsz]; omega
    go_wp2_with fail
    go_ret
    exact ⟨rfl, HC1.out⟩
end Go.Proofs.YtghhddpaloogmaaDoor
