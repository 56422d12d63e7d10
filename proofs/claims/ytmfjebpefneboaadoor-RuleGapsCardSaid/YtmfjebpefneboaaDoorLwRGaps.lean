/-
  Rule, the law RuleGaps: the walk.
-/
import Derived.Test.YtmfjebpefneboaaDoorLwRErr
import Derived.Test.YtmfjebpefneboaaDoorLxN
import Derived.Test.YtmfjebpefneboaaDoorRlV
namespace Go.Proofs.YtmfjebpefneboaaDoor
set_option linter.unusedVariables false
set_option linter.unusedSimpArgs false
open Go Go.RowKit Go.Shelf
open Lx (Tk)

theorem sub_from {s : Bytes} {e a : Nat} (h : e ≤ a) : (⟨s.toArray⟩ : ByteArray).extract e a = ⟨((s.drop e).take (a - e)).toArray⟩ := by
  apply ByteArray.ext
  apply Array.ext'
  simp [List.take_drop]
theorem wid_step (G s : Bytes) {x : Tk} {l : List Tk} {e : Nat} (h : e ≤ x.at_) : Lx.wid G e (s.drop e) (x :: l) = (s.drop e).take (x.at_ - e) ++ G ++ Lx.wid G x.at_ (s.drop x.at_) l := by
  rw [Lx.wid, List.drop_drop, show e + (x.at_ - e) = x.at_ by omega, List.append_assoc]
set_option maxHeartbeats 1000000 in
theorem wider_spec (w : World) (v : Value) (l : List Tk) (HV : Hid (TokS w v l)) (s g : Bytes) (HL : Hid (l.length ≤ 100000 ∧ s.length ≤ 100000 ∧ g.length ≤ 100)) {sb gb : ByteArray} (HSB : Hid (sb = ⟨s.toArray⟩)) (HGB : Hid (gb = ⟨g.toArray⟩))
    (HAT : Hid (∀ t ∈ l, t.at_ ≤ s.length)) (HR : Hid (Rising l)) :
    Calls Tryd.prog 17 #[.string sb, v, .string gb] w fun e w' => e = .returned (.string ⟨(Lx.wid g 0 s l).toArray⟩) ∧ w' = w := by
  obtain ⟨ao, cap, rfl⟩ := HV.out.frm
  obtain ⟨m, hm⟩ : ∃ m, l.length = m := ⟨_, rfl⟩
  have hcap := HV.out
  rw [hm] at HV ⊢
  have HM := Lib.hid hm
  have HSZ : Hid (sb.size = s.length) := Lib.hid (hsize HSB)
  have HGZ : Hid (gb.size = g.length) := Lib.hid (hsize HGB)
  have hml9 : m ≤ 100000 := by rw [← hm]; exact HL.out.1
  clear hm hcap
  go_enter Tryd.func17, Tryd.ntmps17
  go_wp2_with fail
  go_loop [7, 8, 9] (fun o en i => ∃ (k e : Nat) (O : Bytes), o = .string ⟨O.toArray⟩ ∧ en = .int .i64 (e : Int) ∧ i = .int .i64 (k : Int) ∧ k ≤ m ∧ e ≤ s.length ∧ (∀ t ∈ l.drop k, e ≤ t.at_) ∧ O ++ Lx.wid g e (s.drop e) (l.drop k) = Lx.wid g 0 s l) (fun _ _ i => m - (intOf i).toNat)
  case atStart => exact ⟨0, 0, [], rfl, rfl, rfl, Nat.zero_le _, Nat.zero_le _, fun t ht => Nat.zero_le _, by rw [List.nil_append, List.drop_zero, List.drop_zero]⟩
  case round =>
    obtain ⟨k, e, O, rfl, rfl, rfl, hk, he, hle, hw⟩ := hrel
    have HLE := Lib.hid hle
    have HW := Lib.hid hw
    clear hle hw
    have hO : O.length ≤ 20000000 := by
      have h1 := congrArg List.length HW.out
      rw [List.length_append, Lx.wid_len, Lx.wid_len, HM.out] at h1
      have h2 := HL.out
      have h3 : m * g.length ≤ 100000 * 100 := Nat.mul_le_mul (by rw [← HM.out]; exact h2.1) h2.2.2
      omega
    by_cases hlt : k < m
    · obtain ⟨x, hx⟩ : ∃ x, l[k]? = some x := ⟨l[k]'(by rw [HM.out]; exact hlt), by simp⟩
      obtain ⟨g0, off, rfl, c0, c1, c2, c3⟩ := HV.out.get hx
      have hd : l.drop k = x :: l.drop (k + 1) := by
        obtain ⟨h1, h2⟩ := List.getElem?_eq_some_iff.1 hx
        rw [← h2]
        exact List.drop_eq_getElem_cons h1
      have HD := Lib.hid hd
      have hea : e ≤ x.at_ := HLE.out x (by rw [hd]; exact List.mem_cons_self ..)
      have has : x.at_ ≤ s.length := HAT.out x (List.mem_of_getElem? hx)
      obtain ⟨a, ha⟩ : ∃ a, x.at_ = a := ⟨_, rfl⟩
      have HA := Lib.hid ha
      rw [ha] at c3 hea has
      have q1 : (k : Int) < (m : Int) := by omega
      have q0 : (0 : Int) ≤ (k : Int) := by omega
      have q2 : (0 : Int) ≤ (e : Int) := by omega
      have q3 : (e : Int) ≤ (a : Int) := by omega
      have q4 : (a : Int) ≤ (sb.size : Int) := by rw [HSZ.out]; omega
      have q5 : (0 : Int) ≤ (a : Int) := by omega
      have n0 : a ≤ sb.size := by rw [HSZ.out]; exact has
      have n1 : ¬ 9223372036854775807 < O.length + (a - e) := by have := HL.out; omega
      have n2 : ¬ 9223372036854775807 < O.length + (a - e) + gb.size := by rw [HGZ.out]; have := HL.out; omega
      clear hx hd ha
      go_wp2_with fail
      go_round
      case rel =>
        refine ⟨k + 1, a, O ++ (s.drop e).take (a - e) ++ g, ?_, rfl, vint (by omega), by omega, has, fun t ht => ?_, ?_⟩
        · rw [HSB.out, HGB.out, sub_from hea]
          exact congrArg Value.string (by apply ByteArray.ext; apply Array.ext'; simp)
        · have h1 : Rising (l.drop k) := HR.out.sublist (List.drop_sublist k l)
          rw [HD.out] at h1
          have := (List.pairwise_cons.1 h1).1 t ht
          have := HA.out
          omega
        · rw [← HW.out, HD.out, wid_step g s (by rw [HA.out]; exact hea), HA.out]
          simp only [List.append_assoc]
      case measure => simp [intOf]; omega
    · have q1 : ¬ (k : Int) < (m : Int) := by omega
      have hk2 : l.drop k = [] := List.drop_of_length_le (by rw [HM.out]; omega)
      rw [hk2, Lx.wid] at HW
      have q2 : (0 : Int) ≤ (e : Int) := by omega
      have q3 : (e : Int) ≤ (sb.size : Int) := by rw [HSZ.out]; omega
      have n1 : ¬ 9223372036854775807 < O.length + (sb.size - e) := by rw [HSZ.out]; have := HL.out; omega
      have HEE : Hid (sb.extract e sb.size = ⟨(s.drop e).toArray⟩) := Lib.hid (by
        rw [HSZ.out, HSB.out]
        exact sub_drop s e)
      clear hk2
      go_wp2_with fail
      go_ret
      refine ⟨?_, rfl⟩
      refine congrArg Ending.returned (congrArg Value.string ?_)
      show (⟨O.toArray⟩ : ByteArray) ++ sb.extract e sb.size = _
      rw [HEE.out, ← HW.out]
      apply ByteArray.ext
      apply Array.ext'
      simp
theorem nl_gap {g : Bytes} {gb : ByteArray} (HGB : Hid (gb = ⟨g.toArray⟩)) : (⟨#[10]⟩ : ByteArray) ++ gb ++ (⟨#[10]⟩ : ByteArray) = ⟨(10 :: (g ++ [10])).toArray⟩ := by
  rw [HGB.out]
  apply ByteArray.ext
  apply Array.ext'
  simp
set_option maxHeartbeats 2000000 in
set_option maxRecDepth 100000 in
theorem ruleGaps_walk (w : World) (s : Bytes) (hs0 : s.length ≤ 9223372036854775807) (g : Bytes) (hg0 : g.length ≤ 9223372036854775807) :
    Calls Tryd.prog 5 #[.string ⟨s.toArray⟩, .string ⟨g.toArray⟩] w fun e w' => e = .returned (.bool true) ∧ Chg [] w w' := by
  obtain ⟨sb, hsb⟩ : ∃ sb : ByteArray, sb = ⟨s.toArray⟩ := ⟨_, rfl⟩
  obtain ⟨gb, hgb⟩ : ∃ gb : ByteArray, gb = ⟨g.toArray⟩ := ⟨_, rfl⟩
  rw [← hsb, ← hgb]
  have HSB := Lib.hid hsb
  have HGB := Lib.hid hgb
  have hsz := hsize HSB
  have hgz := hsize HGB
  clear hsb hgb
  go_enter Tryd.func5, Tryd.ntmps5
  go_wp2_with fail
  refine (head_spec07 _).mono ?_
  rintro e w1 ⟨rfl, hc1⟩
  have HC1 := Lib.hid hc1
  clear hc1
  by_cases hl : s.length ≤ 3000
  · have q1 : ¬ (3000 : Int) < (sb.size : Int) := by rw [hsz]; omega
    by_cases hl2 : g.length ≤ 20
    · have q2 : ¬ (20 : Int) < (gb.size : Int) := by rw [hgz]; omega
      have HL := Lib.hid hl
      have HL2 := Lib.hid hl2
      have HSZ := Lib.hid hsz
      have HGZ := Lib.hid hgz
      clear hl hl2 hs0 hg0 hsz hgz
      go_wp2_with fail
      rw [HGB.out]
      refine (gaps_spec _ g (by have := HL2.out; omega)).mono ?_
      rintro e w2 ⟨rfl, rfl⟩
      rw [← HGB.out]
      by_cases hgap : Lx.sc 0 g = []
      · rw [decide_eq_true hgap]
        have HGAP := Lib.hid hgap
        clear hgap
        go_wp2_with fail
        refine lex_r (by have := HL.out; omega) HSB (fun ao n cap E0 A0 w2 HT2 HC2 HE0 => ?_)
        have n1 : ¬ 9223372036854775807 < 1 + gb.size := by rw [HGZ.out]; have := HL2.out; omega
        have n2 : ¬ 9223372036854775807 < 1 + gb.size + 1 := by rw [HGZ.out]; have := HL2.out; omega
        have HC12 : Hid (Chg [] w w2) := Lib.hid (HC1.out.trans HC2.out (by simp))
        have HLL : Hid ((Lx.lex s).1.length ≤ 3000) := Lib.hid (Nat.le_trans (Lx.lex_len s) HL.out)
        have HWL : Hid ((Lx.wid (10 :: (g ++ [10])) 0 s (Lx.lex s).1).length ≤ 100000) := Lib.hid (by
          rw [Lx.wid_len]
          have h1 := HL.out
          have h2 := HLL.out
          have h3 : (Lx.lex s).1.length * (10 :: (g ++ [10])).length ≤ 3000 * 22 := Nat.mul_le_mul h2 (by have := HL2.out; simp; omega)
          omega)
        have HGC := Lib.hid (nl_gap HGB)
        go_wp2_with fail
        refine (wider_spec _ _ (Lx.lex s).1 HT2 s (10 :: (g ++ [10])) (Lib.hid ⟨by have := HLL.out; omega, by have := HL.out; omega, by have := HL2.out; simp; omega⟩) HSB HGC (Lib.hid fun t ht => ?_) (Lib.hid (Lx.lex_rising s))).mono ?_
        · by_cases h0 : (Lx.lex s).2.1 = 0
          · rw [(Lx.lex_of_zero h0).2.2.2] at ht
            obtain ⟨y, hy, rfl⟩ := List.mem_map.1 ht
            have := Lx.sc_at 0 s y hy
            omega
          · rw [Lx.lex_nonzero h0] at ht
            simp at ht
        rintro e w3 ⟨rfl, rfl⟩
        obtain ⟨mb, hmb⟩ : ∃ mb : ByteArray, mb = ⟨(Lx.wid (10 :: (g ++ [10])) 0 s (Lx.lex s).1).toArray⟩ := ⟨_, rfl⟩
        rw [← hmb]
        have HMB := Lib.hid hmb
        have hmz := hsize HMB
        clear hmb
        by_cases e0 : E0 = 0
        · have n0 : ((E0 : Int) != 0) = false := by subst e0; rfl
          by_cases hm : (Lx.wid (10 :: (g ++ [10])) 0 s (Lx.lex s).1).length ≤ 20000
          · have q3 : ¬ (20000 : Int) < (mb.size : Int) := by rw [hmz]; omega
            obtain ⟨k1, k2⟩ := Rl.gaps_law HGAP.out (HE0.out.2.1.trans e0) hm
            have K1 := Lib.hid k1
            have K2 := Lib.hid k2
            have HMZ := Lib.hid hmz
            clear hm e0 k1 k2 hmz
            go_wp2_with fail
            refine parse_r (by have := HL.out; omega) HSB (fun bo k bp E1 A1 w4 HL4 HC4 HE1 => ?_)
            go_wp2_with fail
            refine parse_r HWL.out HMB (fun co j cp E2 A2 w5 HL5 HC5 HE2 => ?_)
            have hee : ((E1 : Int) == (E2 : Int)) = true := by
              have h1 := K1.out
              rw [HE1.out.2.1, HE2.out.2.1] at h1
              rw [h1]
              exact beq_self_eq_true _
            have hb := HC5.out.blk (Blk.new w4 [.slice bo k bp] 25) (by simp)
            have d4 := hb.cell (i := 0) rfl
            have l4 := hb.lt
            have HL4' : Hid (ListS w3.heap.size 42 9 (Ci w3.heap.size) (Rl.parse s).1 (.slice bo k bp) w5) := Lib.hid (HL4.out.keep (kp_i _) ((Chg.refl [] w4).alloc _ |>.trans HC5.out (by simp)) (TyB.nil _ _ _))
            have HC45 : Hid (Chg [] w w5) := Lib.hid ((HC12.out.trans HC4.out (by simp)).alloc _ |>.trans HC5.out (by simp))
            clear hb
            go_wp2_with fail
            refine (same_rules _ _ _ false (Lib.hid (simL_of_ren K2.out.symm)) _ _ _ _ (Lib.hid (HL4'.out.keep (kp_i _) ((Chg.refl [] w5).alloc _) (TyB.nil _ _ _))) (Lib.hid (HL5.out.keep (kp_i _) ((Chg.refl [] w5).alloc _) (TyB.nil _ _ _)))).mono ?_
            rintro e w6 ⟨rfl, hc6⟩
            have HC6 : Hid (Chg [] w w6) := Lib.hid ((HC45.out.alloc _).trans hc6 (by simp))
            clear hc6
            go_wp2_with fail
            go_ret
            exact ⟨rfl, HC6.out⟩
          · have q3 : (20000 : Int) < (mb.size : Int) := by rw [hmz]; omega
            clear e0
            go_wp2_with fail
            go_ret
            exact ⟨rfl, HC12.out⟩
        · have n0 : ((E0 : Int) != 0) = true := bne_iff_ne.2 (by omega)
          clear e0
          go_wp2_with fail
          go_ret
          exact ⟨rfl, HC12.out⟩
      · rw [decide_eq_false hgap]
        go_wp2_with fail
        go_ret
        exact ⟨rfl, HC1.out⟩
    · have q2 : (20 : Int) < (gb.size : Int) := by rw [hgz]; omega
      go_wp2_with fail
      go_ret
      exact ⟨rfl, HC1.out⟩
  · have q1 : (3000 : Int) < (sb.size : Int) := by rw [hsz]; omega
    go_wp2_with fail
    go_ret
    exact ⟨rfl, HC1.out⟩
end Go.Proofs.YtmfjebpefneboaaDoor
