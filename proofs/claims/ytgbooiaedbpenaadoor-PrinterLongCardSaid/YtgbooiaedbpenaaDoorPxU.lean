/-
  PxD, PxU in one text.
-/
import Derived.Test.YtgbooiaedbpenaaDoorPxW
namespace Go.Proofs.YtgbooiaedbpenaaDoor
set_option linter.unusedVariables false
set_option linter.unusedSimpArgs false
open Go Go.RowKit Go.Shelf
attribute [local irreducible] Lx.cls Go.wpStill

set_option maxRecDepth 100000 in
set_option maxHeartbeats 4000000 in
theorem next_digit (w : World) (s : Bytes) (hs : s.length ≤ 1000000) (i : Nat) (hi : i < s.length) (HT : Hid (Lx.cls s[i] ≠ 1 ∧ Lx.cls s[i] ≠ 2)) (hcl : Lx.at' s i = 4) :
 Calls Tryd.prog 71 #[.string ⟨s.toArray⟩, .int .i64 (i : Int)] w (NextR s i w) := by
 obtain ⟨sb, hsb⟩ : ∃ sb : ByteArray, sb = ⟨s.toArray⟩ := ⟨_, rfl⟩
 have HSB := Lib.hid hsb
 have HSZ : Hid (sb.size = s.length) := Lib.hid (by rw [hsb]; exact size_of9 s)
 rw [← hsb]
 clear hsb
 have q1 : (i : Int) < (sb.size : Int) := by rw [HSZ.out]; omega
 have q0 : (0 : Int) ≤ (i : Int) := by omega
 have hkk : i < sb.size := by rw [HSZ.out]; exact hi
 have HGE := Lib.hid (sb_get HSB hkk hi)
 have HTK := Lib.hid (Lx.tok_at s i hi)
 have HLT := Lib.hid hi
 rw [← Lx.at'_lt hi] at HTK
 obtain ⟨c, hc⟩ : ∃ c, Lx.at' s i = c := ⟨_, rfl⟩
 rw [hc] at HTK
 have HCc : Hid (Lx.cls s[i] = c) := Lib.hid ((Lx.at'_lt hi).symm.trans hc)
 have HT' : Hid (c ≠ 1 ∧ c ≠ 2) := Lib.hid (by rw [← HCc.out]; exact HT.out)
 have HCb : Hid (Lx.cls sb[i] = c) := Lib.hid (by rw [HGE.out]; exact HCc.out)
 have hcl' : c = 4 := by rw [hc] at hcl; exact hcl
 clear hc HT hcl
 go_enter Tryd.func71, Tryd.ntmps71
 go_wp2_with fail
 have hb4 := (Blk.new w [.int .i64 0, .string ⟨#[]⟩, .int .i64 0, .int .i64 0] 137).alloc (.cells #[.int .i64 0, .string ⟨#[]⟩, .int .i64 0, .int .i64 i] 137)
 have hb7 := Blk.new (w.alloc (.cells #[.int .i64 0, .string ⟨#[]⟩, .int .i64 0, .int .i64 0] 137)) [.int .i64 0, .string ⟨#[]⟩, .int .i64 0, .int .i64 i] 137
 have hcc : Chg [] w ((w.alloc (.cells #[.int .i64 0, .string ⟨#[]⟩, .int .i64 0, .int .i64 0] 137)).alloc (.cells #[.int .i64 0, .string ⟨#[]⟩, .int .i64 0, .int .i64 i] 137)) := ((Chg.refl _ _).alloc _).alloc _
 simp only [World.size_alloc] at hb7 ⊢
 obtain ⟨W1, hW1⟩ : ∃ W1, W1 = (w.alloc (.cells #[.int .i64 0, .string ⟨#[]⟩, .int .i64 0, .int .i64 0] 137)).alloc (.cells #[.int .i64 0, .string ⟨#[]⟩, .int .i64 0, .int .i64 i] 137) := ⟨_, rfl⟩
 rw [← hW1] at hb4 hb7 hcc ⊢
 obtain ⟨b4, e4⟩ : ∃ b4, b4 = w.heap.size := ⟨_, rfl⟩
 obtain ⟨b7, e7⟩ : ∃ b7, b7 = b4 + 1 := ⟨_, rfl⟩
 rw [← e4, ← e7] at hb7
 rw [← e4] at hb4
 rw [← e4, ← e7]
 have n47 : ¬ b4 = b7 := by omega
 have n74 : ¬ b7 = b4 := by omega
 have HB4 := Lib.hid hb4
 have HB7 := Lib.hid hb7
 have HC1 := Lib.hid hcc
 have HW4 : Hid (w.heap.size ≤ b4 ∧ w.heap.size ≤ b7) := Lib.hid (by omega)
 have y0 := hb4.cell (i := 0) rfl
 have y1 := hb4.cell (i := 1) rfl
 have y2 := hb4.cell (i := 2) rfl
 have y3 := hb4.cell (i := 3) rfl
 have z0 := hb7.cell (i := 0) rfl
 have z1 := hb7.cell (i := 1) rfl
 have z2 := hb7.cell (i := 2) rfl
 have z3 := hb7.cell (i := 3) rfl
 have fy0 := hb4.free 0
 have fy1 := hb4.free 1
 have fy2 := hb4.free 2
 have fy3 := hb4.free 3
 have fz0 := hb7.free 0
 have fz1 := hb7.free 1
 have fz2 := hb7.free 2
 have fz3 := hb7.free 3
 clear hW1 hb4 hb7 hcc e4 e7
 obtain rfl : c = 4 := hcl'
 have HT4 : Hid (Lx.tok (s.drop i) = (2, Lx.wl Lx.dig (s.drop i), if 10 < Lx.wl Lx.dig (s.drop i) ∨ Lx.at' s (i + Lx.wl Lx.dig (s.drop i)) = 3 ∨ Lx.at' s (i + Lx.wl Lx.dig (s.drop i)) = 5 then 6 else 0)) := Lib.hid HTK.out
 have hw1 := Lx.wl_drop Lx.dig s i hi
 rw [if_pos (by unfold Lx.dig; exact decide_eq_true HCc.out)] at hw1
 have HW1 := Lib.hid hw1
 clear hw1
 refine (letter_b _ sb[i] false (decide_eq_false (by rw [HCb.out]; decide))).mono ?_
 rintro e W2 ⟨rfl, rfl⟩
 go_wp2_with fail
 refine (digit_b _ sb[i] true (decide_eq_true HCb.out)).mono ?_
 rintro e W2 ⟨rfl, rfl⟩
 go_upto_region 11 with fail
 go_loop [6] (fun ev => ∃ m : Nat, ev = .int .i64 (m : Int) ∧ i < m ∧ m ≤ s.length ∧ Hid (Lx.wl Lx.dig (s.drop i) = (m - i) + Lx.wl Lx.dig (s.drop m))) (fun ev => s.length - (intOf ev).toNat)
 case atStart => exact ⟨i + 1, vint (by omega), by omega, by omega, Lib.hid (by rw [HW1.out]; omega)⟩
 case round =>
  obtain ⟨m, rfl, him, hml, hwl⟩ := hrel
  have m0 : (0 : Int) ≤ (m : Int) := by omega
  by_cases hm : m < s.length
  · have m1 : (m : Int) < (sb.size : Int) := by rw [HSZ.out]; omega
    have hmm : m < sb.size := by rw [HSZ.out]; exact hm
    have HGM := Lib.hid (sb_get HSB hmm hm)
    obtain ⟨b, hb⟩ : ∃ b, Lx.dig sb[m] = b := ⟨_, rfl⟩
    have HWW := Lib.hid (Lx.wl_drop Lx.dig s m hm)
    have HB := Lib.hid hb
    have HAT : Hid (Lx.at' s m = Lx.cls sb[m]) := Lib.hid ((Lx.at'_lt hm).trans (by rw [HGM.out]))
    clear hb
    go_wp2_with fail
    refine (digit_b _ sb[m] b HB.out).mono ?_
    rintro e W3 ⟨rfl, rfl⟩
    cases b with
    | true =>
     have HN : Hid (Lx.wl Lx.dig (s.drop i) = (m + 1 - i) + Lx.wl Lx.dig (s.drop (m + 1))) := Lib.hid (by
      rw [hwl.out, HWW.out, if_pos (by rw [← HGM.out]; exact HB.out)]
      omega)
     go_wp2_with fail
     go_round
     case rel => exact ⟨m + 1, vint (by omega), by omega, by omega, HN⟩
     case measure => simp [intOf]; omega
    | false =>
     have HN : Hid (Lx.wl Lx.dig (s.drop i) = m - i) := Lib.hid (by
      rw [hwl.out, HWW.out, if_neg (by rw [← HGM.out, HB.out]; decide)]
      omega)
     by_cases h24 : 10 < m - i
     · have k1 : (10 : Int) < (m : Int) - (i : Int) := by omega
       go_wp2_with fail
       have HE : Hid ((Lx.tok (s.drop i)).2.2 = 6) := Lib.hid (by rw [HT4.out, HN.out, if_pos (Or.inl h24)])
       exact bodyPost_ret (v := .tuple #[.agg #[.int .i64 0, .string ⟨#[]⟩, .int .i64 0, .int .i64 0], .int .i64 6]) (by simp [results, Tryd.results71, go_sem, n47, n74, y0, y1, y2, y3, z0, z1, z2, z3]) rfl ⟨_, 6, rfl, Lib.hid ⟨HE.out.symm, _, _, _, _, rfl, fun h => by cases h⟩, (((((HC1.out).setCell _ _ (.inr HW4.out.2)).setCell _ _ (.inr HW4.out.1)).setCell _ _ (.inr HW4.out.1)).setCell _ _ (.inr HW4.out.1)).setCell _ _ (.inr HW4.out.1)⟩
     · have k1 : ¬ (10 : Int) < (m : Int) - (i : Int) := by omega
       obtain ⟨b2, hb2⟩ : ∃ b2, Lx.word sb[m] = b2 := ⟨_, rfl⟩
       have HB2 := Lib.hid hb2
       clear hb2
       go_wp2_with fail
       refine (word_b _ sb[m] b2 HB2.out).mono ?_
       rintro e W3 ⟨rfl, rfl⟩
       cases b2 with
       | true =>
        go_wp2_with fail
        have HE : Hid ((Lx.tok (s.drop i)).2.2 = 6) := Lib.hid (by rw [HT4.out, HN.out, if_pos]; right; rw [Nat.add_sub_cancel' (Nat.le_of_lt him), HAT.out]; have h9 := HB2.out; have h8 := HB.out; unfold Lx.word at h9; unfold Lx.dig at h8; have h9 := of_decide_eq_true h9; have h8 := of_decide_eq_false h8; omega)
        exact bodyPost_ret (v := .tuple #[.agg #[.int .i64 0, .string ⟨#[]⟩, .int .i64 0, .int .i64 0], .int .i64 6]) (by simp [results, Tryd.results71, go_sem, n47, n74, y0, y1, y2, y3, z0, z1, z2, z3]) rfl ⟨_, 6, rfl, Lib.hid ⟨HE.out.symm, _, _, _, _, rfl, fun h => by cases h⟩, (((((HC1.out).setCell _ _ (.inr HW4.out.2)).setCell _ _ (.inr HW4.out.1)).setCell _ _ (.inr HW4.out.1)).setCell _ _ (.inr HW4.out.1)).setCell _ _ (.inr HW4.out.1)⟩
       | false =>
        have HR : Hid (Lx.tok (s.drop i) = (2, m - i, 0)) := Lib.hid (by
         rw [HT4.out, HN.out, if_neg]
         rw [Nat.add_sub_cancel' (Nat.le_of_lt him), HAT.out]
         have h9 := HB2.out
         unfold Lx.word at h9
         have h9 := of_decide_eq_false h9
         omega)
        have hnd : ∀ x ∈ (s.drop i).take (m - i), 48 ≤ x.toNat ∧ x.toNat ≤ 57 := by
         intro x hx
         rw [← HN.out] at hx
         have h9 := wl_take _ _ hx
         unfold Lx.dig at h9
         have h8 := Lx.dig_num x
         rw [h9] at h8
         exact of_decide_eq_true h8.symm
        have HND := Lib.hid hnd
        have hnl := Lx.num_lt (m - i) ((s.drop i).take (m - i)) (by rw [List.length_take, List.length_drop]; omega) (fun x hx => (hnd x hx).2)
        have HNL : Hid (Lx.num ((s.drop i).take (m - i)) < 10000000000) := Lib.hid (Nat.lt_of_lt_of_le hnl (Nat.pow_le_pow_right (n := 10) (by decide) (show m - i ≤ 10 by omega)))
        clear hnd hnl
        go_upto_region 17 with fail
        go_loopw [9] (fun ev wr => ∃ j : Nat, ev = .int .i64 (j : Int) ∧ i ≤ j ∧ j ≤ m ∧ Blk wr b7 [.int .i64 2, .string ⟨#[]⟩, .int .i64 (Lx.num ((s.drop i).take (j - i)) : Nat), .int .i64 i] 137 ∧ Blk wr b4 [.int .i64 0, .string ⟨#[]⟩, .int .i64 0, .int .i64 0] 137 ∧ Chg [] w wr) (fun ev _ => m - (intOf ev).toNat)
        case atStart => exact ⟨i, rfl, Nat.le_refl _, by omega, by rw [Nat.sub_self]; exact HB7.out.set 0 _, HB4.out.other _ _ (by exact n47), HC1.out.setCell _ _ (.inr HW4.out.2)⟩
        case round =>
         obtain ⟨j, rfl, hij, hjm, hb7, hb4, hcr⟩ := hrel
         have HR7 := Lib.hid hb7
         have HR4 := Lib.hid hb4
         have HCR := Lib.hid hcr
         have y0 := hb4.cell (i := 0) rfl
         have y1 := hb4.cell (i := 1) rfl
         have y2 := hb4.cell (i := 2) rfl
         have y3 := hb4.cell (i := 3) rfl
         have z0 := hb7.cell (i := 0) rfl
         have z1 := hb7.cell (i := 1) rfl
         have z2 := hb7.cell (i := 2) rfl
         have z3 := hb7.cell (i := 3) rfl
         have fy0 := hb4.free 0
         have fy1 := hb4.free 1
         have fy2 := hb4.free 2
         have fy3 := hb4.free 3
         have fz1 := hb7.free 1
         have fz2 := hb7.free 2
         clear hb7 hb4 hcr
         by_cases hjlt : j < m
         · obtain ⟨xx, hxx⟩ : ∃ xx, (s.drop i)[j - i]? = some xx := ⟨(s.drop i)[j - i]'(by rw [List.length_drop]; omega), by simp⟩
           have hjs : j < s.length := by omega
           have hjb : j < sb.size := by rw [HSZ.out]; exact hjs
           have hsx : s[j] = xx := by
            rw [List.getElem?_drop, Nat.add_sub_cancel' hij, List.getElem?_eq_getElem hjs] at hxx
            exact Option.some.inj hxx
           have hmemx : xx ∈ (s.drop i).take (m - i) := by
            refine List.mem_of_getElem? (i := j - i) ?_
            rw [List.getElem?_take_of_lt (by omega)]
            exact hxx
           have hdx := HND.out xx hmemx
           have HNX : Hid (Lx.num ((s.drop i).take (j + 1 - i)) = 10 * Lx.num ((s.drop i).take (j - i)) + (xx.toNat - 48)) := Lib.hid (by
            rw [show j + 1 - i = (j - i) + 1 by omega, List.take_add_one, hxx, Option.toList_some, Lx.num_snoc])
           obtain ⟨x, hx⟩ : ∃ x, sb[j].toNat = x := ⟨_, rfl⟩
           have hxe : xx.toNat = x := by rw [← hx, sb_get HSB hjb hjs, hsx]
           rw [hxe] at hdx HNX
           obtain ⟨nn, hnn⟩ : ∃ nn, Lx.num ((s.drop i).take (j - i)) = nn := ⟨_, rfl⟩
           rw [hnn] at z2 HNX HR7
           have hnb : nn < 1000000000000 := by
            have h1 := Lx.num_lt (j - i) ((s.drop i).take (j - i)) (by rw [List.length_take, List.length_drop]; omega) (fun y hy => (HND.out y ((List.take_subset_take_left _ (by omega)) hy)).2)
            rw [hnn] at h1
            exact Nat.lt_of_lt_of_le h1 (Nat.le_trans (Nat.pow_le_pow_right (n := 10) (by decide) (show j - i ≤ 12 by omega)) (by decide))
           have w1 : IntKind.u8.wrap ((x : Int) - 48) = (x : Int) - 48 := IntWalk.u8_in _ (by omega)
           have w2 : (0 : Int) ≤ (j : Int) := by omega
           have w3 : (j : Int) < (sb.size : Int) := by rw [HSZ.out]; omega
           have w4 : (j : Int) < (m : Int) := by omega
           clear hxx hsx hmemx hxe hnn
           go_wp2_with fail
           refine wp_region_tail 9 (by kernel_rfl) (by kernel_rfl) (fun L hL => ?_)
           repeat still_step
           refine wpStill_nil (hL _ ?_)
           clear hL L
           go_wp2_with fail
           refine ⟨⟨j + 1, vint (by omega), by omega, by omega, ?_, (HR4.out.other _ _ (by exact n47)).drew, (HCR.out.setCell _ _ (.inr HW4.out.2)).drew⟩, by simp [intOf]; omega⟩
           rw [HNX.out, show ((10 * nn + (x - 48) : Nat) : Int) = 10 * (nn : Int) + ((x : Int) - 48) by omega]
           exact HR7.out.set 2 (.int .i64 (10 * (nn : Int) + ((x : Int) - 48)))
         · have hjm2 : j = m := by omega
           subst hjm2
           obtain ⟨nn, hnn⟩ : ∃ nn, Lx.num ((s.drop i).take (j - i)) = nn := ⟨_, rfl⟩
           rw [hnn] at z2 HR7
           have HOK := Lib.hid (tok_ok2 HSB HR.out (by omega) hnn hml)
           have r1 : (i : Int) ≤ (j : Int) := by omega
           have r2 : (j : Int) ≤ (sb.size : Int) := by rw [HSZ.out]; omega
           clear hnn
           go_wp2_with fail
           exact bodyPost_ret (v := .tuple #[.agg #[.int .i64 2, .string (sb.extract i j), .int .i64 nn, .int .i64 (i : Int)], .int .i64 0]) (by simp [results, Tryd.results71, go_sem, n47, n74, y0, y1, y2, y3, z0, z1, z2, z3]) rfl ⟨_, 0, rfl, Lib.hid ⟨HOK.out.1.symm, _, _, _, _, rfl, fun _ => HOK.out.2.symm⟩, (((((HCR.out).setCell _ _ (.inr HW4.out.2)).setCell _ _ (.inr HW4.out.1)).setCell _ _ (.inr HW4.out.1)).setCell _ _ (.inr HW4.out.1)).setCell _ _ (.inr HW4.out.1)⟩
  · have m1 : ¬ (m : Int) < (sb.size : Int) := by rw [HSZ.out]; omega
    have HN : Hid (Lx.wl Lx.dig (s.drop i) = m - i) := Lib.hid (by rw [hwl.out, Lx.wl_end _ _ _ (by omega)]; omega)
    by_cases h24 : 10 < m - i
    · have k1 : (10 : Int) < (m : Int) - (i : Int) := by omega
      go_wp2_with fail
      have HE : Hid ((Lx.tok (s.drop i)).2.2 = 6) := Lib.hid (by rw [HT4.out, HN.out, if_pos (Or.inl h24)])
      exact bodyPost_ret (v := .tuple #[.agg #[.int .i64 0, .string ⟨#[]⟩, .int .i64 0, .int .i64 0], .int .i64 6]) (by simp [results, Tryd.results71, go_sem, n47, n74, y0, y1, y2, y3, z0, z1, z2, z3]) rfl ⟨_, 6, rfl, Lib.hid ⟨HE.out.symm, _, _, _, _, rfl, fun h => by cases h⟩, (((((HC1.out).setCell _ _ (.inr HW4.out.2)).setCell _ _ (.inr HW4.out.1)).setCell _ _ (.inr HW4.out.1)).setCell _ _ (.inr HW4.out.1)).setCell _ _ (.inr HW4.out.1)⟩
    · have k1 : ¬ (10 : Int) < (m : Int) - (i : Int) := by omega
      have HR : Hid (Lx.tok (s.drop i) = (2, m - i, 0)) := Lib.hid (by
       rw [HT4.out, HN.out, if_neg]
       rw [Nat.add_sub_cancel' (Nat.le_of_lt him), Lx.at'_past (by omega)]
       omega)
      have hnd : ∀ x ∈ (s.drop i).take (m - i), 48 ≤ x.toNat ∧ x.toNat ≤ 57 := by
       intro x hx
       rw [← HN.out] at hx
       have h9 := wl_take _ _ hx
       unfold Lx.dig at h9
       have h8 := Lx.dig_num x
       rw [h9] at h8
       exact of_decide_eq_true h8.symm
      have HND := Lib.hid hnd
      have hnl := Lx.num_lt (m - i) ((s.drop i).take (m - i)) (by rw [List.length_take, List.length_drop]; omega) (fun x hx => (hnd x hx).2)
      have HNL : Hid (Lx.num ((s.drop i).take (m - i)) < 10000000000) := Lib.hid (Nat.lt_of_lt_of_le hnl (Nat.pow_le_pow_right (n := 10) (by decide) (show m - i ≤ 10 by omega)))
      clear hnd hnl
      go_upto_region 17 with fail
      go_loopw [9] (fun ev wr => ∃ j : Nat, ev = .int .i64 (j : Int) ∧ i ≤ j ∧ j ≤ m ∧ Blk wr b7 [.int .i64 2, .string ⟨#[]⟩, .int .i64 (Lx.num ((s.drop i).take (j - i)) : Nat), .int .i64 i] 137 ∧ Blk wr b4 [.int .i64 0, .string ⟨#[]⟩, .int .i64 0, .int .i64 0] 137 ∧ Chg [] w wr) (fun ev _ => m - (intOf ev).toNat)
      case atStart => exact ⟨i, rfl, Nat.le_refl _, by omega, by rw [Nat.sub_self]; exact HB7.out.set 0 _, HB4.out.other _ _ (by exact n47), HC1.out.setCell _ _ (.inr HW4.out.2)⟩
      case round =>
       obtain ⟨j, rfl, hij, hjm, hb7, hb4, hcr⟩ := hrel
       have HR7 := Lib.hid hb7
       have HR4 := Lib.hid hb4
       have HCR := Lib.hid hcr
       have y0 := hb4.cell (i := 0) rfl
       have y1 := hb4.cell (i := 1) rfl
       have y2 := hb4.cell (i := 2) rfl
       have y3 := hb4.cell (i := 3) rfl
       have z0 := hb7.cell (i := 0) rfl
       have z1 := hb7.cell (i := 1) rfl
       have z2 := hb7.cell (i := 2) rfl
       have z3 := hb7.cell (i := 3) rfl
       have fy0 := hb4.free 0
       have fy1 := hb4.free 1
       have fy2 := hb4.free 2
       have fy3 := hb4.free 3
       have fz1 := hb7.free 1
       have fz2 := hb7.free 2
       clear hb7 hb4 hcr
       by_cases hjlt : j < m
       · obtain ⟨xx, hxx⟩ : ∃ xx, (s.drop i)[j - i]? = some xx := ⟨(s.drop i)[j - i]'(by rw [List.length_drop]; omega), by simp⟩
         have hjs : j < s.length := by omega
         have hjb : j < sb.size := by rw [HSZ.out]; exact hjs
         have hsx : s[j] = xx := by
          rw [List.getElem?_drop, Nat.add_sub_cancel' hij, List.getElem?_eq_getElem hjs] at hxx
          exact Option.some.inj hxx
         have hmemx : xx ∈ (s.drop i).take (m - i) := by
          refine List.mem_of_getElem? (i := j - i) ?_
          rw [List.getElem?_take_of_lt (by omega)]
          exact hxx
         have hdx := HND.out xx hmemx
         have HNX : Hid (Lx.num ((s.drop i).take (j + 1 - i)) = 10 * Lx.num ((s.drop i).take (j - i)) + (xx.toNat - 48)) := Lib.hid (by
          rw [show j + 1 - i = (j - i) + 1 by omega, List.take_add_one, hxx, Option.toList_some, Lx.num_snoc])
         obtain ⟨x, hx⟩ : ∃ x, sb[j].toNat = x := ⟨_, rfl⟩
         have hxe : xx.toNat = x := by rw [← hx, sb_get HSB hjb hjs, hsx]
         rw [hxe] at hdx HNX
         obtain ⟨nn, hnn⟩ : ∃ nn, Lx.num ((s.drop i).take (j - i)) = nn := ⟨_, rfl⟩
         rw [hnn] at z2 HNX HR7
         have hnb : nn < 1000000000000 := by
          have h1 := Lx.num_lt (j - i) ((s.drop i).take (j - i)) (by rw [List.length_take, List.length_drop]; omega) (fun y hy => (HND.out y ((List.take_subset_take_left _ (by omega)) hy)).2)
          rw [hnn] at h1
          exact Nat.lt_of_lt_of_le h1 (Nat.le_trans (Nat.pow_le_pow_right (n := 10) (by decide) (show j - i ≤ 12 by omega)) (by decide))
         have w1 : IntKind.u8.wrap ((x : Int) - 48) = (x : Int) - 48 := IntWalk.u8_in _ (by omega)
         have w2 : (0 : Int) ≤ (j : Int) := by omega
         have w3 : (j : Int) < (sb.size : Int) := by rw [HSZ.out]; omega
         have w4 : (j : Int) < (m : Int) := by omega
         clear hxx hsx hmemx hxe hnn
         go_wp2_with fail
         refine wp_region_tail 9 (by kernel_rfl) (by kernel_rfl) (fun L hL => ?_)
         repeat still_step
         refine wpStill_nil (hL _ ?_)
         clear hL L
         go_wp2_with fail
         refine ⟨⟨j + 1, vint (by omega), by omega, by omega, ?_, (HR4.out.other _ _ (by exact n47)).drew, (HCR.out.setCell _ _ (.inr HW4.out.2)).drew⟩, by simp [intOf]; omega⟩
         rw [HNX.out, show ((10 * nn + (x - 48) : Nat) : Int) = 10 * (nn : Int) + ((x : Int) - 48) by omega]
         exact HR7.out.set 2 (.int .i64 (10 * (nn : Int) + ((x : Int) - 48)))
       · have hjm2 : j = m := by omega
         subst hjm2
         obtain ⟨nn, hnn⟩ : ∃ nn, Lx.num ((s.drop i).take (j - i)) = nn := ⟨_, rfl⟩
         rw [hnn] at z2 HR7
         have HOK := Lib.hid (tok_ok2 HSB HR.out (by omega) hnn hml)
         have r1 : (i : Int) ≤ (j : Int) := by omega
         have r2 : (j : Int) ≤ (sb.size : Int) := by rw [HSZ.out]; omega
         clear hnn
         go_wp2_with fail
         exact bodyPost_ret (v := .tuple #[.agg #[.int .i64 2, .string (sb.extract i j), .int .i64 nn, .int .i64 (i : Int)], .int .i64 0]) (by simp [results, Tryd.results71, go_sem, n47, n74, y0, y1, y2, y3, z0, z1, z2, z3]) rfl ⟨_, 0, rfl, Lib.hid ⟨HOK.out.1.symm, _, _, _, _, rfl, fun _ => HOK.out.2.symm⟩, (((((HCR.out).setCell _ _ (.inr HW4.out.2)).setCell _ _ (.inr HW4.out.1)).setCell _ _ (.inr HW4.out.1)).setCell _ _ (.inr HW4.out.1)).setCell _ _ (.inr HW4.out.1)⟩
end Go.Proofs.YtgbooiaedbpenaaDoor
namespace Go.Proofs.YtgbooiaedbpenaaDoor
set_option linter.unusedVariables false
set_option linter.unusedSimpArgs false
open Go Go.RowKit Go.Shelf
attribute [local irreducible] Lx.cls Go.wpStill

set_option maxRecDepth 100000 in
set_option maxHeartbeats 4000000 in
theorem next_sym (w : World) (s : Bytes) (hs : s.length ≤ 1000000) (i : Nat) (hi : i < s.length) (HT : Hid (Lx.cls s[i] ≠ 1 ∧ Lx.cls s[i] ≠ 2)) (hcl : Lx.at' s i ≠ 3 ∧ Lx.at' s i ≠ 4) :
 Calls Tryd.prog 71 #[.string ⟨s.toArray⟩, .int .i64 (i : Int)] w (NextR s i w) := by
 obtain ⟨sb, hsb⟩ : ∃ sb : ByteArray, sb = ⟨s.toArray⟩ := ⟨_, rfl⟩
 have HSB := Lib.hid hsb
 have HSZ : Hid (sb.size = s.length) := Lib.hid (by rw [hsb]; exact size_of9 s)
 rw [← hsb]
 clear hsb
 have q1 : (i : Int) < (sb.size : Int) := by rw [HSZ.out]; omega
 have q0 : (0 : Int) ≤ (i : Int) := by omega
 have hkk : i < sb.size := by rw [HSZ.out]; exact hi
 have HGE := Lib.hid (sb_get HSB hkk hi)
 have HTK := Lib.hid (Lx.tok_at s i hi)
 have HLT := Lib.hid hi
 rw [← Lx.at'_lt hi] at HTK
 obtain ⟨c, hc⟩ : ∃ c, Lx.at' s i = c := ⟨_, rfl⟩
 rw [hc] at HTK
 have HCc : Hid (Lx.cls s[i] = c) := Lib.hid ((Lx.at'_lt hi).symm.trans hc)
 have HT' : Hid (c ≠ 1 ∧ c ≠ 2) := Lib.hid (by rw [← HCc.out]; exact HT.out)
 have HCb : Hid (Lx.cls sb[i] = c) := Lib.hid (by rw [HGE.out]; exact HCc.out)
 have hcl' : c ≠ 3 ∧ c ≠ 4 := by rw [hc] at hcl; exact hcl
 clear hc HT hcl
 go_enter Tryd.func71, Tryd.ntmps71
 go_wp2_with fail
 have hb4 := (Blk.new w [.int .i64 0, .string ⟨#[]⟩, .int .i64 0, .int .i64 0] 137).alloc (.cells #[.int .i64 0, .string ⟨#[]⟩, .int .i64 0, .int .i64 i] 137)
 have hb7 := Blk.new (w.alloc (.cells #[.int .i64 0, .string ⟨#[]⟩, .int .i64 0, .int .i64 0] 137)) [.int .i64 0, .string ⟨#[]⟩, .int .i64 0, .int .i64 i] 137
 have hcc : Chg [] w ((w.alloc (.cells #[.int .i64 0, .string ⟨#[]⟩, .int .i64 0, .int .i64 0] 137)).alloc (.cells #[.int .i64 0, .string ⟨#[]⟩, .int .i64 0, .int .i64 i] 137)) := ((Chg.refl _ _).alloc _).alloc _
 simp only [World.size_alloc] at hb7 ⊢
 obtain ⟨W1, hW1⟩ : ∃ W1, W1 = (w.alloc (.cells #[.int .i64 0, .string ⟨#[]⟩, .int .i64 0, .int .i64 0] 137)).alloc (.cells #[.int .i64 0, .string ⟨#[]⟩, .int .i64 0, .int .i64 i] 137) := ⟨_, rfl⟩
 rw [← hW1] at hb4 hb7 hcc ⊢
 obtain ⟨b4, e4⟩ : ∃ b4, b4 = w.heap.size := ⟨_, rfl⟩
 obtain ⟨b7, e7⟩ : ∃ b7, b7 = b4 + 1 := ⟨_, rfl⟩
 rw [← e4, ← e7] at hb7
 rw [← e4] at hb4
 rw [← e4, ← e7]
 have n47 : ¬ b4 = b7 := by omega
 have n74 : ¬ b7 = b4 := by omega
 have HB4 := Lib.hid hb4
 have HB7 := Lib.hid hb7
 have HC1 := Lib.hid hcc
 have HW4 : Hid (w.heap.size ≤ b4 ∧ w.heap.size ≤ b7) := Lib.hid (by omega)
 have y0 := hb4.cell (i := 0) rfl
 have y1 := hb4.cell (i := 1) rfl
 have y2 := hb4.cell (i := 2) rfl
 have y3 := hb4.cell (i := 3) rfl
 have z0 := hb7.cell (i := 0) rfl
 have z1 := hb7.cell (i := 1) rfl
 have z2 := hb7.cell (i := 2) rfl
 have z3 := hb7.cell (i := 3) rfl
 have fy0 := hb4.free 0
 have fy1 := hb4.free 1
 have fy2 := hb4.free 2
 have fy3 := hb4.free 3
 have fz0 := hb7.free 0
 have fz1 := hb7.free 1
 have fz2 := hb7.free 2
 have fz3 := hb7.free 3
 clear hW1 hb4 hb7 hcc e4 e7
 refine (letter_b _ sb[i] false (decide_eq_false (by rw [HCb.out]; exact hcl'.1))).mono ?_
 rintro e W2 ⟨rfl, rfl⟩
 go_wp2_with fail
 refine (digit_b _ sb[i] false (decide_eq_false (by rw [HCb.out]; exact hcl'.2))).mono ?_
 rintro e W2 ⟨rfl, rfl⟩
 have hc8 : c ≤ 8 := by rw [← HCc.out]; exact Lx.cls_le _
 have hc12 := HT'.out
 have r1 : (i : Int) ≤ (i : Int) + 1 := by omega
 have r2 : (i : Int) + 1 ≤ (sb.size : Int) := by omega
 have r3 : (i : Int) ≤ (i : Int) + 1 + 1 := by omega
 have hsz2 := HSZ.out
 go_wp2_with fail
 obtain rfl | rfl | rfl | rfl | rfl : c = 0 ∨ c = 5 ∨ c = 6 ∨ c = 7 ∨ c = 8 := by omega
 · refine (has_spec _ [33, 60, 62] (by decide) sb[i] false (Lib.hid ((Lx.pre_has _).trans (decide_eq_false (by rw [HCb.out]; decide))))).mono ?_
   rintro e W2 ⟨rfl, rfl⟩
   go_wp2_with fail
   refine (has_spec _ [59, 44, 46, 58, 40, 41, 123, 125, 61, 60, 62, 43, 45, 47] (by decide) sb[i] false (Lib.hid ((Lx.sym_has _).trans (decide_eq_false (by rw [HCb.out]; decide))))).mono ?_
   rintro e W2 ⟨rfl, rfl⟩
   go_wp2_with fail
   have HE : Hid ((Lx.tok (s.drop i)).2.2 = 5) := Lib.hid (by rw [HTK.out]; rfl)
   exact bodyPost_ret (v := .tuple #[.agg #[.int .i64 0, .string ⟨#[]⟩, .int .i64 0, .int .i64 0], .int .i64 5]) (by simp [results, Tryd.results71, go_sem, n47, n74, y0, y1, y2, y3, z0, z1, z2, z3]) rfl ⟨_, 5, rfl, Lib.hid ⟨HE.out.symm, _, _, _, _, rfl, fun h => by cases h⟩, (((((HC1.out).setCell _ _ (.inr HW4.out.2)).setCell _ _ (.inr HW4.out.1)).setCell _ _ (.inr HW4.out.1)).setCell _ _ (.inr HW4.out.1)).setCell _ _ (.inr HW4.out.1)⟩
 · refine (has_spec _ [33, 60, 62] (by decide) sb[i] false (Lib.hid ((Lx.pre_has _).trans (decide_eq_false (by rw [HCb.out]; decide))))).mono ?_
   rintro e W2 ⟨rfl, rfl⟩
   go_wp2_with fail
   refine (has_spec _ [59, 44, 46, 58, 40, 41, 123, 125, 61, 60, 62, 43, 45, 47] (by decide) sb[i] false (Lib.hid ((Lx.sym_has _).trans (decide_eq_false (by rw [HCb.out]; decide))))).mono ?_
   rintro e W2 ⟨rfl, rfl⟩
   go_wp2_with fail
   have HE : Hid ((Lx.tok (s.drop i)).2.2 = 5) := Lib.hid (by rw [HTK.out]; rfl)
   exact bodyPost_ret (v := .tuple #[.agg #[.int .i64 0, .string ⟨#[]⟩, .int .i64 0, .int .i64 0], .int .i64 5]) (by simp [results, Tryd.results71, go_sem, n47, n74, y0, y1, y2, y3, z0, z1, z2, z3]) rfl ⟨_, 5, rfl, Lib.hid ⟨HE.out.symm, _, _, _, _, rfl, fun h => by cases h⟩, (((((HC1.out).setCell _ _ (.inr HW4.out.2)).setCell _ _ (.inr HW4.out.1)).setCell _ _ (.inr HW4.out.1)).setCell _ _ (.inr HW4.out.1)).setCell _ _ (.inr HW4.out.1)⟩
 · refine (has_spec _ [33, 60, 62] (by decide) sb[i] false (Lib.hid ((Lx.pre_has _).trans (decide_eq_false (by rw [HCb.out]; decide))))).mono ?_
   rintro e W2 ⟨rfl, rfl⟩
   go_wp2_with fail
   refine (has_spec _ [59, 44, 46, 58, 40, 41, 123, 125, 61, 60, 62, 43, 45, 47] (by decide) sb[i] true (Lib.hid ((Lx.sym_has _).trans (decide_eq_true (by rw [HCb.out]; decide))))).mono ?_
   rintro e W2 ⟨rfl, rfl⟩
   go_upto_region 25 with fail
   obtain ⟨m, hm⟩ : ∃ m, m = i + 1 := ⟨_, rfl⟩
   have hm1 : (i : Int) + 1 = (m : Int) := by omega
   have hm2 : (i : Int) ≤ (m : Int) := by omega
   have hm3 : (m : Int) ≤ (sb.size : Int) := by omega
   have hm4 : m - i = 1 := by omega
   have hm5 : i ≤ m := by omega
   have hm6 : m ≤ s.length := by omega
   clear r1 r2 r3
   (first | rw [hm1] | simp only [hm1])
   clear hm hm1
   have HE : Hid ((Lx.tok (s.drop i)).2.2 = 0 ∧ tkv (Lx.mk i (s.drop i)) = .agg #[.int .i64 3, .string (sb.extract i m), .int .i64 0, .int .i64 (i : Int)]) := Lib.hid (by exact tok_ok HSB (by rw [hm4, HTK.out]; rfl) hm5 (by decide) hm6)
   go_wp2_with fail
   exact bodyPost_ret (v := .tuple #[.agg #[.int .i64 3, .string (sb.extract i m), .int .i64 0, .int .i64 (i : Int)], .int .i64 0]) (by simp [results, Tryd.results71, go_sem, n47, n74, y0, y1, y2, y3, z0, z1, z2, z3]) rfl ⟨_, 0, rfl, Lib.hid ⟨HE.out.1.symm, _, _, _, _, rfl, fun _ => HE.out.2.symm⟩, ((((((HC1.out).setCell _ _ (.inr HW4.out.2)).setCell _ _ (.inr HW4.out.2)).setCell _ _ (.inr HW4.out.1)).setCell _ _ (.inr HW4.out.1)).setCell _ _ (.inr HW4.out.1)).setCell _ _ (.inr HW4.out.1)⟩
 · have HS7 : Hid (Lx.tok (s.drop i) = if s[i + 1]? = some 61 then (3, 2, 0) else (3, 1, 0)) := Lib.hid (by rw [HTK.out]; simp)
   refine (has_spec _ [33, 60, 62] (by decide) sb[i] true (Lib.hid ((Lx.pre_has _).trans (decide_eq_true (by rw [HCb.out]; decide))))).mono ?_
   rintro e W2 ⟨rfl, rfl⟩
   by_cases hi1 : i + 1 < s.length
   · have j1 : (i : Int) + 1 < (sb.size : Int) := by omega
     have j2 : (i : Int) + 1 + 1 ≤ (sb.size : Int) := by omega
     have j0 : (0 : Int) ≤ (i : Int) + 1 := by omega
     have hi2 : i + 1 < sb.size := by omega
     obtain ⟨bb, hbb⟩ : ∃ bb, ((sb[i + 1].toNat : Int) == 61) = bb := ⟨_, rfl⟩
     have h61 := eq61 HSB hi2 bb hbb
     cases bb with
     | true =>
      have H61 := Lib.hid (h61.2 rfl)
      clear h61
      go_upto_region 25 with fail
      obtain ⟨m, hm⟩ : ∃ m, m = i + 2 := ⟨_, rfl⟩
      have hm1 : (i : Int) + 1 + 1 = (m : Int) := by omega
      have hm2 : (i : Int) ≤ (m : Int) := by omega
      have hm3 : (m : Int) ≤ (sb.size : Int) := by omega
      have hm4 : m - i = 2 := by omega
      have hm5 : i ≤ m := by omega
      have hm6 : m ≤ s.length := by omega
      clear r1 r2 r3
      (first | rw [hm1] | simp only [hm1])
      clear hm hm1
      have HE : Hid ((Lx.tok (s.drop i)).2.2 = 0 ∧ tkv (Lx.mk i (s.drop i)) = .agg #[.int .i64 3, .string (sb.extract i m), .int .i64 0, .int .i64 (i : Int)]) := Lib.hid (by exact tok_ok HSB (by rw [hm4, HS7.out, if_pos H61.out]) hm5 (by decide) hm6)
      go_wp2_with fail
      exact bodyPost_ret (v := .tuple #[.agg #[.int .i64 3, .string (sb.extract i m), .int .i64 0, .int .i64 (i : Int)], .int .i64 0]) (by simp [results, Tryd.results71, go_sem, n47, n74, y0, y1, y2, y3, z0, z1, z2, z3]) rfl ⟨_, 0, rfl, Lib.hid ⟨HE.out.1.symm, _, _, _, _, rfl, fun _ => HE.out.2.symm⟩, ((((((HC1.out).setCell _ _ (.inr HW4.out.2)).setCell _ _ (.inr HW4.out.2)).setCell _ _ (.inr HW4.out.1)).setCell _ _ (.inr HW4.out.1)).setCell _ _ (.inr HW4.out.1)).setCell _ _ (.inr HW4.out.1)⟩
     | false =>
      have H61 : Hid (¬ s[i + 1]? = some 61) := Lib.hid (fun h => by have := h61.1 h; cases this)
      clear h61
      go_wp2_with fail
      refine (has_spec _ [59, 44, 46, 58, 40, 41, 123, 125, 61, 60, 62, 43, 45, 47] (by decide) sb[i] true (Lib.hid ((Lx.sym_has _).trans (decide_eq_true (by rw [HCb.out]; decide))))).mono ?_
      rintro e W2 ⟨rfl, rfl⟩
      go_upto_region 25 with fail
      obtain ⟨m, hm⟩ : ∃ m, m = i + 1 := ⟨_, rfl⟩
      have hm1 : (i : Int) + 1 = (m : Int) := by omega
      have hm2 : (i : Int) ≤ (m : Int) := by omega
      have hm3 : (m : Int) ≤ (sb.size : Int) := by omega
      have hm4 : m - i = 1 := by omega
      have hm5 : i ≤ m := by omega
      have hm6 : m ≤ s.length := by omega
      clear r1 r2 r3
      (first | rw [hm1] | simp only [hm1])
      clear hm hm1
      have HE : Hid ((Lx.tok (s.drop i)).2.2 = 0 ∧ tkv (Lx.mk i (s.drop i)) = .agg #[.int .i64 3, .string (sb.extract i m), .int .i64 0, .int .i64 (i : Int)]) := Lib.hid (by exact tok_ok HSB (by rw [hm4, HS7.out, if_neg H61.out]) hm5 (by decide) hm6)
      go_wp2_with fail
      exact bodyPost_ret (v := .tuple #[.agg #[.int .i64 3, .string (sb.extract i m), .int .i64 0, .int .i64 (i : Int)], .int .i64 0]) (by simp [results, Tryd.results71, go_sem, n47, n74, y0, y1, y2, y3, z0, z1, z2, z3]) rfl ⟨_, 0, rfl, Lib.hid ⟨HE.out.1.symm, _, _, _, _, rfl, fun _ => HE.out.2.symm⟩, ((((((HC1.out).setCell _ _ (.inr HW4.out.2)).setCell _ _ (.inr HW4.out.2)).setCell _ _ (.inr HW4.out.1)).setCell _ _ (.inr HW4.out.1)).setCell _ _ (.inr HW4.out.1)).setCell _ _ (.inr HW4.out.1)⟩
   · have j1 : ¬ (i : Int) + 1 < (sb.size : Int) := by omega
     go_wp2_with fail
     refine (has_spec _ [59, 44, 46, 58, 40, 41, 123, 125, 61, 60, 62, 43, 45, 47] (by decide) sb[i] true (Lib.hid ((Lx.sym_has _).trans (decide_eq_true (by rw [HCb.out]; decide))))).mono ?_
     rintro e W2 ⟨rfl, rfl⟩
     go_upto_region 25 with fail
     obtain ⟨m, hm⟩ : ∃ m, m = i + 1 := ⟨_, rfl⟩
     have hm1 : (i : Int) + 1 = (m : Int) := by omega
     have hm2 : (i : Int) ≤ (m : Int) := by omega
     have hm3 : (m : Int) ≤ (sb.size : Int) := by omega
     have hm4 : m - i = 1 := by omega
     have hm5 : i ≤ m := by omega
     have hm6 : m ≤ s.length := by omega
     clear r1 r2 r3
     (first | rw [hm1] | simp only [hm1])
     clear hm hm1
     have HE : Hid ((Lx.tok (s.drop i)).2.2 = 0 ∧ tkv (Lx.mk i (s.drop i)) = .agg #[.int .i64 3, .string (sb.extract i m), .int .i64 0, .int .i64 (i : Int)]) := Lib.hid (by exact tok_ok HSB (by rw [hm4, HS7.out, List.getElem?_eq_none (by omega)]; rfl) hm5 (by decide) hm6)
     go_wp2_with fail
     exact bodyPost_ret (v := .tuple #[.agg #[.int .i64 3, .string (sb.extract i m), .int .i64 0, .int .i64 (i : Int)], .int .i64 0]) (by simp [results, Tryd.results71, go_sem, n47, n74, y0, y1, y2, y3, z0, z1, z2, z3]) rfl ⟨_, 0, rfl, Lib.hid ⟨HE.out.1.symm, _, _, _, _, rfl, fun _ => HE.out.2.symm⟩, ((((((HC1.out).setCell _ _ (.inr HW4.out.2)).setCell _ _ (.inr HW4.out.2)).setCell _ _ (.inr HW4.out.1)).setCell _ _ (.inr HW4.out.1)).setCell _ _ (.inr HW4.out.1)).setCell _ _ (.inr HW4.out.1)⟩
 · have HS7 : Hid (Lx.tok (s.drop i) = if s[i + 1]? = some 61 then (3, 2, 0) else (3, 1, 5)) := Lib.hid (by rw [HTK.out]; simp)
   refine (has_spec _ [33, 60, 62] (by decide) sb[i] true (Lib.hid ((Lx.pre_has _).trans (decide_eq_true (by rw [HCb.out]; decide))))).mono ?_
   rintro e W2 ⟨rfl, rfl⟩
   by_cases hi1 : i + 1 < s.length
   · have j1 : (i : Int) + 1 < (sb.size : Int) := by omega
     have j2 : (i : Int) + 1 + 1 ≤ (sb.size : Int) := by omega
     have j0 : (0 : Int) ≤ (i : Int) + 1 := by omega
     have hi2 : i + 1 < sb.size := by omega
     obtain ⟨bb, hbb⟩ : ∃ bb, ((sb[i + 1].toNat : Int) == 61) = bb := ⟨_, rfl⟩
     have h61 := eq61 HSB hi2 bb hbb
     cases bb with
     | true =>
      have H61 := Lib.hid (h61.2 rfl)
      clear h61
      go_upto_region 25 with fail
      obtain ⟨m, hm⟩ : ∃ m, m = i + 2 := ⟨_, rfl⟩
      have hm1 : (i : Int) + 1 + 1 = (m : Int) := by omega
      have hm2 : (i : Int) ≤ (m : Int) := by omega
      have hm3 : (m : Int) ≤ (sb.size : Int) := by omega
      have hm4 : m - i = 2 := by omega
      have hm5 : i ≤ m := by omega
      have hm6 : m ≤ s.length := by omega
      clear r1 r2 r3
      (first | rw [hm1] | simp only [hm1])
      clear hm hm1
      have HE : Hid ((Lx.tok (s.drop i)).2.2 = 0 ∧ tkv (Lx.mk i (s.drop i)) = .agg #[.int .i64 3, .string (sb.extract i m), .int .i64 0, .int .i64 (i : Int)]) := Lib.hid (by exact tok_ok HSB (by rw [hm4, HS7.out, if_pos H61.out]) hm5 (by decide) hm6)
      go_wp2_with fail
      exact bodyPost_ret (v := .tuple #[.agg #[.int .i64 3, .string (sb.extract i m), .int .i64 0, .int .i64 (i : Int)], .int .i64 0]) (by simp [results, Tryd.results71, go_sem, n47, n74, y0, y1, y2, y3, z0, z1, z2, z3]) rfl ⟨_, 0, rfl, Lib.hid ⟨HE.out.1.symm, _, _, _, _, rfl, fun _ => HE.out.2.symm⟩, ((((((HC1.out).setCell _ _ (.inr HW4.out.2)).setCell _ _ (.inr HW4.out.2)).setCell _ _ (.inr HW4.out.1)).setCell _ _ (.inr HW4.out.1)).setCell _ _ (.inr HW4.out.1)).setCell _ _ (.inr HW4.out.1)⟩
     | false =>
      have H61 : Hid (¬ s[i + 1]? = some 61) := Lib.hid (fun h => by have := h61.1 h; cases this)
      clear h61
      go_wp2_with fail
      refine (has_spec _ [59, 44, 46, 58, 40, 41, 123, 125, 61, 60, 62, 43, 45, 47] (by decide) sb[i] false (Lib.hid ((Lx.sym_has _).trans (decide_eq_false (by rw [HCb.out]; decide))))).mono ?_
      rintro e W2 ⟨rfl, rfl⟩
      go_wp2_with fail
      have HE : Hid ((Lx.tok (s.drop i)).2.2 = 5) := Lib.hid (by rw [HS7.out, if_neg H61.out])
      exact bodyPost_ret (v := .tuple #[.agg #[.int .i64 0, .string ⟨#[]⟩, .int .i64 0, .int .i64 0], .int .i64 5]) (by simp [results, Tryd.results71, go_sem, n47, n74, y0, y1, y2, y3, z0, z1, z2, z3]) rfl ⟨_, 5, rfl, Lib.hid ⟨HE.out.symm, _, _, _, _, rfl, fun h => by cases h⟩, (((((HC1.out).setCell _ _ (.inr HW4.out.2)).setCell _ _ (.inr HW4.out.1)).setCell _ _ (.inr HW4.out.1)).setCell _ _ (.inr HW4.out.1)).setCell _ _ (.inr HW4.out.1)⟩
   · have j1 : ¬ (i : Int) + 1 < (sb.size : Int) := by omega
     go_wp2_with fail
     refine (has_spec _ [59, 44, 46, 58, 40, 41, 123, 125, 61, 60, 62, 43, 45, 47] (by decide) sb[i] false (Lib.hid ((Lx.sym_has _).trans (decide_eq_false (by rw [HCb.out]; decide))))).mono ?_
     rintro e W2 ⟨rfl, rfl⟩
     go_wp2_with fail
     have HE : Hid ((Lx.tok (s.drop i)).2.2 = 5) := Lib.hid (by rw [HS7.out, List.getElem?_eq_none (by omega)]; rfl)
     exact bodyPost_ret (v := .tuple #[.agg #[.int .i64 0, .string ⟨#[]⟩, .int .i64 0, .int .i64 0], .int .i64 5]) (by simp [results, Tryd.results71, go_sem, n47, n74, y0, y1, y2, y3, z0, z1, z2, z3]) rfl ⟨_, 5, rfl, Lib.hid ⟨HE.out.symm, _, _, _, _, rfl, fun h => by cases h⟩, (((((HC1.out).setCell _ _ (.inr HW4.out.2)).setCell _ _ (.inr HW4.out.1)).setCell _ _ (.inr HW4.out.1)).setCell _ _ (.inr HW4.out.1)).setCell _ _ (.inr HW4.out.1)⟩
end Go.Proofs.YtgbooiaedbpenaaDoor
namespace Go.Proofs.YtgbooiaedbpenaaDoor
set_option linter.unusedVariables false
set_option linter.unusedSimpArgs false
open Go Go.RowKit Go.Shelf
attribute [local irreducible] Lx.cls Lx.sc

theorem lnext_spec (w : World) (s : Bytes) (hs : s.length ≤ 1000000) (i : Nat) (hi : i < s.length) (HT : Hid (Lx.cls s[i] ≠ 1 ∧ Lx.cls s[i] ≠ 2)) :
 Calls Tryd.prog 71 #[.string ⟨s.toArray⟩, .int .i64 (i : Int)] w (NextR s i w) := by
 by_cases h3 : Lx.at' s i = 3
 · exact next_letter w s hs i hi HT h3
 · by_cases h4 : Lx.at' s i = 4
   · exact next_digit w s hs i hi HT h4
   · exact next_sym w s hs i hi HT ⟨h3, h4⟩
namespace Lx
theorem lex_fin {s : Bytes} (h : s.length ≤ 20000) : lex s = fin 0 [] (sc 0 s) := by
 unfold lex sc
 rw [if_neg (by omega)]
theorem fst_good {p : List (Tk × Nat)} (h : good p = true) : ∀ y ∈ p, y.2 = 0 := good_iff.1 h
/-- What stands at the next token. -/
theorem sc_here {s : Bytes} {e : Nat} (h : e < s.length) (ha : cls s[e] ≠ 1 ∧ cls s[e] ≠ 2) :
 sc e (s.drop e) = if (tok (s.drop e)).2.2 ≠ 0 then [(mk e (s.drop e), (tok (s.drop e)).2.2)] else (mk e (s.drop e), 0) :: sc (e + (tok (s.drop e)).2.1) (s.drop (e + (tok (s.drop e)).2.1)) := by
 have hd := List.drop_eq_getElem_cons h
 by_cases h0 : (tok (s.drop e)).2.2 = 0
 · rw [if_neg (by simpa using h0), ← List.drop_drop]
   rw [hd] at h0 ⊢
   rw [sc_tok ha.1 ha.2 h0]
 · rw [if_pos h0]
   rw [hd] at h0 ⊢
   rw [sc_err ha.1 ha.2 h0]
theorem tok_within {s : Bytes} {e : Nat} (h : e < s.length) (h0 : (tok (s.drop e)).2.2 = 0) : (mk e (s.drop e)).text.length = (tok (s.drop e)).2.1 ∧ e + (tok (s.drop e)).2.1 ≤ s.length ∧ 0 < (tok (s.drop e)).2.1 := by
 have hd := List.drop_eq_getElem_cons h
 have hl : (s.drop e).length = s.length - e := List.length_drop
 have hp : 0 < (tok (s.drop e)).2.1 ∧ (tok (s.drop e)).2.1 ≤ (s.drop e).length := by
  rw [hd] at h0 ⊢
  exact tok_pos h0
 refine ⟨?_, by omega, hp.1⟩
 show ((s.drop e).take _).length = _
 rw [List.length_take]
 omega
end Lx
theorem owns_base {w : World} {base : Nat} {e : TypeId} {size : Nat} {v : Value} {n : Nat} {xs : List Value} (h : w.ownsRow base e size v n xs) : ∀ k, v.ownBlock = some k → base ≤ k ∧ k < w.heap.size := by
 intro k hk
 rcases h.2 with ⟨rfl, _⟩ | ⟨g, cap, cur, rfl, hb, hg, _⟩
 · cases hk
 · simp [Value.ownBlock] at hk
   subst hk
   exact ⟨hb, (Array.getElem?_eq_some_iff.1 hg).1⟩
theorem ref_long (w : World) (s : Bytes) (hs : 20000 < s.length) :
 Calls Tryd.prog 51 #[.string ⟨s.toArray⟩] w fun e w' => e = .returned (.tuple #[.slice none 0 0, .int .i64 3, .int .i64 (-1)]) ∧ w' = w := by
 obtain ⟨sb, hsb⟩ : ∃ sb : ByteArray, sb = ⟨s.toArray⟩ := ⟨_, rfl⟩
 have hsz : (20000 : Int) < (sb.size : Int) := by rw [hsb, size_of9]; omega
 rw [← hsb]
 clear hsb hs
 go_enter Tryd.func51, Tryd.ntmps51
 go_wp2_with fail
 exact bodyPost_ret (v := .tuple #[.slice none 0 0, .int .i64 3, .int .i64 (-1)]) (by simp [results, Tryd.results51, go_sem]) rfl ⟨rfl, rfl⟩
set_option maxRecDepth 100000 in
set_option maxHeartbeats 2000000 in
theorem ref_short (w : World) (s : Bytes) (hs : s.length ≤ 20000) :
 Calls Tryd.prog 51 #[.string ⟨s.toArray⟩] w fun e w' => ∃ v, e = .returned (.tuple #[v, .int .i64 (Lx.lex s).2.1, .int .i64 (Lx.lex s).2.2]) ∧ TokS w' v (Lx.lex s).1 ∧ Chg [] w w' := by
 obtain ⟨sb, hsb⟩ : ∃ sb : ByteArray, sb = ⟨s.toArray⟩ := ⟨_, rfl⟩
 have HSB := Lib.hid hsb
 have HSZ : Hid (sb.size = s.length) := Lib.hid (by rw [hsb]; exact size_of9 s)
 rw [← hsb]
 clear hsb
 have q0 : ¬ (20000 : Int) < (sb.size : Int) := by rw [HSZ.out]; omega
 have HS := Lib.hid hs
 obtain ⟨R, hR⟩ : ∃ R, R = Lx.lex s := ⟨_, rfl⟩
 have HR : Hid (R = Lx.fin 0 [] (Lx.sc 0 s)) := Lib.hid (by rw [hR]; exact Lx.lex_fin hs)
 rw [← hR]
 clear hR hs
 go_enter Tryd.func51, Tryd.ntmps51
 go_wp2_with fail
 rw [HSB.out]
 refine (gap_spec _ s (by have := HS.out; omega) 0 0 rfl (Nat.zero_le _)).mono ?_
 rintro e w1 ⟨⟨j, rfl, _, hj, ha, hsc⟩, rfl⟩
 rw [← HSB.out]
 have hsc0 := hsc 0
 rw [List.drop_zero, Nat.zero_add, Nat.zero_add] at hsc0
 have H0 := Lib.hid (And.intro ha hsc0)
 clear ha hsc hsc0
 go_upto_region 5 with fail
 go_loopw [5, 6] (fun v at_ wr => ∃ (pre : List (Lx.Tk × Nat)) (e : Nat), at_ = .int .i64 (e : Int) ∧ e ≤ s.length ∧ Hid (Lx.atTok s e ∧ Lx.sc 0 s = pre ++ Lx.sc e (s.drop e) ∧ Lx.good pre = true ∧ pre.length ≤ 5000) ∧
  Hid (wr.ownsRow w1.heap.size 137 4 v pre.length ((pre.map Prod.fst).flatMap tkc)) ∧ Chg [] w1 wr) (fun _ at_ _ => s.length - (intOf at_).toNat)
 case atStart => exact ⟨[], j, rfl, hj, Lib.hid ⟨H0.out.1, H0.out.2, rfl, Nat.zero_le _⟩, Lib.hid ⟨rfl, .inl ⟨rfl, rfl⟩⟩, Chg.refl _ _⟩
 case round =>
  obtain ⟨pre, e, rfl, hes, HP, HO, hc⟩ := hrel
  have HC := Lib.hid hc
  clear hc
  obtain ⟨ao, cap, rfl⟩ := owns_form HO.out
  obtain ⟨q, hq⟩ : ∃ q, q = pre.length := ⟨_, rfl⟩
  have hq5 : q ≤ 5000 := by rw [hq]; exact HP.out.2.2.2
  by_cases hlt : e < s.length
  · have q1 : (e : Int) < (sb.size : Int) := by rw [HSZ.out]; omega
    have HLT := Lib.hid hlt
    have HHERE := Lib.hid (Lx.sc_here hlt (HP.out.1 hlt))
    go_wp2_with fail
    rw [HSB.out]
    refine (lnext_spec _ s (by have := HS.out; omega) e hlt (Lib.hid (HP.out.1 hlt))).mono ?_
    rintro _ w2 ⟨tk, er, rfl, HN, hc2⟩
    rw [← HSB.out]
    have HC2 := Lib.hid (HC.out.trans hc2 (by simp))
    have HO2 : Hid (w2.ownsRow w1.heap.size 137 4 (.slice ao pre.length cap) pre.length ((pre.map Prod.fst).flatMap tkc)) := Lib.hid (row_keptB HO.out hc2)
    obtain ⟨k, x, n, a, rfl, htk⟩ := HN.out.2
    have HTK := Lib.hid htk
    have HER := Lib.hid HN.out.1
    rw [← hq]
    have HQ := Lib.hid hq
    clear hc2 HN htk hq
    by_cases h0 : er = 0
    · subst h0
      have hmk := HTK.out rfl
      obtain ⟨T, hT⟩ : ∃ T, T = Lx.mk e (s.drop e) := ⟨_, rfl⟩
      rw [← hT] at hmk
      have hh := HHERE.out
      rw [← HER.out, if_neg (by simp), ← hT] at hh
      have HH := Lib.hid hh
      unfold tkv at hmk
      simp only [Value.agg.injEq, Array.mk.injEq, List.cons.injEq, and_true, Value.int.injEq, Value.string.injEq, true_and] at hmk
      obtain ⟨rfl, rfl, rfl, rfl⟩ := hmk
      obtain ⟨tl, htl⟩ : ∃ tl, T.text.length = tl := ⟨_, rfl⟩
      have hlen : tl = (Lx.tok (s.drop e)).2.1 ∧ e + tl ≤ s.length ∧ 0 < tl := by
       have h9 := Lx.tok_within hlt HER.out.symm
       rw [← hT, htl] at h9
       obtain ⟨x1, x2, x3⟩ := h9
       rw [← x1] at x2 x3
       exact ⟨x1, x2, x3⟩
      have HLEN := Lib.hid hlen
      have htle := hlen.2.1
      have HTA : Hid (T.at_ = e) := Lib.hid (by rw [hT]; rfl)
      clear hh hT hlen HHERE
      by_cases h5 : q = 5000
      · have n5 : ((q : Int) == 5000) = true := by rw [h5]; rfl
        have HFIN : Hid (R = ([], 3, (e : Int))) := Lib.hid (by
         rw [HR.out, HP.out.2.1, HH.out, Lx.fin_stop pre (T, 0) _ 0 [] (Lx.fst_good HP.out.2.2.1) (by have := HP.out.2.2.2; omega), if_neg (by simp), if_pos (by rw [← HQ.out]; omega), HTA.out])
        clear h5
        go_wp2_with fail
        exact bodyPost_ret (v := .tuple #[.slice none 0 0, .int .i64 3, .int .i64 (e : Int)]) (by simp [results, Tryd.results51, go_sem]) rfl ⟨.slice none 0 0, by rw [HFIN.out]; rfl, by rw [HFIN.out]; exact ⟨none, 0, rfl, Nat.le_refl _, fun i t h => by simp at h⟩, HC2.out.alloc _⟩
      · have n5 : ((q : Int) == 5000) = false := beq_eq_false_iff_ne.2 (by omega)
        obtain ⟨i0, hi, hz0, hz1, hz2⟩ := info_parts info_tok
        go_upto_region 12 with fail
        obtain ⟨W2, hW2⟩ : ∃ W2, W2 = w2.alloc (.cells #[.int .i64 T.kind, .string ⟨T.text.toArray⟩, .int .i64 T.n, .int .i64 T.at_] 137) := ⟨_, rfl⟩
        rw [← hW2]
        have hb7 : Blk W2 w2.heap.size (tkc T) 137 := by rw [hW2]; exact Blk.new w2 (tkc T) _
        have hcw : Chg [] w2 W2 := by rw [hW2]; exact (Chg.refl _ _).alloc _
        obtain ⟨b7, hb7e⟩ : ∃ b7, b7 = w2.heap.size := ⟨_, rfl⟩
        rw [← hb7e] at hb7 ⊢
        have HB7 := Lib.hid hb7
        have HCW := Lib.hid (HC2.out.trans hcw (by simp))
        have HOW : Hid (W2.ownsRow w1.heap.size 137 4 (.slice ao q cap) q ((pre.map Prod.fst).flatMap tkc)) := Lib.hid (by rw [HQ.out]; exact row_keptB HO2.out hcw)
        have hfar : ∀ k, (Value.slice ao q cap).ownBlock = some k → k ≠ b7 := fun k hk => by
         have := (owns_base HO2.out k (by rw [← HQ.out]; exact hk)).2
         omega
        have HFAR := Lib.hid hfar
        have p0 := hb7.cell (i := 0) rfl
        have p1 := hb7.cell (i := 1) rfl
        have p2 := hb7.cell (i := 2) rfl
        have p3 := hb7.cell (i := 3) rfl
        have lb7 := hb7.lt
        clear hW2 hb7 hcw hfar hb7e
        go_wp2_with (at_builtin; refine wpList_append_lies (W2.alloc (.cells (tkc T).toArray 137)) rfl (.tmp 35) (.tmp 37) 113 rfl w1.heap.size 137 i0 (.agg #[.int .i64 0, .string ⟨#[]⟩, .int .i64 0, .int .i64 0]) 4 40 Tryd.underlying113 hi hz0 hz1 hz2 rfl (by decide) (.slice ao q cap) q ((pre.map Prod.fst).flatMap tkc) rfl (row_keptB HOW.out ((Chg.refl _ _).alloc _)) ⟨W2.heap.size, 0, none⟩ 1 1 (tkc T) rfl rfl (fun j u hj => by rw [addr_add, Nat.zero_add]; exact (Blk.new W2 (tkc T) _).cell hj) (by intro u hu; simp [tkc] at hu; rcases hu with rfl | rfl | rfl | rfl <;> rfl) (by decide) (by unfold maxLen; omega) (by omega) (by have := HCW.out.size; simp; omega) _ rfl ?kk)
        case' kk => intro g9 cap9 w10 hown hgrow hat hlt10
        have c1 : w10.cell? ⟨b7, 1, none⟩ = some (.string ⟨T.text.toArray⟩) := (hgrow.cell_far ⟨b7, 1, none⟩ (by simp; omega) (fun e => HFAR.out _ e.symm rfl)).trans ((World.cell?_alloc_past _ b7 1 lb7).trans p1)
        have HC10 : Hid (Chg [] w1 w10) := Lib.hid ((HCW.out.alloc _).grown hgrow (fun k hk => .inr (owns_base HOW.out k hk).1))
        have HO10 : Hid (w10.ownsRow w1.heap.size 137 4 (.slice (some ⟨g9, 0, none⟩) (q + 1) cap9) (q + 1) ((pre.map Prod.fst).flatMap tkc ++ tkc T)) := Lib.hid hown
        clear hown hgrow hat p0 p1 p2 p3 n5
        have hss := HS.out
        go_wp2_with fail
        rw [HSB.out]
        refine (gap_spec _ s (by omega) ((e : Int) + (tl : Int)) (e + tl) (by omega) htle).mono ?_
        rintro _ w11 ⟨⟨j2, rfl, hj1, hj2, ha2, hsc2⟩, rfl⟩
        rw [← HSB.out]
        have HNEW : Hid (Lx.atTok s j2 ∧ Lx.sc 0 s = (pre ++ [(T, 0)]) ++ Lx.sc j2 (s.drop j2) ∧ Lx.good (pre ++ [(T, 0)]) = true ∧ (pre ++ [(T, 0)]).length ≤ 5000) := Lib.hid (by
         have h8 := hsc2 0
         rw [Nat.zero_add, Nat.zero_add] at h8
         refine ⟨ha2, ?_, ?_, ?_⟩
         · rw [← h8, List.append_assoc, List.singleton_append, HLEN.out.1, ← HH.out]
           exact HP.out.2.1
         · rw [Lx.good_iff]
           intro y hy
           rcases List.mem_append.1 hy with h | h
           · exact Lx.fst_good HP.out.2.2.1 y h
           · rw [List.mem_singleton.1 h]
         · rw [List.length_append, ← HQ.out]
           simp
           omega)
        have hpos := HLEN.out.2.2
        clear ha2 hsc2
        go_wp2_with fail
        refine ⟨⟨pre ++ [(T, 0)], j2, rfl, hj2, HNEW, Lib.hid ?_, HC10.out⟩, by simp [intOf]; omega⟩
        simp only [List.length_append, List.length_cons, List.length_nil, List.map_append, List.map_cons, List.map_nil, List.flatMap_append, List.flatMap_cons, List.flatMap_nil, List.append_nil]
        rw [← HQ.out]
        exact HO10.out
    · have n0 : ((er : Int) != 0) = true := bne_iff_ne.2 (by omega)
      have HFIN : Hid (R = ([], er, (e : Int))) := Lib.hid (by
       rw [HR.out, HP.out.2.1, HHERE.out, if_pos (by rw [← HER.out]; exact h0), Lx.fin_stop pre _ [] 0 [] (Lx.fst_good HP.out.2.2.1) (by have := HP.out.2.2.2; omega), if_pos (by rw [← HER.out]; exact h0), ← HER.out]
       rfl)
      go_wp2_with fail
      exact bodyPost_ret (v := .tuple #[.slice none 0 0, .int .i64 er, .int .i64 (e : Int)]) (by simp [results, Tryd.results51, go_sem]) rfl ⟨.slice none 0 0, by rw [HFIN.out], by rw [HFIN.out]; exact ⟨none, 0, rfl, Nat.le_refl _, fun i t h => by simp at h⟩, HC2.out.alloc _⟩
  · have q1 : ¬ (e : Int) < (sb.size : Int) := by rw [HSZ.out]; omega
    have HFIN : Hid (R = (pre.map Prod.fst, 0, 0)) := Lib.hid (by
     have he : s.drop e = [] := List.drop_eq_nil_of_le (by omega)
     rw [HR.out, HP.out.2.1, he, Lx.sc_nil, List.append_nil, Lx.fin_good pre 0 [] HP.out.2.2.1 (by have := HP.out.2.2.2; omega)]
     rfl)
    clear hq
    go_wp2_with fail
    exact bodyPost_ret (v := .tuple #[.slice ao pre.length cap, .int .i64 0, .int .i64 0]) (by simp [results, Tryd.results51, go_sem]) rfl ⟨.slice ao pre.length cap, by rw [HFIN.out]; rfl, by rw [HFIN.out]; exact toks_of_owns (by rw [List.length_map]; exact HO.out), HC.out⟩
theorem ref_spec (w : World) (s : Bytes) (hs : s.length ≤ 1000000) :
 Calls Tryd.prog 51 #[.string ⟨s.toArray⟩] w fun e w' => ∃ v, e = .returned (.tuple #[v, .int .i64 (Lx.lex s).2.1, .int .i64 (Lx.lex s).2.2]) ∧ TokS w' v (Lx.lex s).1 ∧ Chg [] w w' := by
 by_cases h : s.length ≤ 20000
 · exact ref_short w s h
 · refine (ref_long w s (by omega)).mono ?_
   rintro e w' ⟨rfl, rfl⟩
   have hl : Lx.lex s = ([], 3, -1) := by unfold Lx.lex; rw [if_pos (by omega)]
   rw [hl]
   exact ⟨_, rfl, ⟨none, 0, rfl, Nat.le_refl _, fun i t h => by simp at h⟩, Chg.refl _ _⟩
end Go.Proofs.YtgbooiaedbpenaaDoor
