/-
 LxTb, LxTc in one text.
-/
import Derived.Test.YtocadlcglgpdcaaDoorPqLw
namespace Go.Proofs.YtocadlcglgpdcaaDoor
set_option linter.unusedVariables false
set_option linter.unusedSimpArgs false
open Go Go.RowKit Go.Shelf
attribute [local irreducible] Lx.tab Lx.tab0 Lx.cls Go.wpStill

set_option maxRecDepth 100000 in
set_option maxHeartbeats 4000000 in
theorem next_digit (w : World) (s : Bytes) (hs : s.length ≤ 1000000) (i : Nat) (hi : i < s.length) (HT : Hid (Lx.cls s[i] ≠ 1 ∧ Lx.cls s[i] ≠ 2)) (hcl : Lx.at' s i = 4) :
 Calls Tryd.prog 38 #[.string ⟨s.toArray⟩, .int .i64 (i : Int)] w (NextR s i w) := by
 obtain ⟨sb, hsb⟩ : ∃ sb : ByteArray, sb = ⟨s.toArray⟩ := ⟨_, rfl⟩
 have HSB := Lib.hid hsb
 have HSZ : Hid (sb.size = s.length) := Lib.hid (by rw [hsb]; exact size_of9 s)
 rw [← hsb]
 clear hsb
 have q1 : (i : Int) < (sb.size : Int) := by rw [HSZ.out]; omega
 have q0 : (0 : Int) ≤ (i : Int) := by omega
 have hkk : i < sb.size := by rw [HSZ.out]; exact hi
 have HGE := Lib.hid (sb_get HSB hkk hi)
 have HTK := Lib.hid (Lx.tok_at s i hi)
 have HLT := Lib.hid hi
 rw [← Lx.at'_lt hi] at HTK
 obtain ⟨c, hc⟩ : ∃ c, Lx.at' s i = c := ⟨_, rfl⟩
 rw [hc] at HTK
 have HCc : Hid (Lx.cls s[i] = c) := Lib.hid ((Lx.at'_lt hi).symm.trans hc)
 have HT' : Hid (c ≠ 1 ∧ c ≠ 2) := Lib.hid (by rw [← HCc.out]; exact HT.out)
 have HCb : Hid (Lx.cls sb[i] = c) := Lib.hid (by rw [HGE.out]; exact HCc.out)
 have hcl' : c = 4 := by rw [hc] at hcl; exact hcl
 clear hc HT hcl
 go_enter Tryd.func38, Tryd.ntmps38
 go_wp2_with fail
 have hb4 := (Blk.new w [.int .i64 0, .string ⟨#[]⟩, .int .i64 0, .int .i64 0] 40).alloc (.cells #[.int .i64 0, .string ⟨#[]⟩, .int .i64 0, .int .i64 i] 40)
 have hb7 := Blk.new (w.alloc (.cells #[.int .i64 0, .string ⟨#[]⟩, .int .i64 0, .int .i64 0] 40)) [.int .i64 0, .string ⟨#[]⟩, .int .i64 0, .int .i64 i] 40
 have hcc : Chg [] w ((w.alloc (.cells #[.int .i64 0, .string ⟨#[]⟩, .int .i64 0, .int .i64 0] 40)).alloc (.cells #[.int .i64 0, .string ⟨#[]⟩, .int .i64 0, .int .i64 i] 40)) := ((Chg.refl _ _).alloc _).alloc _
 simp only [World.size_alloc] at hb7 ⊢
 obtain ⟨W1, hW1⟩ : ∃ W1, W1 = (w.alloc (.cells #[.int .i64 0, .string ⟨#[]⟩, .int .i64 0, .int .i64 0] 40)).alloc (.cells #[.int .i64 0, .string ⟨#[]⟩, .int .i64 0, .int .i64 i] 40) := ⟨_, rfl⟩
 rw [← hW1] at hb4 hb7 hcc ⊢
 obtain ⟨b4, e4⟩ : ∃ b4, b4 = w.heap.size := ⟨_, rfl⟩
 obtain ⟨b7, e7⟩ : ∃ b7, b7 = b4 + 1 := ⟨_, rfl⟩
 rw [← e4, ← e7] at hb7
 rw [← e4] at hb4
 rw [← e4, ← e7]
 have n47 : ¬ b4 = b7 := by omega
 have n74 : ¬ b7 = b4 := by omega
 have HB4 := Lib.hid hb4
 have HB7 := Lib.hid hb7
 have HC1 := Lib.hid hcc
 have HW4 : Hid (w.heap.size ≤ b4 ∧ w.heap.size ≤ b7) := Lib.hid (by omega)
 have y0 := hb4.cell (i := 0) rfl
 have y1 := hb4.cell (i := 1) rfl
 have y2 := hb4.cell (i := 2) rfl
 have y3 := hb4.cell (i := 3) rfl
 have z0 := hb7.cell (i := 0) rfl
 have z1 := hb7.cell (i := 1) rfl
 have z2 := hb7.cell (i := 2) rfl
 have z3 := hb7.cell (i := 3) rfl
 have fy0 := hb4.free 0
 have fy1 := hb4.free 1
 have fy2 := hb4.free 2
 have fy3 := hb4.free 3
 have fz0 := hb7.free 0
 have fz1 := hb7.free 1
 have fz2 := hb7.free 2
 have fz3 := hb7.free 3
 clear hW1 hb4 hb7 hcc e4 e7
 obtain rfl : c = 4 := hcl'
 have HT4 : Hid (Lx.tok (s.drop i) = (2, Lx.wl Lx.dig (s.drop i), if 10 < Lx.wl Lx.dig (s.drop i) ∨ Lx.at' s (i + Lx.wl Lx.dig (s.drop i)) = 3 ∨ Lx.at' s (i + Lx.wl Lx.dig (s.drop i)) = 5 then 6 else 0)) := Lib.hid HTK.out
 have hw1 := Lx.wl_drop Lx.dig s i hi
 rw [if_pos (by unfold Lx.dig; exact decide_eq_true HCc.out)] at hw1
 have HW1 := Lib.hid hw1
 clear hw1
 refine (letter_b _ sb[i] false (decide_eq_false (by rw [HCb.out]; decide))).mono ?_
 rintro e W2 ⟨rfl, rfl⟩
 go_wp2_with fail
 refine (digit_b _ sb[i] true (decide_eq_true HCb.out)).mono ?_
 rintro e W2 ⟨rfl, rfl⟩
 go_upto_region 11 with fail
 go_loop [6] (fun ev => ∃ m : Nat, ev = .int .i64 (m : Int) ∧ i < m ∧ m ≤ s.length ∧ Hid (Lx.wl Lx.dig (s.drop i) = (m - i) + Lx.wl Lx.dig (s.drop m))) (fun ev => s.length - (intOf ev).toNat)
 case atStart => exact ⟨i + 1, vint (by omega), by omega, by omega, Lib.hid (by rw [HW1.out]; omega)⟩
 case round =>
  obtain ⟨m, rfl, him, hml, hwl⟩ := hrel
  have m0 : (0 : Int) ≤ (m : Int) := by omega
  by_cases hm : m < s.length
  · have m1 : (m : Int) < (sb.size : Int) := by rw [HSZ.out]; omega
    have hmm : m < sb.size := by rw [HSZ.out]; exact hm
    have HGM := Lib.hid (sb_get HSB hmm hm)
    obtain ⟨b, hb⟩ : ∃ b, Lx.dig sb[m] = b := ⟨_, rfl⟩
    have HWW := Lib.hid (Lx.wl_drop Lx.dig s m hm)
    have HB := Lib.hid hb
    have HAT : Hid (Lx.at' s m = Lx.cls sb[m]) := Lib.hid ((Lx.at'_lt hm).trans (by rw [HGM.out]))
    clear hb
    go_wp2_with fail
    refine (digit_b _ sb[m] b HB.out).mono ?_
    rintro e W3 ⟨rfl, rfl⟩
    cases b with
    | true =>
     have HN : Hid (Lx.wl Lx.dig (s.drop i) = (m + 1 - i) + Lx.wl Lx.dig (s.drop (m + 1))) := Lib.hid (by
      rw [hwl.out, HWW.out, if_pos (by rw [← HGM.out]; exact HB.out)]
      omega)
     go_wp2_with fail
     go_round
     case rel => exact ⟨m + 1, vint (by omega), by omega, by omega, HN⟩
     case measure => simp [intOf]; omega
    | false =>
     have HN : Hid (Lx.wl Lx.dig (s.drop i) = m - i) := Lib.hid (by
      rw [hwl.out, HWW.out, if_neg (by rw [← HGM.out, HB.out]; decide)]
      omega)
     by_cases h24 : 10 < m - i
     · have k1 : (10 : Int) < (m : Int) - (i : Int) := by omega
       go_wp2_with fail
       have HE : Hid ((Lx.tok (s.drop i)).2.2 = 6) := Lib.hid (by rw [HT4.out, HN.out, if_pos (Or.inl h24)])
       exact bodyPost_ret (v := .tuple #[.agg #[.int .i64 0, .string ⟨#[]⟩, .int .i64 0, .int .i64 0], .int .i64 6]) (by simp [results, Tryd.results38, go_sem, n47, n74, y0, y1, y2, y3, z0, z1, z2, z3]) rfl ⟨_, 6, rfl, Lib.hid ⟨HE.out.symm, _, _, _, _, rfl, fun h => by cases h⟩, (((((HC1.out).setCell _ _ (.inr HW4.out.2)).setCell _ _ (.inr HW4.out.1)).setCell _ _ (.inr HW4.out.1)).setCell _ _ (.inr HW4.out.1)).setCell _ _ (.inr HW4.out.1)⟩
     · have k1 : ¬ (10 : Int) < (m : Int) - (i : Int) := by omega
       obtain ⟨b2, hb2⟩ : ∃ b2, Lx.word sb[m] = b2 := ⟨_, rfl⟩
       have HB2 := Lib.hid hb2
       clear hb2
       go_wp2_with fail
       refine (word_b _ sb[m] b2 HB2.out).mono ?_
       rintro e W3 ⟨rfl, rfl⟩
       cases b2 with
       | true =>
        go_wp2_with fail
        have HE : Hid ((Lx.tok (s.drop i)).2.2 = 6) := Lib.hid (by rw [HT4.out, HN.out, if_pos]; right; rw [Nat.add_sub_cancel' (Nat.le_of_lt him), HAT.out]; have h9 := HB2.out; have h8 := HB.out; unfold Lx.word at h9; unfold Lx.dig at h8; have h9 := of_decide_eq_true h9; have h8 := of_decide_eq_false h8; omega)
        exact bodyPost_ret (v := .tuple #[.agg #[.int .i64 0, .string ⟨#[]⟩, .int .i64 0, .int .i64 0], .int .i64 6]) (by simp [results, Tryd.results38, go_sem, n47, n74, y0, y1, y2, y3, z0, z1, z2, z3]) rfl ⟨_, 6, rfl, Lib.hid ⟨HE.out.symm, _, _, _, _, rfl, fun h => by cases h⟩, (((((HC1.out).setCell _ _ (.inr HW4.out.2)).setCell _ _ (.inr HW4.out.1)).setCell _ _ (.inr HW4.out.1)).setCell _ _ (.inr HW4.out.1)).setCell _ _ (.inr HW4.out.1)⟩
       | false =>
        have HR : Hid (Lx.tok (s.drop i) = (2, m - i, 0)) := Lib.hid (by
         rw [HT4.out, HN.out, if_neg]
         rw [Nat.add_sub_cancel' (Nat.le_of_lt him), HAT.out]
         have h9 := HB2.out
         unfold Lx.word at h9
         have h9 := of_decide_eq_false h9
         omega)
        have hnd : ∀ x ∈ (s.drop i).take (m - i), 48 ≤ x.toNat ∧ x.toNat ≤ 57 := by
         intro x hx
         rw [← HN.out] at hx
         have h9 := wl_take _ _ hx
         unfold Lx.dig at h9
         have h8 := Lx.dig_num x
         rw [h9] at h8
         exact of_decide_eq_true h8.symm
        have HND := Lib.hid hnd
        have hnl := Lx.num_lt (m - i) ((s.drop i).take (m - i)) (by rw [List.length_take, List.length_drop]; omega) (fun x hx => (hnd x hx).2)
        have HNL : Hid (Lx.num ((s.drop i).take (m - i)) < 10000000000) := Lib.hid (Nat.lt_of_lt_of_le hnl (Nat.pow_le_pow_right (n := 10) (by decide) (show m - i ≤ 10 by omega)))
        clear hnd hnl
        go_upto_region 17 with fail
        go_loopw [9] (fun ev wr => ∃ j : Nat, ev = .int .i64 (j : Int) ∧ i ≤ j ∧ j ≤ m ∧ Blk wr b7 [.int .i64 2, .string ⟨#[]⟩, .int .i64 (Lx.num ((s.drop i).take (j - i)) : Nat), .int .i64 i] 40 ∧ Blk wr b4 [.int .i64 0, .string ⟨#[]⟩, .int .i64 0, .int .i64 0] 40 ∧ Chg [] w wr) (fun ev _ => m - (intOf ev).toNat)
        case atStart => exact ⟨i, rfl, Nat.le_refl _, by omega, by rw [Nat.sub_self]; exact HB7.out.set 0 _, HB4.out.other _ _ (by exact n47), HC1.out.setCell _ _ (.inr HW4.out.2)⟩
        case round =>
         obtain ⟨j, rfl, hij, hjm, hb7, hb4, hcr⟩ := hrel
         have HR7 := Lib.hid hb7
         have HR4 := Lib.hid hb4
         have HCR := Lib.hid hcr
         have y0 := hb4.cell (i := 0) rfl
         have y1 := hb4.cell (i := 1) rfl
         have y2 := hb4.cell (i := 2) rfl
         have y3 := hb4.cell (i := 3) rfl
         have z0 := hb7.cell (i := 0) rfl
         have z1 := hb7.cell (i := 1) rfl
         have z2 := hb7.cell (i := 2) rfl
         have z3 := hb7.cell (i := 3) rfl
         have fy0 := hb4.free 0
         have fy1 := hb4.free 1
         have fy2 := hb4.free 2
         have fy3 := hb4.free 3
         have fz1 := hb7.free 1
         have fz2 := hb7.free 2
         clear hb7 hb4 hcr
         by_cases hjlt : j < m
         · obtain ⟨xx, hxx⟩ : ∃ xx, (s.drop i)[j - i]? = some xx := ⟨(s.drop i)[j - i]'(by rw [List.length_drop]; omega), by simp⟩
           have hjs : j < s.length := by omega
           have hjb : j < sb.size := by rw [HSZ.out]; exact hjs
           have hsx : s[j] = xx := by
            rw [List.getElem?_drop, Nat.add_sub_cancel' hij, List.getElem?_eq_getElem hjs] at hxx
            exact Option.some.inj hxx
           have hmemx : xx ∈ (s.drop i).take (m - i) := by
            refine List.mem_of_getElem? (i := j - i) ?_
            rw [List.getElem?_take_of_lt (by omega)]
            exact hxx
           have hdx := HND.out xx hmemx
           have HNX : Hid (Lx.num ((s.drop i).take (j + 1 - i)) = 10 * Lx.num ((s.drop i).take (j - i)) + (xx.toNat - 48)) := Lib.hid (by
            rw [show j + 1 - i = (j - i) + 1 by omega, List.take_add_one, hxx, Option.toList_some, Lx.num_snoc])
           obtain ⟨x, hx⟩ : ∃ x, sb[j].toNat = x := ⟨_, rfl⟩
           have hxe : xx.toNat = x := by rw [← hx, sb_get HSB hjb hjs, hsx]
           rw [hxe] at hdx HNX
           obtain ⟨nn, hnn⟩ : ∃ nn, Lx.num ((s.drop i).take (j - i)) = nn := ⟨_, rfl⟩
           rw [hnn] at z2 HNX HR7
           have hnb : nn < 1000000000000 := by
            have h1 := Lx.num_lt (j - i) ((s.drop i).take (j - i)) (by rw [List.length_take, List.length_drop]; omega) (fun y hy => (HND.out y ((List.take_subset_take_left _ (by omega)) hy)).2)
            rw [hnn] at h1
            exact Nat.lt_of_lt_of_le h1 (Nat.le_trans (Nat.pow_le_pow_right (n := 10) (by decide) (show j - i ≤ 12 by omega)) (by decide))
           have w1 : IntKind.u8.wrap ((x : Int) - 48) = (x : Int) - 48 := IntWalk.u8_in _ (by omega)
           have w2 : (0 : Int) ≤ (j : Int) := by omega
           have w3 : (j : Int) < (sb.size : Int) := by rw [HSZ.out]; omega
           have w4 : (j : Int) < (m : Int) := by omega
           clear hxx hsx hmemx hxe hnn
           go_wp2_with fail
           refine wp_region_tail 9 (by kernel_rfl) (by kernel_rfl) (fun L hL => ?_)
           repeat still_step
           refine wpStill_nil (hL _ ?_)
           clear hL L
           go_wp2_with fail
           refine ⟨⟨j + 1, vint (by omega), by omega, by omega, ?_, (HR4.out.other _ _ (by exact n47)).drew, (HCR.out.setCell _ _ (.inr HW4.out.2)).drew⟩, by simp [intOf]; omega⟩
           rw [HNX.out, show ((10 * nn + (x - 48) : Nat) : Int) = 10 * (nn : Int) + ((x : Int) - 48) by omega]
           exact HR7.out.set 2 (.int .i64 (10 * (nn : Int) + ((x : Int) - 48)))
         · have hjm2 : j = m := by omega
           subst hjm2
           obtain ⟨nn, hnn⟩ : ∃ nn, Lx.num ((s.drop i).take (j - i)) = nn := ⟨_, rfl⟩
           rw [hnn] at z2 HR7
           have HOK := Lib.hid (tok_ok2 HSB HR.out (by omega) hnn hml)
           have r1 : (i : Int) ≤ (j : Int) := by omega
           have r2 : (j : Int) ≤ (sb.size : Int) := by rw [HSZ.out]; omega
           clear hnn
           go_wp2_with fail
           exact bodyPost_ret (v := .tuple #[.agg #[.int .i64 2, .string (sb.extract i j), .int .i64 nn, .int .i64 (i : Int)], .int .i64 0]) (by simp [results, Tryd.results38, go_sem, n47, n74, y0, y1, y2, y3, z0, z1, z2, z3]) rfl ⟨_, 0, rfl, Lib.hid ⟨HOK.out.1.symm, _, _, _, _, rfl, fun _ => HOK.out.2.symm⟩, (((((HCR.out).setCell _ _ (.inr HW4.out.2)).setCell _ _ (.inr HW4.out.1)).setCell _ _ (.inr HW4.out.1)).setCell _ _ (.inr HW4.out.1)).setCell _ _ (.inr HW4.out.1)⟩
  · have m1 : ¬ (m : Int) < (sb.size : Int) := by rw [HSZ.out]; omega
    have HN : Hid (Lx.wl Lx.dig (s.drop i) = m - i) := Lib.hid (by rw [hwl.out, Lx.wl_end _ _ _ (by omega)]; omega)
    by_cases h24 : 10 < m - i
    · have k1 : (10 : Int) < (m : Int) - (i : Int) := by omega
      go_wp2_with fail
      have HE : Hid ((Lx.tok (s.drop i)).2.2 = 6) := Lib.hid (by rw [HT4.out, HN.out, if_pos (Or.inl h24)])
      exact bodyPost_ret (v := .tuple #[.agg #[.int .i64 0, .string ⟨#[]⟩, .int .i64 0, .int .i64 0], .int .i64 6]) (by simp [results, Tryd.results38, go_sem, n47, n74, y0, y1, y2, y3, z0, z1, z2, z3]) rfl ⟨_, 6, rfl, Lib.hid ⟨HE.out.symm, _, _, _, _, rfl, fun h => by cases h⟩, (((((HC1.out).setCell _ _ (.inr HW4.out.2)).setCell _ _ (.inr HW4.out.1)).setCell _ _ (.inr HW4.out.1)).setCell _ _ (.inr HW4.out.1)).setCell _ _ (.inr HW4.out.1)⟩
    · have k1 : ¬ (10 : Int) < (m : Int) - (i : Int) := by omega
      have HR : Hid (Lx.tok (s.drop i) = (2, m - i, 0)) := Lib.hid (by
       rw [HT4.out, HN.out, if_neg]
       rw [Nat.add_sub_cancel' (Nat.le_of_lt him), Lx.at'_past (by omega)]
       omega)
      have hnd : ∀ x ∈ (s.drop i).take (m - i), 48 ≤ x.toNat ∧ x.toNat ≤ 57 := by
       intro x hx
       rw [← HN.out] at hx
       have h9 := wl_take _ _ hx
       unfold Lx.dig at h9
       have h8 := Lx.dig_num x
       rw [h9] at h8
       exact of_decide_eq_true h8.symm
      have HND := Lib.hid hnd
      have hnl := Lx.num_lt (m - i) ((s.drop i).take (m - i)) (by rw [List.length_take, List.length_drop]; omega) (fun x hx => (hnd x hx).2)
      have HNL : Hid (Lx.num ((s.drop i).take (m - i)) < 10000000000) := Lib.hid (Nat.lt_of_lt_of_le hnl (Nat.pow_le_pow_right (n := 10) (by decide) (show m - i ≤ 10 by omega)))
      clear hnd hnl
      go_upto_region 17 with fail
      go_loopw [9] (fun ev wr => ∃ j : Nat, ev = .int .i64 (j : Int) ∧ i ≤ j ∧ j ≤ m ∧ Blk wr b7 [.int .i64 2, .string ⟨#[]⟩, .int .i64 (Lx.num ((s.drop i).take (j - i)) : Nat), .int .i64 i] 40 ∧ Blk wr b4 [.int .i64 0, .string ⟨#[]⟩, .int .i64 0, .int .i64 0] 40 ∧ Chg [] w wr) (fun ev _ => m - (intOf ev).toNat)
      case atStart => exact ⟨i, rfl, Nat.le_refl _, by omega, by rw [Nat.sub_self]; exact HB7.out.set 0 _, HB4.out.other _ _ (by exact n47), HC1.out.setCell _ _ (.inr HW4.out.2)⟩
      case round =>
       obtain ⟨j, rfl, hij, hjm, hb7, hb4, hcr⟩ := hrel
       have HR7 := Lib.hid hb7
       have HR4 := Lib.hid hb4
       have HCR := Lib.hid hcr
       have y0 := hb4.cell (i := 0) rfl
       have y1 := hb4.cell (i := 1) rfl
       have y2 := hb4.cell (i := 2) rfl
       have y3 := hb4.cell (i := 3) rfl
       have z0 := hb7.cell (i := 0) rfl
       have z1 := hb7.cell (i := 1) rfl
       have z2 := hb7.cell (i := 2) rfl
       have z3 := hb7.cell (i := 3) rfl
       have fy0 := hb4.free 0
       have fy1 := hb4.free 1
       have fy2 := hb4.free 2
       have fy3 := hb4.free 3
       have fz1 := hb7.free 1
       have fz2 := hb7.free 2
       clear hb7 hb4 hcr
       by_cases hjlt : j < m
       · obtain ⟨xx, hxx⟩ : ∃ xx, (s.drop i)[j - i]? = some xx := ⟨(s.drop i)[j - i]'(by rw [List.length_drop]; omega), by simp⟩
         have hjs : j < s.length := by omega
         have hjb : j < sb.size := by rw [HSZ.out]; exact hjs
         have hsx : s[j] = xx := by
          rw [List.getElem?_drop, Nat.add_sub_cancel' hij, List.getElem?_eq_getElem hjs] at hxx
          exact Option.some.inj hxx
         have hmemx : xx ∈ (s.drop i).take (m - i) := by
          refine List.mem_of_getElem? (i := j - i) ?_
          rw [List.getElem?_take_of_lt (by omega)]
          exact hxx
         have hdx := HND.out xx hmemx
         have HNX : Hid (Lx.num ((s.drop i).take (j + 1 - i)) = 10 * Lx.num ((s.drop i).take (j - i)) + (xx.toNat - 48)) := Lib.hid (by
          rw [show j + 1 - i = (j - i) + 1 by omega, List.take_add_one, hxx, Option.toList_some, Lx.num_snoc])
         obtain ⟨x, hx⟩ : ∃ x, sb[j].toNat = x := ⟨_, rfl⟩
         have hxe : xx.toNat = x := by rw [← hx, sb_get HSB hjb hjs, hsx]
         rw [hxe] at hdx HNX
         obtain ⟨nn, hnn⟩ : ∃ nn, Lx.num ((s.drop i).take (j - i)) = nn := ⟨_, rfl⟩
         rw [hnn] at z2 HNX HR7
         have hnb : nn < 1000000000000 := by
          have h1 := Lx.num_lt (j - i) ((s.drop i).take (j - i)) (by rw [List.length_take, List.length_drop]; omega) (fun y hy => (HND.out y ((List.take_subset_take_left _ (by omega)) hy)).2)
          rw [hnn] at h1
          exact Nat.lt_of_lt_of_le h1 (Nat.le_trans (Nat.pow_le_pow_right (n := 10) (by decide) (show j - i ≤ 12 by omega)) (by decide))
         have w1 : IntKind.u8.wrap ((x : Int) - 48) = (x : Int) - 48 := IntWalk.u8_in _ (by omega)
         have w2 : (0 : Int) ≤ (j : Int) := by omega
         have w3 : (j : Int) < (sb.size : Int) := by rw [HSZ.out]; omega
         have w4 : (j : Int) < (m : Int) := by omega
         clear hxx hsx hmemx hxe hnn
         go_wp2_with fail
         refine wp_region_tail 9 (by kernel_rfl) (by kernel_rfl) (fun L hL => ?_)
         repeat still_step
         refine wpStill_nil (hL _ ?_)
         clear hL L
         go_wp2_with fail
         refine ⟨⟨j + 1, vint (by omega), by omega, by omega, ?_, (HR4.out.other _ _ (by exact n47)).drew, (HCR.out.setCell _ _ (.inr HW4.out.2)).drew⟩, by simp [intOf]; omega⟩
         rw [HNX.out, show ((10 * nn + (x - 48) : Nat) : Int) = 10 * (nn : Int) + ((x : Int) - 48) by omega]
         exact HR7.out.set 2 (.int .i64 (10 * (nn : Int) + ((x : Int) - 48)))
       · have hjm2 : j = m := by omega
         subst hjm2
         obtain ⟨nn, hnn⟩ : ∃ nn, Lx.num ((s.drop i).take (j - i)) = nn := ⟨_, rfl⟩
         rw [hnn] at z2 HR7
         have HOK := Lib.hid (tok_ok2 HSB HR.out (by omega) hnn hml)
         have r1 : (i : Int) ≤ (j : Int) := by omega
         have r2 : (j : Int) ≤ (sb.size : Int) := by rw [HSZ.out]; omega
         clear hnn
         go_wp2_with fail
         exact bodyPost_ret (v := .tuple #[.agg #[.int .i64 2, .string (sb.extract i j), .int .i64 nn, .int .i64 (i : Int)], .int .i64 0]) (by simp [results, Tryd.results38, go_sem, n47, n74, y0, y1, y2, y3, z0, z1, z2, z3]) rfl ⟨_, 0, rfl, Lib.hid ⟨HOK.out.1.symm, _, _, _, _, rfl, fun _ => HOK.out.2.symm⟩, (((((HCR.out).setCell _ _ (.inr HW4.out.2)).setCell _ _ (.inr HW4.out.1)).setCell _ _ (.inr HW4.out.1)).setCell _ _ (.inr HW4.out.1)).setCell _ _ (.inr HW4.out.1)⟩
end Go.Proofs.YtocadlcglgpdcaaDoor
namespace Go.Proofs.YtocadlcglgpdcaaDoor
set_option linter.unusedVariables false
set_option linter.unusedSimpArgs false
open Go Go.RowKit Go.Shelf
attribute [local irreducible] Lx.tab Lx.tab0 Lx.cls Go.wpStill

set_option maxRecDepth 100000 in
set_option maxHeartbeats 4000000 in
theorem next_sym (w : World) (s : Bytes) (hs : s.length ≤ 1000000) (i : Nat) (hi : i < s.length) (HT : Hid (Lx.cls s[i] ≠ 1 ∧ Lx.cls s[i] ≠ 2)) (hcl : Lx.at' s i ≠ 3 ∧ Lx.at' s i ≠ 4) :
 Calls Tryd.prog 38 #[.string ⟨s.toArray⟩, .int .i64 (i : Int)] w (NextR s i w) := by
 obtain ⟨sb, hsb⟩ : ∃ sb : ByteArray, sb = ⟨s.toArray⟩ := ⟨_, rfl⟩
 have HSB := Lib.hid hsb
 have HSZ : Hid (sb.size = s.length) := Lib.hid (by rw [hsb]; exact size_of9 s)
 rw [← hsb]
 clear hsb
 have q1 : (i : Int) < (sb.size : Int) := by rw [HSZ.out]; omega
 have q0 : (0 : Int) ≤ (i : Int) := by omega
 have hkk : i < sb.size := by rw [HSZ.out]; exact hi
 have HGE := Lib.hid (sb_get HSB hkk hi)
 have HTK := Lib.hid (Lx.tok_at s i hi)
 have HLT := Lib.hid hi
 rw [← Lx.at'_lt hi] at HTK
 obtain ⟨c, hc⟩ : ∃ c, Lx.at' s i = c := ⟨_, rfl⟩
 rw [hc] at HTK
 have HCc : Hid (Lx.cls s[i] = c) := Lib.hid ((Lx.at'_lt hi).symm.trans hc)
 have HT' : Hid (c ≠ 1 ∧ c ≠ 2) := Lib.hid (by rw [← HCc.out]; exact HT.out)
 have HCb : Hid (Lx.cls sb[i] = c) := Lib.hid (by rw [HGE.out]; exact HCc.out)
 have hcl' : c ≠ 3 ∧ c ≠ 4 := by rw [hc] at hcl; exact hcl
 clear hc HT hcl
 go_enter Tryd.func38, Tryd.ntmps38
 go_wp2_with fail
 have hb4 := (Blk.new w [.int .i64 0, .string ⟨#[]⟩, .int .i64 0, .int .i64 0] 40).alloc (.cells #[.int .i64 0, .string ⟨#[]⟩, .int .i64 0, .int .i64 i] 40)
 have hb7 := Blk.new (w.alloc (.cells #[.int .i64 0, .string ⟨#[]⟩, .int .i64 0, .int .i64 0] 40)) [.int .i64 0, .string ⟨#[]⟩, .int .i64 0, .int .i64 i] 40
 have hcc : Chg [] w ((w.alloc (.cells #[.int .i64 0, .string ⟨#[]⟩, .int .i64 0, .int .i64 0] 40)).alloc (.cells #[.int .i64 0, .string ⟨#[]⟩, .int .i64 0, .int .i64 i] 40)) := ((Chg.refl _ _).alloc _).alloc _
 simp only [World.size_alloc] at hb7 ⊢
 obtain ⟨W1, hW1⟩ : ∃ W1, W1 = (w.alloc (.cells #[.int .i64 0, .string ⟨#[]⟩, .int .i64 0, .int .i64 0] 40)).alloc (.cells #[.int .i64 0, .string ⟨#[]⟩, .int .i64 0, .int .i64 i] 40) := ⟨_, rfl⟩
 rw [← hW1] at hb4 hb7 hcc ⊢
 obtain ⟨b4, e4⟩ : ∃ b4, b4 = w.heap.size := ⟨_, rfl⟩
 obtain ⟨b7, e7⟩ : ∃ b7, b7 = b4 + 1 := ⟨_, rfl⟩
 rw [← e4, ← e7] at hb7
 rw [← e4] at hb4
 rw [← e4, ← e7]
 have n47 : ¬ b4 = b7 := by omega
 have n74 : ¬ b7 = b4 := by omega
 have HB4 := Lib.hid hb4
 have HB7 := Lib.hid hb7
 have HC1 := Lib.hid hcc
 have HW4 : Hid (w.heap.size ≤ b4 ∧ w.heap.size ≤ b7) := Lib.hid (by omega)
 have y0 := hb4.cell (i := 0) rfl
 have y1 := hb4.cell (i := 1) rfl
 have y2 := hb4.cell (i := 2) rfl
 have y3 := hb4.cell (i := 3) rfl
 have z0 := hb7.cell (i := 0) rfl
 have z1 := hb7.cell (i := 1) rfl
 have z2 := hb7.cell (i := 2) rfl
 have z3 := hb7.cell (i := 3) rfl
 have fy0 := hb4.free 0
 have fy1 := hb4.free 1
 have fy2 := hb4.free 2
 have fy3 := hb4.free 3
 have fz0 := hb7.free 0
 have fz1 := hb7.free 1
 have fz2 := hb7.free 2
 have fz3 := hb7.free 3
 clear hW1 hb4 hb7 hcc e4 e7
 refine (letter_b _ sb[i] false (decide_eq_false (by rw [HCb.out]; exact hcl'.1))).mono ?_
 rintro e W2 ⟨rfl, rfl⟩
 go_wp2_with fail
 refine (digit_b _ sb[i] false (decide_eq_false (by rw [HCb.out]; exact hcl'.2))).mono ?_
 rintro e W2 ⟨rfl, rfl⟩
 have hc8 : c ≤ 8 := by rw [← HCc.out]; exact Lx.cls_le _
 have hc12 := HT'.out
 have r1 : (i : Int) ≤ (i : Int) + 1 := by omega
 have r2 : (i : Int) + 1 ≤ (sb.size : Int) := by omega
 have r3 : (i : Int) ≤ (i : Int) + 1 + 1 := by omega
 have hsz2 := HSZ.out
 go_wp2_with fail
 obtain rfl | rfl | rfl | rfl | rfl : c = 0 ∨ c = 5 ∨ c = 6 ∨ c = 7 ∨ c = 8 := by omega
 · refine (has_spec _ [33, 60, 62] (by decide) sb[i] false (Lib.hid ((Lx.pre_has _).trans (decide_eq_false (by rw [HCb.out]; decide))))).mono ?_
   rintro e W2 ⟨rfl, rfl⟩
   go_wp2_with fail
   refine (has_spec _ [59, 44, 46, 58, 40, 41, 123, 125, 61, 60, 62, 43, 45, 47] (by decide) sb[i] false (Lib.hid ((Lx.sym_has _).trans (decide_eq_false (by rw [HCb.out]; decide))))).mono ?_
   rintro e W2 ⟨rfl, rfl⟩
   go_wp2_with fail
   have HE : Hid ((Lx.tok (s.drop i)).2.2 = 5) := Lib.hid (by rw [HTK.out]; rfl)
   exact bodyPost_ret (v := .tuple #[.agg #[.int .i64 0, .string ⟨#[]⟩, .int .i64 0, .int .i64 0], .int .i64 5]) (by simp [results, Tryd.results38, go_sem, n47, n74, y0, y1, y2, y3, z0, z1, z2, z3]) rfl ⟨_, 5, rfl, Lib.hid ⟨HE.out.symm, _, _, _, _, rfl, fun h => by cases h⟩, (((((HC1.out).setCell _ _ (.inr HW4.out.2)).setCell _ _ (.inr HW4.out.1)).setCell _ _ (.inr HW4.out.1)).setCell _ _ (.inr HW4.out.1)).setCell _ _ (.inr HW4.out.1)⟩
 · refine (has_spec _ [33, 60, 62] (by decide) sb[i] false (Lib.hid ((Lx.pre_has _).trans (decide_eq_false (by rw [HCb.out]; decide))))).mono ?_
   rintro e W2 ⟨rfl, rfl⟩
   go_wp2_with fail
   refine (has_spec _ [59, 44, 46, 58, 40, 41, 123, 125, 61, 60, 62, 43, 45, 47] (by decide) sb[i] false (Lib.hid ((Lx.sym_has _).trans (decide_eq_false (by rw [HCb.out]; decide))))).mono ?_
   rintro e W2 ⟨rfl, rfl⟩
   go_wp2_with fail
   have HE : Hid ((Lx.tok (s.drop i)).2.2 = 5) := Lib.hid (by rw [HTK.out]; rfl)
   exact bodyPost_ret (v := .tuple #[.agg #[.int .i64 0, .string ⟨#[]⟩, .int .i64 0, .int .i64 0], .int .i64 5]) (by simp [results, Tryd.results38, go_sem, n47, n74, y0, y1, y2, y3, z0, z1, z2, z3]) rfl ⟨_, 5, rfl, Lib.hid ⟨HE.out.symm, _, _, _, _, rfl, fun h => by cases h⟩, (((((HC1.out).setCell _ _ (.inr HW4.out.2)).setCell _ _ (.inr HW4.out.1)).setCell _ _ (.inr HW4.out.1)).setCell _ _ (.inr HW4.out.1)).setCell _ _ (.inr HW4.out.1)⟩
 · refine (has_spec _ [33, 60, 62] (by decide) sb[i] false (Lib.hid ((Lx.pre_has _).trans (decide_eq_false (by rw [HCb.out]; decide))))).mono ?_
   rintro e W2 ⟨rfl, rfl⟩
   go_wp2_with fail
   refine (has_spec _ [59, 44, 46, 58, 40, 41, 123, 125, 61, 60, 62, 43, 45, 47] (by decide) sb[i] true (Lib.hid ((Lx.sym_has _).trans (decide_eq_true (by rw [HCb.out]; decide))))).mono ?_
   rintro e W2 ⟨rfl, rfl⟩
   go_upto_region 25 with fail
   obtain ⟨m, hm⟩ : ∃ m, m = i + 1 := ⟨_, rfl⟩
   have hm1 : (i : Int) + 1 = (m : Int) := by omega
   have hm2 : (i : Int) ≤ (m : Int) := by omega
   have hm3 : (m : Int) ≤ (sb.size : Int) := by omega
   have hm4 : m - i = 1 := by omega
   have hm5 : i ≤ m := by omega
   have hm6 : m ≤ s.length := by omega
   clear r1 r2 r3
   (first | rw [hm1] | simp only [hm1])
   clear hm hm1
   have HE : Hid ((Lx.tok (s.drop i)).2.2 = 0 ∧ tkv (Lx.mk i (s.drop i)) = .agg #[.int .i64 3, .string (sb.extract i m), .int .i64 0, .int .i64 (i : Int)]) := Lib.hid (by exact tok_ok HSB (by rw [hm4, HTK.out]; rfl) hm5 (by decide) hm6)
   go_wp2_with fail
   exact bodyPost_ret (v := .tuple #[.agg #[.int .i64 3, .string (sb.extract i m), .int .i64 0, .int .i64 (i : Int)], .int .i64 0]) (by simp [results, Tryd.results38, go_sem, n47, n74, y0, y1, y2, y3, z0, z1, z2, z3]) rfl ⟨_, 0, rfl, Lib.hid ⟨HE.out.1.symm, _, _, _, _, rfl, fun _ => HE.out.2.symm⟩, ((((((HC1.out).setCell _ _ (.inr HW4.out.2)).setCell _ _ (.inr HW4.out.2)).setCell _ _ (.inr HW4.out.1)).setCell _ _ (.inr HW4.out.1)).setCell _ _ (.inr HW4.out.1)).setCell _ _ (.inr HW4.out.1)⟩
 · have HS7 : Hid (Lx.tok (s.drop i) = if s[i + 1]? = some 61 then (3, 2, 0) else (3, 1, 0)) := Lib.hid (by rw [HTK.out]; simp)
   refine (has_spec _ [33, 60, 62] (by decide) sb[i] true (Lib.hid ((Lx.pre_has _).trans (decide_eq_true (by rw [HCb.out]; decide))))).mono ?_
   rintro e W2 ⟨rfl, rfl⟩
   by_cases hi1 : i + 1 < s.length
   · have j1 : (i : Int) + 1 < (sb.size : Int) := by omega
     have j2 : (i : Int) + 1 + 1 ≤ (sb.size : Int) := by omega
     have j0 : (0 : Int) ≤ (i : Int) + 1 := by omega
     have hi2 : i + 1 < sb.size := by omega
     obtain ⟨bb, hbb⟩ : ∃ bb, ((sb[i + 1].toNat : Int) == 61) = bb := ⟨_, rfl⟩
     have h61 := eq61 HSB hi2 bb hbb
     cases bb with
     | true =>
      have H61 := Lib.hid (h61.2 rfl)
      clear h61
      go_upto_region 25 with fail
      obtain ⟨m, hm⟩ : ∃ m, m = i + 2 := ⟨_, rfl⟩
      have hm1 : (i : Int) + 1 + 1 = (m : Int) := by omega
      have hm2 : (i : Int) ≤ (m : Int) := by omega
      have hm3 : (m : Int) ≤ (sb.size : Int) := by omega
      have hm4 : m - i = 2 := by omega
      have hm5 : i ≤ m := by omega
      have hm6 : m ≤ s.length := by omega
      clear r1 r2 r3
      (first | rw [hm1] | simp only [hm1])
      clear hm hm1
      have HE : Hid ((Lx.tok (s.drop i)).2.2 = 0 ∧ tkv (Lx.mk i (s.drop i)) = .agg #[.int .i64 3, .string (sb.extract i m), .int .i64 0, .int .i64 (i : Int)]) := Lib.hid (by exact tok_ok HSB (by rw [hm4, HS7.out, if_pos H61.out]) hm5 (by decide) hm6)
      go_wp2_with fail
      exact bodyPost_ret (v := .tuple #[.agg #[.int .i64 3, .string (sb.extract i m), .int .i64 0, .int .i64 (i : Int)], .int .i64 0]) (by simp [results, Tryd.results38, go_sem, n47, n74, y0, y1, y2, y3, z0, z1, z2, z3]) rfl ⟨_, 0, rfl, Lib.hid ⟨HE.out.1.symm, _, _, _, _, rfl, fun _ => HE.out.2.symm⟩, ((((((HC1.out).setCell _ _ (.inr HW4.out.2)).setCell _ _ (.inr HW4.out.2)).setCell _ _ (.inr HW4.out.1)).setCell _ _ (.inr HW4.out.1)).setCell _ _ (.inr HW4.out.1)).setCell _ _ (.inr HW4.out.1)⟩
     | false =>
      have H61 : Hid (¬ s[i + 1]? = some 61) := Lib.hid (fun h => by have := h61.1 h; cases this)
      clear h61
      go_wp2_with fail
      refine (has_spec _ [59, 44, 46, 58, 40, 41, 123, 125, 61, 60, 62, 43, 45, 47] (by decide) sb[i] true (Lib.hid ((Lx.sym_has _).trans (decide_eq_true (by rw [HCb.out]; decide))))).mono ?_
      rintro e W2 ⟨rfl, rfl⟩
      go_upto_region 25 with fail
      obtain ⟨m, hm⟩ : ∃ m, m = i + 1 := ⟨_, rfl⟩
      have hm1 : (i : Int) + 1 = (m : Int) := by omega
      have hm2 : (i : Int) ≤ (m : Int) := by omega
      have hm3 : (m : Int) ≤ (sb.size : Int) := by omega
      have hm4 : m - i = 1 := by omega
      have hm5 : i ≤ m := by omega
      have hm6 : m ≤ s.length := by omega
      clear r1 r2 r3
      (first | rw [hm1] | simp only [hm1])
      clear hm hm1
      have HE : Hid ((Lx.tok (s.drop i)).2.2 = 0 ∧ tkv (Lx.mk i (s.drop i)) = .agg #[.int .i64 3, .string (sb.extract i m), .int .i64 0, .int .i64 (i : Int)]) := Lib.hid (by exact tok_ok HSB (by rw [hm4, HS7.out, if_neg H61.out]) hm5 (by decide) hm6)
      go_wp2_with fail
      exact bodyPost_ret (v := .tuple #[.agg #[.int .i64 3, .string (sb.extract i m), .int .i64 0, .int .i64 (i : Int)], .int .i64 0]) (by simp [results, Tryd.results38, go_sem, n47, n74, y0, y1, y2, y3, z0, z1, z2, z3]) rfl ⟨_, 0, rfl, Lib.hid ⟨HE.out.1.symm, _, _, _, _, rfl, fun _ => HE.out.2.symm⟩, ((((((HC1.out).setCell _ _ (.inr HW4.out.2)).setCell _ _ (.inr HW4.out.2)).setCell _ _ (.inr HW4.out.1)).setCell _ _ (.inr HW4.out.1)).setCell _ _ (.inr HW4.out.1)).setCell _ _ (.inr HW4.out.1)⟩
   · have j1 : ¬ (i : Int) + 1 < (sb.size : Int) := by omega
     go_wp2_with fail
     refine (has_spec _ [59, 44, 46, 58, 40, 41, 123, 125, 61, 60, 62, 43, 45, 47] (by decide) sb[i] true (Lib.hid ((Lx.sym_has _).trans (decide_eq_true (by rw [HCb.out]; decide))))).mono ?_
     rintro e W2 ⟨rfl, rfl⟩
     go_upto_region 25 with fail
     obtain ⟨m, hm⟩ : ∃ m, m = i + 1 := ⟨_, rfl⟩
     have hm1 : (i : Int) + 1 = (m : Int) := by omega
     have hm2 : (i : Int) ≤ (m : Int) := by omega
     have hm3 : (m : Int) ≤ (sb.size : Int) := by omega
     have hm4 : m - i = 1 := by omega
     have hm5 : i ≤ m := by omega
     have hm6 : m ≤ s.length := by omega
     clear r1 r2 r3
     (first | rw [hm1] | simp only [hm1])
     clear hm hm1
     have HE : Hid ((Lx.tok (s.drop i)).2.2 = 0 ∧ tkv (Lx.mk i (s.drop i)) = .agg #[.int .i64 3, .string (sb.extract i m), .int .i64 0, .int .i64 (i : Int)]) := Lib.hid (by exact tok_ok HSB (by rw [hm4, HS7.out, List.getElem?_eq_none (by omega)]; rfl) hm5 (by decide) hm6)
     go_wp2_with fail
     exact bodyPost_ret (v := .tuple #[.agg #[.int .i64 3, .string (sb.extract i m), .int .i64 0, .int .i64 (i : Int)], .int .i64 0]) (by simp [results, Tryd.results38, go_sem, n47, n74, y0, y1, y2, y3, z0, z1, z2, z3]) rfl ⟨_, 0, rfl, Lib.hid ⟨HE.out.1.symm, _, _, _, _, rfl, fun _ => HE.out.2.symm⟩, ((((((HC1.out).setCell _ _ (.inr HW4.out.2)).setCell _ _ (.inr HW4.out.2)).setCell _ _ (.inr HW4.out.1)).setCell _ _ (.inr HW4.out.1)).setCell _ _ (.inr HW4.out.1)).setCell _ _ (.inr HW4.out.1)⟩
 · have HS7 : Hid (Lx.tok (s.drop i) = if s[i + 1]? = some 61 then (3, 2, 0) else (3, 1, 5)) := Lib.hid (by rw [HTK.out]; simp)
   refine (has_spec _ [33, 60, 62] (by decide) sb[i] true (Lib.hid ((Lx.pre_has _).trans (decide_eq_true (by rw [HCb.out]; decide))))).mono ?_
   rintro e W2 ⟨rfl, rfl⟩
   by_cases hi1 : i + 1 < s.length
   · have j1 : (i : Int) + 1 < (sb.size : Int) := by omega
     have j2 : (i : Int) + 1 + 1 ≤ (sb.size : Int) := by omega
     have j0 : (0 : Int) ≤ (i : Int) + 1 := by omega
     have hi2 : i + 1 < sb.size := by omega
     obtain ⟨bb, hbb⟩ : ∃ bb, ((sb[i + 1].toNat : Int) == 61) = bb := ⟨_, rfl⟩
     have h61 := eq61 HSB hi2 bb hbb
     cases bb with
     | true =>
      have H61 := Lib.hid (h61.2 rfl)
      clear h61
      go_upto_region 25 with fail
      obtain ⟨m, hm⟩ : ∃ m, m = i + 2 := ⟨_, rfl⟩
      have hm1 : (i : Int) + 1 + 1 = (m : Int) := by omega
      have hm2 : (i : Int) ≤ (m : Int) := by omega
      have hm3 : (m : Int) ≤ (sb.size : Int) := by omega
      have hm4 : m - i = 2 := by omega
      have hm5 : i ≤ m := by omega
      have hm6 : m ≤ s.length := by omega
      clear r1 r2 r3
      (first | rw [hm1] | simp only [hm1])
      clear hm hm1
      have HE : Hid ((Lx.tok (s.drop i)).2.2 = 0 ∧ tkv (Lx.mk i (s.drop i)) = .agg #[.int .i64 3, .string (sb.extract i m), .int .i64 0, .int .i64 (i : Int)]) := Lib.hid (by exact tok_ok HSB (by rw [hm4, HS7.out, if_pos H61.out]) hm5 (by decide) hm6)
      go_wp2_with fail
      exact bodyPost_ret (v := .tuple #[.agg #[.int .i64 3, .string (sb.extract i m), .int .i64 0, .int .i64 (i : Int)], .int .i64 0]) (by simp [results, Tryd.results38, go_sem, n47, n74, y0, y1, y2, y3, z0, z1, z2, z3]) rfl ⟨_, 0, rfl, Lib.hid ⟨HE.out.1.symm, _, _, _, _, rfl, fun _ => HE.out.2.symm⟩, ((((((HC1.out).setCell _ _ (.inr HW4.out.2)).setCell _ _ (.inr HW4.out.2)).setCell _ _ (.inr HW4.out.1)).setCell _ _ (.inr HW4.out.1)).setCell _ _ (.inr HW4.out.1)).setCell _ _ (.inr HW4.out.1)⟩
     | false =>
      have H61 : Hid (¬ s[i + 1]? = some 61) := Lib.hid (fun h => by have := h61.1 h; cases this)
      clear h61
      go_wp2_with fail
      refine (has_spec _ [59, 44, 46, 58, 40, 41, 123, 125, 61, 60, 62, 43, 45, 47] (by decide) sb[i] false (Lib.hid ((Lx.sym_has _).trans (decide_eq_false (by rw [HCb.out]; decide))))).mono ?_
      rintro e W2 ⟨rfl, rfl⟩
      go_wp2_with fail
      have HE : Hid ((Lx.tok (s.drop i)).2.2 = 5) := Lib.hid (by rw [HS7.out, if_neg H61.out])
      exact bodyPost_ret (v := .tuple #[.agg #[.int .i64 0, .string ⟨#[]⟩, .int .i64 0, .int .i64 0], .int .i64 5]) (by simp [results, Tryd.results38, go_sem, n47, n74, y0, y1, y2, y3, z0, z1, z2, z3]) rfl ⟨_, 5, rfl, Lib.hid ⟨HE.out.symm, _, _, _, _, rfl, fun h => by cases h⟩, (((((HC1.out).setCell _ _ (.inr HW4.out.2)).setCell _ _ (.inr HW4.out.1)).setCell _ _ (.inr HW4.out.1)).setCell _ _ (.inr HW4.out.1)).setCell _ _ (.inr HW4.out.1)⟩
   · have j1 : ¬ (i : Int) + 1 < (sb.size : Int) := by omega
     go_wp2_with fail
     refine (has_spec _ [59, 44, 46, 58, 40, 41, 123, 125, 61, 60, 62, 43, 45, 47] (by decide) sb[i] false (Lib.hid ((Lx.sym_has _).trans (decide_eq_false (by rw [HCb.out]; decide))))).mono ?_
     rintro e W2 ⟨rfl, rfl⟩
     go_wp2_with fail
     have HE : Hid ((Lx.tok (s.drop i)).2.2 = 5) := Lib.hid (by rw [HS7.out, List.getElem?_eq_none (by omega)]; rfl)
     exact bodyPost_ret (v := .tuple #[.agg #[.int .i64 0, .string ⟨#[]⟩, .int .i64 0, .int .i64 0], .int .i64 5]) (by simp [results, Tryd.results38, go_sem, n47, n74, y0, y1, y2, y3, z0, z1, z2, z3]) rfl ⟨_, 5, rfl, Lib.hid ⟨HE.out.symm, _, _, _, _, rfl, fun h => by cases h⟩, (((((HC1.out).setCell _ _ (.inr HW4.out.2)).setCell _ _ (.inr HW4.out.1)).setCell _ _ (.inr HW4.out.1)).setCell _ _ (.inr HW4.out.1)).setCell _ _ (.inr HW4.out.1)⟩
end Go.Proofs.YtocadlcglgpdcaaDoor
