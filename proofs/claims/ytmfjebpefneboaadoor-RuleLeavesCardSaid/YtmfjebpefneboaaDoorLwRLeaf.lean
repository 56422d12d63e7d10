/-
  Rule, the law RuleLeaves: the walk. Printed by genleaf07.py.
-/
import Derived.Test.YtmfjebpefneboaaDoorRlX
import Derived.Test.YtmfjebpefneboaaDoorRlR
namespace Go.Proofs.YtmfjebpefneboaaDoor
set_option linter.unusedVariables false
set_option linter.unusedSimpArgs false
open Go Go.RowKit Go.Shelf
open Lx (Tk)

theorem cut_from {s : Bytes} {sb : ByteArray} (HSB : Hid (sb = ⟨s.toArray⟩)) (HSZ : Hid (sb.size = s.length)) (i : Nat) : sb.extract i sb.size = ⟨(s.drop i).toArray⟩ := by
  rw [HSZ.out, HSB.out]
  exact sub_drop s i
theorem nl_two (a b : Bytes) : (⟨a.toArray⟩ : ByteArray) ++ (⟨#[10]⟩ : ByteArray) ++ (⟨b.toArray⟩ : ByteArray) = ⟨(a ++ 10 :: b).toArray⟩ := by
  apply ByteArray.ext
  apply Array.ext'
  simp
set_option maxHeartbeats 4000000 in
set_option maxRecDepth 100000 in
theorem ruleLeaves_walk (w : World) (s : Bytes) (hs0 : s.length ≤ 9223372036854775807) (r : Nat) (hr : r < 256) :
    Calls Tryd.prog 8 #[.string ⟨s.toArray⟩, .int .u8 (r : Int)] w fun e w' => e = .returned (.bool true) ∧ Chg [] w w' := by
  obtain ⟨sb, hsb⟩ : ∃ sb : ByteArray, sb = ⟨s.toArray⟩ := ⟨_, rfl⟩
  rw [← hsb]
  have HSB := Lib.hid hsb
  have HSZ : Hid (sb.size = s.length) := Lib.hid (hsize HSB)
  clear hsb
  go_enter Tryd.func8, Tryd.ntmps8
  go_wp2_with fail
  refine (head_spec07 _).mono ?_
  rintro e w1 ⟨rfl, hc1⟩
  have HC1 := Lib.hid hc1
  clear hc1
  by_cases hl : s.length ≤ 4000
  · have q1 : ¬ (4000 : Int) < (sb.size : Int) := by rw [HSZ.out]; omega
    have HL := Lib.hid hl
    clear hl hs0
    go_wp2_with fail
    refine parse_r (by have := HL.out; omega) HSB (fun bo k bp E1 A1 w2 HL2 HC2 HE1 => ?_)
    have HC12 : Hid (Chg [] w w2) := Lib.hid (HC1.out.trans HC2.out (by simp))
    by_cases e1 : E1 = 0
    · have n1 : ((E1 : Int) != 0) = false := by subst e1; rfl
      by_cases hk : k = 0
      · subst hk
        clear e1
        go_wp2_with fail
        go_ret
        exact ⟨rfl, HC12.out.alloc _⟩
      · have n2 : ((k : Int) == 0) = false := beq_eq_false_iff_ne.2 (by omega)
        have hml := HL2.out.len_le
        rw [HE1.out.1] at hml
        obtain ⟨i, hi⟩ : ∃ i, i = r % k := ⟨_, rfl⟩
        have hik : i < k := by rw [hi]; exact Nat.mod_lt _ (by omega)
        have hk2 : (r : Int).tmod (k : Int) = (i : Int) := by rw [hi]; exact (Int.ofNat_tmod r k).symm
        have q5 : (0 : Int) < (k : Int) := by omega
        have q6 : (0 : Int) ≤ (i : Int) := by omega
        have q7 : (i : Int) < (k : Int) := by omega
        have hpz : (Rl.parse s).2.1 = 0 := HE1.out.2.1.trans e1
        obtain ⟨x, hx⟩ : ∃ x, (Rl.parse s).1[i]? = some x := ⟨(Rl.parse s).1[i]'(by rw [HE1.out.1]; exact hik), by simp⟩
        obtain ⟨l1, l2, l3, l4⟩ := Rl.leaves_law HL.out hpz hx
        obtain ⟨xs, hxs⟩ : ∃ xs, xs = (Rl.parse s).1 := ⟨_, rfl⟩
        have HXS : Hid (xs.length ≤ 200000) := Lib.hid (by rw [hxs]; exact Rl.parse_le s HL.out)
        rw [← hxs] at HL2 hx l2 l3 l4
        have HXL : Hid (xs.length = k) := Lib.hid (by rw [hxs]; exact HE1.out.1)
        obtain ⟨en, hen⟩ : ∃ en, en = Rl.endAt xs i s.length := ⟨_, rfl⟩
        rw [← hen] at l2 l3 l4
        obtain ⟨g, cap', uo, uc, c1, c2, c3, a0, a1, a2, a3, a4, a5, a6, a7, a8⟩ := itm_get HL2.out hx
        rw [HXL.out] at c1 c2
        simp only [Value.slice.injEq, true_and] at c1
        obtain ⟨rfl, rfl⟩ := c1
        obtain ⟨at7, hat⟩ : ∃ a, x.at_ = a := ⟨_, rfl⟩
        rw [hat] at a8 l1 l3 l4
        have L3 := Lib.hid l3
        have L4 := Lib.hid l4
        have HEN := Lib.hid hen
        have HX := Lib.hid hx
        have A8 := Lib.hid a8
        clear a0 a1 a2 a3 a4 a5 a6 a7 a8 c3 l3 l4 hen hx hxs hat hpz e1 hi hk
        go_upto_region 7 with fail
        obtain ⟨W, hW⟩ : ∃ W, W = w2.alloc (.cells #[.slice (some ⟨g, 0, none⟩) k bp] 25) := ⟨_, rfl⟩
        rw [← hW]
        obtain ⟨B0, hB0⟩ : ∃ B0, B0 = w2.heap.size := ⟨_, rfl⟩
        rw [← hB0]
        have HC2W : Hid (Chg [] w2 W) := Lib.hid (by rw [hW]; exact (Chg.refl _ _).alloc _)
        have HB : Hid (Blk W B0 [.slice (some ⟨g, 0, none⟩) k bp] 25) := Lib.hid (by rw [hW, hB0]; exact Blk.new w2 _ _)
        have HLW : Hid (ListS w1.heap.size 42 9 (Ci w1.heap.size) xs (.slice (some ⟨g, 0, none⟩) k bp) W) := Lib.hid (HL2.out.keep (kp_i _) HC2W.out (TyB.nil _ _ _))
        have d8 := cell_quiet HC2W.out A8.out (by simp)
        have d0 := HB.out.cell (i := 0) rfl
        have HCW : Hid (Chg [] w W) := Lib.hid (HC12.out.trans HC2W.out (by simp))
        clear hW hB0
        have D8 := Lib.hid d8
        clear d8
        go_upto_if 49 with fail
        go_cut [10] from 11 (fun u wc => u = .int .i64 (en : Int) ∧ wc = W)
        case first =>
          by_cases hn : i + 1 < k
          · obtain ⟨y, hy⟩ : ∃ y, xs[i + 1]? = some y := ⟨xs[i + 1]'(by rw [HXL.out]; exact hn), by simp⟩
            obtain ⟨g', cap', uo, uc, c1, c2, c3, b0, b1, b2, b3, b4, b5, b6, b7, b8⟩ := itm_get HLW.out hy
            rw [HXL.out] at c1 c2
            simp only [Value.slice.injEq, Option.some.injEq, Addr.mk.injEq, and_true, true_and] at c1
            obtain ⟨rfl, rfl⟩ := c1
            have hey : en = y.at_ := by rw [HEN.out]; unfold Rl.endAt; rw [hy]
            rw [← hey] at b8
            have p1 : (i : Int) + 1 < (k : Int) := by omega
            have p2 : (0 : Int) ≤ (i : Int) + 1 := by omega
            have p3 : ((i : Int) + 1).toNat = i + 1 := by omega
            clear b0 b1 b2 b3 b4 b5 b6 b7 c3 hy hey
            go_wp2_with fail
            go_meet
            case rel => exact ⟨rfl, rfl⟩
          · have p1 : ¬ (i : Int) + 1 < (k : Int) := by omega
            have hey : en = sb.size := by
              rw [HEN.out, HSZ.out]
              unfold Rl.endAt
              rw [List.getElem?_eq_none (by rw [HXL.out]; omega)]
            have HEY := Lib.hid hey
            clear hn hey
            go_wp2_with fail
            go_meet
            case rel => exact ⟨by rw [HEY.out], rfl⟩
        case rest =>
          obtain ⟨rfl, rfl⟩ := hcut
          have d8 := D8.out
          have r1 : (0 : Int) ≤ (at7 : Int) := by omega
          have r2 : (at7 : Int) ≤ (sb.size : Int) := by rw [HSZ.out]; omega
          have r3 : (0 : Int) ≤ (en : Int) := by omega
          have r4 : (en : Int) ≤ (sb.size : Int) := by rw [HSZ.out]; omega
          have r5 : at7 ≤ sb.size := by rw [HSZ.out]; omega
          have n3 : ¬ 9223372036854775807 < at7 + 1 := by have := HL.out; omega
          have n4 : ¬ 9223372036854775807 < at7 + 1 + (sb.size - en) := by rw [HSZ.out]; have := HL.out; omega
          go_upto_region 11 with fail
          go_quiet (fail)
          clear d8
          have HCAT : Hid (sb.extract 0 at7 ++ (⟨#[10]⟩ : ByteArray) ++ sb.extract en sb.size = ⟨(s.take at7 ++ 10 :: s.drop en).toArray⟩) := Lib.hid (by rw [cut_to HSB, cut_from HSB HSZ]; exact nl_two _ _)
          go_wp2_with fail
          refine parse_r (s := s.take at7 ++ 10 :: s.drop en) (by have := HL.out; simp; omega) HCAT (fun co j cp E2 A2 w5 HL5 HC5 HE2 => ?_)
          have HZ : Hid (((E2 : Nat) : Int) == 0) := Lib.hid (by have h := L3.out; rw [HE2.out.2.1] at h; rw [h]; rfl)
          go_upto_region 13 with fail
          obtain ⟨V, hV⟩ : ∃ V, V = w5.alloc (.cells #[.slice co j cp] 25) := ⟨_, rfl⟩
          rw [← hV]
          obtain ⟨B1, hB1⟩ : ∃ B1, B1 = w5.heap.size := ⟨_, rfl⟩
          rw [← hB1]
          have HC5' : Hid (Chg [] wc w5) := Lib.hid ⟨HC5.out.os, HC5.out.tape, HC5.out.output, HC5.out.size, HC5.out.block⟩
          have HW5 : Hid (Chg [] w5 V) := Lib.hid (by rw [hV]; exact (Chg.refl _ _).alloc _)
          have HB1 : Hid (Blk V B1 [.slice co j cp] 25) := Lib.hid (by rw [hV, hB1]; exact Blk.new w5 _ _)
          have HCV : Hid (Chg [] wc V) := Lib.hid (HC5'.out.trans HW5.out (by simp))
          have HBV : Hid (Blk V B0 [.slice (some ⟨g, 0, none⟩) k bp] 25) := Lib.hid (HCV.out.blk HB.out (by simp))
          obtain ⟨less, hless⟩ : ∃ l, l = (Rl.parse (s.take at7 ++ 10 :: s.drop en)).1 := ⟨_, rfl⟩
          rw [← hless] at HL5 L4
          have HLV5 : Hid (ListS (wc.drewN nq).heap.size 42 9 (Ci (wc.drewN nq).heap.size) less (.slice co j cp) V) := Lib.hid (HL5.out.keep (kp_i _) HW5.out (TyB.nil _ _ _))
          obtain ⟨css, hels, hn0, hle0, hcell⟩ := (HLW.out.keep (kp_i _) HCV.out (TyB.nil _ _ _)).els
          have hlens := ListS.lens hels.1 hels.2
          have hcl : css.length = k := by rw [hels.1, HXL.out]
          have hf1 := (flat_cut hlens i (by rw [hcl]; omega)).1
          have hf2 := (flat_cut hlens (i + 1) (by rw [hcl]; omega)).2
          have M1 : Hid ((css.take i).flatten.length = i * 9) := Lib.hid (by rw [(hels.take i).flat, List.length_take, HXL.out, Nat.min_eq_left (by omega)])
          have M2 : Hid ((css.drop (i + 1)).flatten.length = (k - (i + 1)) * 9) := Lib.hid (by rw [(hels.drop (i + 1)).flat, List.length_drop, HXL.out])
          have N1 : Hid (∀ W', Chg [] V W' → ∀ j u, (css.take i).flatten[j]? = some u → W'.cell? ((⟨g, 0, none⟩ : Addr).add j) = some u) := Lib.hid (fun W' hc j u hu => by
            rw [hf1, List.getElem?_take] at hu
            split at hu
            · rw [addr_add, Nat.zero_add]
              exact cell_quiet hc (hcell j u hu) (by simp)
            · cases hu)
          have N2 : Hid (∀ W', Chg [] V W' → ∀ j u, (css.drop (i + 1)).flatten[j]? = some u → W'.cell? ((⟨g, (i + 1) * 9, none⟩ : Addr).add j) = some u) := Lib.hid (fun W' hc j u hu => by
            rw [hf2, List.getElem?_drop] at hu
            rw [addr_add]
            exact cell_quiet hc (hcell _ u hu) (by simp))
          have O1 : Hid (∀ u ∈ (css.take i).flatten, u.oneCell' = true) := Lib.hid (Els.one (hels.take i))
          have O2 : Hid (∀ u ∈ (css.drop (i + 1)).flatten, u.oneCell' = true) := Lib.hid (Els.one (hels.drop (i + 1)))
          have HELS := Lib.hid hels
          have HK9 : Hid (k ≤ 200000) := Lib.hid (by
            have h1 := HXL.out
            have h2 := HXS.out
            omega)
          have z1 : (i : Int) ≤ (bp : Int) := by omega
          have z2 : (i : Int) + 1 ≤ (k : Int) := by omega
          have z3 : (0 : Int) ≤ (i : Int) + 1 := by omega
          have z4 : ((i : Int) + 1).toNat = i + 1 := by omega
          have z5 : (k : Int) ≤ (bp : Int) := by omega
          have z6 : ¬ bp = 0 := by omega
          have hw1 : IntKind.i64.wrap ((i : Int) + 1) = (i : Int) + 1 := IntWalk.i64_in _ (by have := HK9.out; omega)
          have HCWV : Hid (Chg [] w V) := Lib.hid (HCW.out.trans HCV.out (by simp))
          have HBL : Hid (w1.heap.size ≤ V.heap.size) := Lib.hid (Nat.le_trans HC2.out.size (Nat.le_trans HC2W.out.size HCV.out.size))
          clear hV hB1 hless hels hcell hlens hcl hf1 hf2 hn0 d0 r1 r2 r3 r4 r5 n3 n4
          by_cases hcap : bp = i + 1

          · have HCAP := Lib.hid hcap
            have N3 : Hid (∀ W', Chg [] V W' → ∀ j u, (css.drop (i + 1)).flatten[j]? = some u → W'.cell? ((⟨g, 0, none⟩ : Addr).add j) = some u) := Lib.hid (fun W' hc j u hu => by
              have h1 := (List.getElem?_eq_some_iff.1 hu).1
              rw [M2.out] at h1
              omega)
            clear hcap
            refine wp_region_held_drew (S := fun W' => Chg [] V W') (by kernel_rfl) (Chg.refl _ _).drew (fun hHeld => ?_)
            refine wpAnyH_take (i := 1) (v := ?vp1) rfl (by kernel_rfl) (by kernel_rfl) (by kernel_rfl) (fun _ _ _ h => h) (Or.inl ⟨by kernel_rfl, ?hyp1⟩) (by assumption) ?rsp1
            case hyp1 => (intro w9 hSw; skip; go_simp; try with_reducible rfl)
            try simp only [Act.put, List.setIfInBounds_toArray, List.set_cons_zero, List.set_cons_succ, List.getElem_toArray, List.getElem_cons_succ, List.getElem_cons_zero]
            refine wpAnyH_take (i := 2) (v := ?vp2) rfl (by kernel_rfl) (by kernel_rfl) (by kernel_rfl) (fun _ _ _ h => h) (Or.inl ⟨by kernel_rfl, ?hyp2⟩) (by assumption) ?rsp2
            case hyp2 => (intro w9 hSw; have d := cell_quiet hSw (HBV.out.cell (i := 0) rfl) (by simp); go_simp; try with_reducible rfl)
            try simp only [Act.put, List.setIfInBounds_toArray, List.set_cons_zero, List.set_cons_succ, List.getElem_toArray, List.getElem_cons_succ, List.getElem_cons_zero]
            refine wpAnyH_take (i := 3) (v := ?vp3) rfl (by kernel_rfl) (by kernel_rfl) (by kernel_rfl) (fun _ _ _ h => h) (Or.inl ⟨by kernel_rfl, ?hyp3⟩) (by assumption) ?rsp3
            case hyp3 => (intro w9 hSw; skip; go_simp; try with_reducible rfl)
            try simp only [Act.put, List.setIfInBounds_toArray, List.set_cons_zero, List.set_cons_succ, List.getElem_toArray, List.getElem_cons_succ, List.getElem_cons_zero]
            refine wpAnyH_take (i := 4) (v := ?vp4) rfl (by kernel_rfl) (by kernel_rfl) (by kernel_rfl) (fun _ _ _ h => h) (Or.inl ⟨by kernel_rfl, ?hyp4⟩) (by assumption) ?rsp4
            case hyp4 => (intro w9 hSw; skip; go_simp; try with_reducible rfl)
            try simp only [Act.put, List.setIfInBounds_toArray, List.set_cons_zero, List.set_cons_succ, List.getElem_toArray, List.getElem_cons_succ, List.getElem_cons_zero]
            refine wpAnyH_take (i := 6) (v := ?vp6) rfl (by kernel_rfl) (by kernel_rfl) (by kernel_rfl) (fun _ _ _ h => h) (Or.inl ⟨by kernel_rfl, ?hyp6⟩) (by assumption) ?rsp6
            case hyp6 => (intro w9 hSw; skip; go_simp; try with_reducible rfl)
            try simp only [Act.put, List.setIfInBounds_toArray, List.set_cons_zero, List.set_cons_succ, List.getElem_toArray, List.getElem_cons_succ, List.getElem_cons_zero]
            refine wpAnyH_take (i := 7) (v := ?vp7) rfl (by kernel_rfl) (by kernel_rfl) (by kernel_rfl) (fun _ _ _ h => h) (Or.inl ⟨by kernel_rfl, ?hyp7⟩) (by assumption) ?rsp7
            case hyp7 => (intro w9 hSw; have d := cell_quiet hSw (HBV.out.cell (i := 0) rfl) (by simp); go_simp; try with_reducible rfl)
            try simp only [Act.put, List.setIfInBounds_toArray, List.set_cons_zero, List.set_cons_succ, List.getElem_toArray, List.getElem_cons_succ, List.getElem_cons_zero]
            refine wpAnyH_take (i := 8) (v := ?vp8) rfl (by kernel_rfl) (by kernel_rfl) (by kernel_rfl) (fun _ _ _ h => h) (Or.inl ⟨by kernel_rfl, ?hyp8⟩) (by assumption) ?rsp8
            case hyp8 => (intro w9 hSw; skip; go_simp; try with_reducible rfl)
            try simp only [Act.put, List.setIfInBounds_toArray, List.set_cons_zero, List.set_cons_succ, List.getElem_toArray, List.getElem_cons_succ, List.getElem_cons_zero]
            refine wpAnyH_take (i := 9) (v := ?vp9) rfl (by kernel_rfl) (by kernel_rfl) (by kernel_rfl) (fun _ _ _ h => h) (Or.inl ⟨by kernel_rfl, ?hyp9⟩) (by assumption) ?rsp9
            case hyp9 => (intro w9 hSw; skip; go_simp; try with_reducible rfl)
            try simp only [Act.put, List.setIfInBounds_toArray, List.set_cons_zero, List.set_cons_succ, List.getElem_toArray, List.getElem_cons_succ, List.getElem_cons_zero]
            refine wpAnyH_take (i := 10) (v := ?vp10) rfl (by kernel_rfl) (by kernel_rfl) (by kernel_rfl) (fun _ _ _ h => h) (Or.inl ⟨by kernel_rfl, ?hyp10⟩) (by assumption) ?rsp10
            case hyp10 => (intro w9 hSw; have hcap := HCAP.out; go_simp; try with_reducible rfl)
            try simp only [Act.put, List.setIfInBounds_toArray, List.set_cons_zero, List.set_cons_succ, List.getElem_toArray, List.getElem_cons_succ, List.getElem_cons_zero]
            obtain ⟨Z0, hZ0⟩ : ∃ Z, Z = V.drew := ⟨_, rfl⟩
            rw [← hZ0] at hHeld ⊢
            have HSZZ0 : Hid (V.heap.size ≤ Z0.heap.size) := Lib.hid hHeld.size
            clear hZ0
            refine wpAnyH_ready (rs := [0, 13]) (by kernel_rfl) (by simp) (AllReadyH.cons rfl (fun K hK => ?_) (AllReadyH.cons rfl (fun K hK => ?_) AllReadyH.nil))
            · go_simp
              refine hK.out _ _ (hHeld.alloc _) (fun hHeld => ?_)
              clear hK K
              try simp only [Act.put, List.setIfInBounds_toArray, List.set_cons_zero, List.set_cons_succ, List.getElem_toArray, List.getElem_cons_succ, List.getElem_cons_zero]
              obtain ⟨Z1, hZ1⟩ : ∃ Z, Z = Z0.alloc (.cells #[] 42) := ⟨_, rfl⟩
              obtain ⟨b1, hb1⟩ : ∃ b, b = Z0.heap.size := ⟨_, rfl⟩
              rw [← hZ1] at hHeld ⊢
              rw [← hb1]
              have Hb1 : Hid (V.heap.size ≤ b1) := Lib.hid (by rw [hb1]; exact HSZZ0.out)
              have HO1 : Hid (Z1.ownsRow V.heap.size 42 9 (.slice (some ⟨b1, 0, none⟩) 0 0) 0 []) := Lib.hid ⟨rfl, .inr ⟨b1, 0, #[], rfl, Hb1.out, by rw [hZ1, hb1]; exact World.alloc_heap_new _ _, Nat.le_refl _, Nat.zero_le _, rfl, rfl⟩⟩
              have HSZZ1 : Hid (V.heap.size ≤ Z1.heap.size) := Lib.hid hHeld.size
              clear hZ1 hb1
              refine wpAnyH_ready (rs := [5, 13]) (by kernel_rfl) (by simp) (AllReadyH.cons rfl (fun K hK => ?_) (AllReadyH.cons rfl (fun K hK => ?_) AllReadyH.nil))
              · refine step_app rfl (.tmp 76) (.tmp 80) rfl V.heap.size (.slice (some ⟨b1, 0, none⟩) 0 0) 0 [] rfl HO1.out ⟨g, 0, none⟩ i bp (css.take i).flatten rfl M1.out (N1.out _ hHeld) O1.out (by have := HK9.out; omega) HSZZ1.out (fun v2 Z2 hown hgrow => ?_)
                rw [Nat.zero_add, List.nil_append] at hown
                have HO2 := Lib.hid hown
                have HW2 := Lib.hid (hHeld.grown hgrow (fun q hq => .inr (own_ge HO1.out q hq)))
                obtain ⟨vo2, vc2, rfl⟩ := owns_form hown
                clear hown hgrow
                refine hK.out _ _ HW2.out (fun hHeld => ?_)
                clear hK K
                try simp only [Act.put, List.setIfInBounds_toArray, List.set_cons_zero, List.set_cons_succ, List.getElem_toArray, List.getElem_cons_succ, List.getElem_cons_zero]
                have HSZZ2 : Hid (V.heap.size ≤ Z2.heap.size) := Lib.hid hHeld.size
                refine wpAnyH_ready (rs := [11, 13]) (by kernel_rfl) (by simp) (AllReadyH.cons rfl (fun K hK => ?_) (AllReadyH.cons rfl (fun K hK => ?_) AllReadyH.nil))
                · refine step_app rfl (.tmp 81) (.tmp 86) rfl V.heap.size (.slice vo2 i vc2) i (css.take i).flatten rfl HO2.out ⟨g, 0, none⟩ (k - (i + 1)) _ (css.drop (i + 1)).flatten rfl M2.out (N3.out _ hHeld) O2.out (by have := HK9.out; omega) HSZZ2.out (fun v3 Z3 hown hgrow => ?_)
                  have HO3 := Lib.hid hown
                  have HW3 := Lib.hid (hHeld.grown hgrow (fun q hq => .inr (own_ge HO2.out q hq)))
                  obtain ⟨vo3, vc3, rfl⟩ := owns_form hown
                  clear hown hgrow
                  refine hK.out _ _ HW3.out (fun hHeld => ?_)
                  clear hK K
                  try simp only [Act.put, List.setIfInBounds_toArray, List.set_cons_zero, List.set_cons_succ, List.getElem_toArray, List.getElem_cons_succ, List.getElem_cons_zero]
                  have HSZZ3 : Hid (V.heap.size ≤ Z3.heap.size) := Lib.hid hHeld.size
                  refine wpAnyH_take (i := 12) (v := ?vp0511z12) rfl (by kernel_rfl) (by kernel_rfl) (by kernel_rfl) (fun _ _ _ h => h) (Or.inl ⟨by kernel_rfl, ?hyp0511z12⟩) (by assumption) ?rsp0511z12
                  case hyp0511z12 => (intro w9 hSw; skip; go_simp; try with_reducible rfl)
                  try simp only [Act.put, List.setIfInBounds_toArray, List.set_cons_zero, List.set_cons_succ, List.getElem_toArray, List.getElem_cons_succ, List.getElem_cons_zero]
                  refine wpAnyH_ready (rs := [13]) (by kernel_rfl) (by simp) (AllReadyH.cons rfl (fun K hK => ?_) AllReadyH.nil)
                  go_simp
                  refine hK.out _ _ (hHeld.alloc _) (fun hHeld => ?_)
                  clear hK K
                  try simp only [Act.put, List.setIfInBounds_toArray, List.set_cons_zero, List.set_cons_succ, List.getElem_toArray, List.getElem_cons_succ, List.getElem_cons_zero]
                  obtain ⟨Z4, hZ4⟩ : ∃ Z, Z = Z3.alloc (.cells #[.slice none 0 0] 25) := ⟨_, rfl⟩
                  obtain ⟨b4, hb4⟩ : ∃ b, b = Z3.heap.size := ⟨_, rfl⟩
                  rw [← hZ4] at hHeld ⊢
                  rw [← hb4]
                  have Hb4 : Hid (V.heap.size ≤ b4) := Lib.hid (by rw [hb4]; exact HSZZ3.out)
                  have HR4 : Hid (Blk Z4 b4 [.slice none 0 0] 25) := Lib.hid (by rw [hZ4, hb4]; exact Blk.new _ [.slice none 0 0] 25)
                  have HO4 := Lib.hid (row_alloc HO3.out (.cells #[.slice none 0 0] 25))
                  rw [← hZ4] at HO4
                  have HSZZ4 : Hid (V.heap.size ≤ Z4.heap.size) := Lib.hid hHeld.size
                  clear hZ4 hb4
                  refine wpAnyH_ready (rs := [14]) (by kernel_rfl) (by simp) (AllReadyH.cons rfl (fun K hK => ?_) AllReadyH.nil)
                  have d := HR4.out.cell (i := 0) rfl
                  have f := HR4.out.free 0
                  go_simp
                  refine hK.out _ _ (hHeld.setCell ⟨b4, 0, none⟩ (.slice vo3 (i + (k - (i + 1))) vc3) (.inr Hb4.out)) (fun hHeld => ?_)
                  clear hK K d f
                  try simp only [Act.put, List.setIfInBounds_toArray, List.set_cons_zero, List.set_cons_succ, List.getElem_toArray, List.getElem_cons_succ, List.getElem_cons_zero]
                  obtain ⟨Z5, hZ5⟩ : ∃ Z, Z = Z4.setCell ⟨b4, 0, none⟩ (.slice vo3 (i + (k - (i + 1))) vc3) := ⟨_, rfl⟩
                  rw [← hZ5] at hHeld ⊢
                  have HR5 : Hid (Blk Z5 b4 [(.slice vo3 (i + (k - (i + 1))) vc3)] 25) := Lib.hid (by rw [hZ5]; exact HR4.out.set 0 (.slice vo3 (i + (k - (i + 1))) vc3))
                  have HO5 := Lib.hid (row_store (u := (.slice vo3 (i + (k - (i + 1))) vc3)) HO4.out HR4.out (by decide))
                  rw [← hZ5] at HO5
                  clear hZ5
                  refine wpAnyH_done (by kernel_rfl) ?_ _
                  try simp only [Act.put, List.setIfInBounds_toArray, List.set_cons_zero, List.set_cons_succ, List.getElem_toArray, List.getElem_cons_succ, List.getElem_cons_zero]
                  have HLF : Hid (ListS w1.heap.size 42 9 (Ci w1.heap.size) (xs.take i ++ xs.drop (i + 1)) (.slice vo3 (i + (k - (i + 1))) vc3) Z5) := Lib.hid (ListS.of_row (((HELS.out.take i).append (HELS.out.drop (i + 1))).chg (kp_i _) hHeld) (by rw [List.flatten_append]; exact HO5.out) (by rw [List.length_append, List.length_take, List.length_drop, HXL.out]; omega) HBL.out)
                  have d1 := cell_quiet hHeld (HB1.out.cell (i := 0) rfl) (by simp)
                  have d2 := HR5.out.cell (i := 0) rfl
                  have hz := HZ.out
                  have HHELD := Lib.hid hHeld
                  clear hHeld
                  go_wp2_with fail
                  refine (same_rules _ less (xs.take i ++ xs.drop (i + 1)) false (Lib.hid (simL_of_ren L4.out)) _ _ _ _ (Lib.hid (HLV5.out.keep (kp_i _) HHELD.out (TyB.nil _ _ _))) HLF).mono ?_
                  rintro e w9 ⟨rfl, hc9⟩
                  have HC9 := Lib.hid ((HCWV.out.trans HHELD.out (by simp)).trans hc9 (by simp))
                  clear hc9
                  go_wp2_with fail
                  go_ret
                  exact ⟨rfl, HC9.out⟩
                · go_simp
                  refine hK.out _ _ (hHeld.alloc _) (fun hHeld => ?_)
                  clear hK K
                  try simp only [Act.put, List.setIfInBounds_toArray, List.set_cons_zero, List.set_cons_succ, List.getElem_toArray, List.getElem_cons_succ, List.getElem_cons_zero]
                  obtain ⟨Z6, hZ6⟩ : ∃ Z, Z = Z2.alloc (.cells #[.slice none 0 0] 25) := ⟨_, rfl⟩
                  obtain ⟨b6, hb6⟩ : ∃ b, b = Z2.heap.size := ⟨_, rfl⟩
                  rw [← hZ6] at hHeld ⊢
                  rw [← hb6]
                  have Hb6 : Hid (V.heap.size ≤ b6) := Lib.hid (by rw [hb6]; exact HSZZ2.out)
                  have HR6 : Hid (Blk Z6 b6 [.slice none 0 0] 25) := Lib.hid (by rw [hZ6, hb6]; exact Blk.new _ [.slice none 0 0] 25)
                  have HO6 := Lib.hid (row_alloc HO2.out (.cells #[.slice none 0 0] 25))
                  rw [← hZ6] at HO6
                  have HSZZ6 : Hid (V.heap.size ≤ Z6.heap.size) := Lib.hid hHeld.size
                  clear hZ6 hb6
                  refine wpAnyH_ready (rs := [11]) (by kernel_rfl) (by simp) (AllReadyH.cons rfl (fun K hK => ?_) AllReadyH.nil)
                  refine step_app rfl (.tmp 81) (.tmp 86) rfl V.heap.size (.slice vo2 i vc2) i (css.take i).flatten rfl HO6.out ⟨g, 0, none⟩ (k - (i + 1)) _ (css.drop (i + 1)).flatten rfl M2.out (N3.out _ hHeld) O2.out (by have := HK9.out; omega) HSZZ6.out (fun v7 Z7 hown hgrow => ?_)
                  have HO7 := Lib.hid hown
                  have HW7 := Lib.hid (hHeld.grown hgrow (fun q hq => .inr (own_ge HO6.out q hq)))
                  obtain ⟨vo7, vc7, rfl⟩ := owns_form hown
                  have HR7 := Lib.hid (grown_blk HR6.out hgrow HO6.out (by decide))
                  clear hown hgrow
                  refine hK.out _ _ HW7.out (fun hHeld => ?_)
                  clear hK K
                  try simp only [Act.put, List.setIfInBounds_toArray, List.set_cons_zero, List.set_cons_succ, List.getElem_toArray, List.getElem_cons_succ, List.getElem_cons_zero]
                  have HSZZ7 : Hid (V.heap.size ≤ Z7.heap.size) := Lib.hid hHeld.size
                  refine wpAnyH_take (i := 12) (v := ?vp051311z12) rfl (by kernel_rfl) (by kernel_rfl) (by kernel_rfl) (fun _ _ _ h => h) (Or.inl ⟨by kernel_rfl, ?hyp051311z12⟩) (by assumption) ?rsp051311z12
                  case hyp051311z12 => (intro w9 hSw; skip; go_simp; try with_reducible rfl)
                  try simp only [Act.put, List.setIfInBounds_toArray, List.set_cons_zero, List.set_cons_succ, List.getElem_toArray, List.getElem_cons_succ, List.getElem_cons_zero]
                  refine wpAnyH_ready (rs := [14]) (by kernel_rfl) (by simp) (AllReadyH.cons rfl (fun K hK => ?_) AllReadyH.nil)
                  have d := HR7.out.cell (i := 0) rfl
                  have f := HR7.out.free 0
                  go_simp
                  refine hK.out _ _ (hHeld.setCell ⟨b6, 0, none⟩ (.slice vo7 (i + (k - (i + 1))) vc7) (.inr Hb6.out)) (fun hHeld => ?_)
                  clear hK K d f
                  try simp only [Act.put, List.setIfInBounds_toArray, List.set_cons_zero, List.set_cons_succ, List.getElem_toArray, List.getElem_cons_succ, List.getElem_cons_zero]
                  obtain ⟨Z8, hZ8⟩ : ∃ Z, Z = Z7.setCell ⟨b6, 0, none⟩ (.slice vo7 (i + (k - (i + 1))) vc7) := ⟨_, rfl⟩
                  rw [← hZ8] at hHeld ⊢
                  have HR8 : Hid (Blk Z8 b6 [(.slice vo7 (i + (k - (i + 1))) vc7)] 25) := Lib.hid (by rw [hZ8]; exact HR7.out.set 0 (.slice vo7 (i + (k - (i + 1))) vc7))
                  have HO8 := Lib.hid (row_store (u := (.slice vo7 (i + (k - (i + 1))) vc7)) HO7.out HR7.out (by decide))
                  rw [← hZ8] at HO8
                  clear hZ8
                  refine wpAnyH_done (by kernel_rfl) ?_ _
                  try simp only [Act.put, List.setIfInBounds_toArray, List.set_cons_zero, List.set_cons_succ, List.getElem_toArray, List.getElem_cons_succ, List.getElem_cons_zero]
                  have HLF : Hid (ListS w1.heap.size 42 9 (Ci w1.heap.size) (xs.take i ++ xs.drop (i + 1)) (.slice vo7 (i + (k - (i + 1))) vc7) Z8) := Lib.hid (ListS.of_row (((HELS.out.take i).append (HELS.out.drop (i + 1))).chg (kp_i _) hHeld) (by rw [List.flatten_append]; exact HO8.out) (by rw [List.length_append, List.length_take, List.length_drop, HXL.out]; omega) HBL.out)
                  have d1 := cell_quiet hHeld (HB1.out.cell (i := 0) rfl) (by simp)
                  have d2 := HR8.out.cell (i := 0) rfl
                  have hz := HZ.out
                  have HHELD := Lib.hid hHeld
                  clear hHeld
                  go_wp2_with fail
                  refine (same_rules _ less (xs.take i ++ xs.drop (i + 1)) false (Lib.hid (simL_of_ren L4.out)) _ _ _ _ (Lib.hid (HLV5.out.keep (kp_i _) HHELD.out (TyB.nil _ _ _))) HLF).mono ?_
                  rintro e w9 ⟨rfl, hc9⟩
                  have HC9 := Lib.hid ((HCWV.out.trans HHELD.out (by simp)).trans hc9 (by simp))
                  clear hc9
                  go_wp2_with fail
                  go_ret
                  exact ⟨rfl, HC9.out⟩
              · go_simp
                refine hK.out _ _ (hHeld.alloc _) (fun hHeld => ?_)
                clear hK K
                try simp only [Act.put, List.setIfInBounds_toArray, List.set_cons_zero, List.set_cons_succ, List.getElem_toArray, List.getElem_cons_succ, List.getElem_cons_zero]
                obtain ⟨Z9, hZ9⟩ : ∃ Z, Z = Z1.alloc (.cells #[.slice none 0 0] 25) := ⟨_, rfl⟩
                obtain ⟨b9, hb9⟩ : ∃ b, b = Z1.heap.size := ⟨_, rfl⟩
                rw [← hZ9] at hHeld ⊢
                rw [← hb9]
                have Hb9 : Hid (V.heap.size ≤ b9) := Lib.hid (by rw [hb9]; exact HSZZ1.out)
                have HR9 : Hid (Blk Z9 b9 [.slice none 0 0] 25) := Lib.hid (by rw [hZ9, hb9]; exact Blk.new _ [.slice none 0 0] 25)
                have HO9 := Lib.hid (row_alloc HO1.out (.cells #[.slice none 0 0] 25))
                rw [← hZ9] at HO9
                have HSZZ9 : Hid (V.heap.size ≤ Z9.heap.size) := Lib.hid hHeld.size
                clear hZ9 hb9
                refine wpAnyH_ready (rs := [5]) (by kernel_rfl) (by simp) (AllReadyH.cons rfl (fun K hK => ?_) AllReadyH.nil)
                refine step_app rfl (.tmp 76) (.tmp 80) rfl V.heap.size (.slice (some ⟨b1, 0, none⟩) 0 0) 0 [] rfl HO9.out ⟨g, 0, none⟩ i bp (css.take i).flatten rfl M1.out (N1.out _ hHeld) O1.out (by have := HK9.out; omega) HSZZ9.out (fun v10 Z10 hown hgrow => ?_)
                rw [Nat.zero_add, List.nil_append] at hown
                have HO10 := Lib.hid hown
                have HW10 := Lib.hid (hHeld.grown hgrow (fun q hq => .inr (own_ge HO9.out q hq)))
                obtain ⟨vo10, vc10, rfl⟩ := owns_form hown
                have HR10 := Lib.hid (grown_blk HR9.out hgrow HO9.out (by decide))
                clear hown hgrow
                refine hK.out _ _ HW10.out (fun hHeld => ?_)
                clear hK K
                try simp only [Act.put, List.setIfInBounds_toArray, List.set_cons_zero, List.set_cons_succ, List.getElem_toArray, List.getElem_cons_succ, List.getElem_cons_zero]
                have HSZZ10 : Hid (V.heap.size ≤ Z10.heap.size) := Lib.hid hHeld.size
                refine wpAnyH_ready (rs := [11]) (by kernel_rfl) (by simp) (AllReadyH.cons rfl (fun K hK => ?_) AllReadyH.nil)
                refine step_app rfl (.tmp 81) (.tmp 86) rfl V.heap.size (.slice vo10 i vc10) i (css.take i).flatten rfl HO10.out ⟨g, 0, none⟩ (k - (i + 1)) _ (css.drop (i + 1)).flatten rfl M2.out (N3.out _ hHeld) O2.out (by have := HK9.out; omega) HSZZ10.out (fun v11 Z11 hown hgrow => ?_)
                have HO11 := Lib.hid hown
                have HW11 := Lib.hid (hHeld.grown hgrow (fun q hq => .inr (own_ge HO10.out q hq)))
                obtain ⟨vo11, vc11, rfl⟩ := owns_form hown
                have HR11 := Lib.hid (grown_blk HR10.out hgrow HO10.out (by decide))
                clear hown hgrow
                refine hK.out _ _ HW11.out (fun hHeld => ?_)
                clear hK K
                try simp only [Act.put, List.setIfInBounds_toArray, List.set_cons_zero, List.set_cons_succ, List.getElem_toArray, List.getElem_cons_succ, List.getElem_cons_zero]
                have HSZZ11 : Hid (V.heap.size ≤ Z11.heap.size) := Lib.hid hHeld.size
                refine wpAnyH_take (i := 12) (v := ?vp013511z12) rfl (by kernel_rfl) (by kernel_rfl) (by kernel_rfl) (fun _ _ _ h => h) (Or.inl ⟨by kernel_rfl, ?hyp013511z12⟩) (by assumption) ?rsp013511z12
                case hyp013511z12 => (intro w9 hSw; skip; go_simp; try with_reducible rfl)
                try simp only [Act.put, List.setIfInBounds_toArray, List.set_cons_zero, List.set_cons_succ, List.getElem_toArray, List.getElem_cons_succ, List.getElem_cons_zero]
                refine wpAnyH_ready (rs := [14]) (by kernel_rfl) (by simp) (AllReadyH.cons rfl (fun K hK => ?_) AllReadyH.nil)
                have d := HR11.out.cell (i := 0) rfl
                have f := HR11.out.free 0
                go_simp
                refine hK.out _ _ (hHeld.setCell ⟨b9, 0, none⟩ (.slice vo11 (i + (k - (i + 1))) vc11) (.inr Hb9.out)) (fun hHeld => ?_)
                clear hK K d f
                try simp only [Act.put, List.setIfInBounds_toArray, List.set_cons_zero, List.set_cons_succ, List.getElem_toArray, List.getElem_cons_succ, List.getElem_cons_zero]
                obtain ⟨Z12, hZ12⟩ : ∃ Z, Z = Z11.setCell ⟨b9, 0, none⟩ (.slice vo11 (i + (k - (i + 1))) vc11) := ⟨_, rfl⟩
                rw [← hZ12] at hHeld ⊢
                have HR12 : Hid (Blk Z12 b9 [(.slice vo11 (i + (k - (i + 1))) vc11)] 25) := Lib.hid (by rw [hZ12]; exact HR11.out.set 0 (.slice vo11 (i + (k - (i + 1))) vc11))
                have HO12 := Lib.hid (row_store (u := (.slice vo11 (i + (k - (i + 1))) vc11)) HO11.out HR11.out (by decide))
                rw [← hZ12] at HO12
                clear hZ12
                refine wpAnyH_done (by kernel_rfl) ?_ _
                try simp only [Act.put, List.setIfInBounds_toArray, List.set_cons_zero, List.set_cons_succ, List.getElem_toArray, List.getElem_cons_succ, List.getElem_cons_zero]
                have HLF : Hid (ListS w1.heap.size 42 9 (Ci w1.heap.size) (xs.take i ++ xs.drop (i + 1)) (.slice vo11 (i + (k - (i + 1))) vc11) Z12) := Lib.hid (ListS.of_row (((HELS.out.take i).append (HELS.out.drop (i + 1))).chg (kp_i _) hHeld) (by rw [List.flatten_append]; exact HO12.out) (by rw [List.length_append, List.length_take, List.length_drop, HXL.out]; omega) HBL.out)
                have d1 := cell_quiet hHeld (HB1.out.cell (i := 0) rfl) (by simp)
                have d2 := HR12.out.cell (i := 0) rfl
                have hz := HZ.out
                have HHELD := Lib.hid hHeld
                clear hHeld
                go_wp2_with fail
                refine (same_rules _ less (xs.take i ++ xs.drop (i + 1)) false (Lib.hid (simL_of_ren L4.out)) _ _ _ _ (Lib.hid (HLV5.out.keep (kp_i _) HHELD.out (TyB.nil _ _ _))) HLF).mono ?_
                rintro e w9 ⟨rfl, hc9⟩
                have HC9 := Lib.hid ((HCWV.out.trans HHELD.out (by simp)).trans hc9 (by simp))
                clear hc9
                go_wp2_with fail
                go_ret
                exact ⟨rfl, HC9.out⟩
            · go_simp
              refine hK.out _ _ (hHeld.alloc _) (fun hHeld => ?_)
              clear hK K
              try simp only [Act.put, List.setIfInBounds_toArray, List.set_cons_zero, List.set_cons_succ, List.getElem_toArray, List.getElem_cons_succ, List.getElem_cons_zero]
              obtain ⟨Z13, hZ13⟩ : ∃ Z, Z = Z0.alloc (.cells #[.slice none 0 0] 25) := ⟨_, rfl⟩
              obtain ⟨b13, hb13⟩ : ∃ b, b = Z0.heap.size := ⟨_, rfl⟩
              rw [← hZ13] at hHeld ⊢
              rw [← hb13]
              have Hb13 : Hid (V.heap.size ≤ b13) := Lib.hid (by rw [hb13]; exact HSZZ0.out)
              have HR13 : Hid (Blk Z13 b13 [.slice none 0 0] 25) := Lib.hid (by rw [hZ13, hb13]; exact Blk.new _ [.slice none 0 0] 25)
              have HSZZ13 : Hid (V.heap.size ≤ Z13.heap.size) := Lib.hid hHeld.size
              clear hZ13 hb13
              refine wpAnyH_ready (rs := [0]) (by kernel_rfl) (by simp) (AllReadyH.cons rfl (fun K hK => ?_) AllReadyH.nil)
              go_simp
              refine hK.out _ _ (hHeld.alloc _) (fun hHeld => ?_)
              clear hK K
              try simp only [Act.put, List.setIfInBounds_toArray, List.set_cons_zero, List.set_cons_succ, List.getElem_toArray, List.getElem_cons_succ, List.getElem_cons_zero]
              obtain ⟨Z14, hZ14⟩ : ∃ Z, Z = Z13.alloc (.cells #[] 42) := ⟨_, rfl⟩
              obtain ⟨b14, hb14⟩ : ∃ b, b = Z13.heap.size := ⟨_, rfl⟩
              rw [← hZ14] at hHeld ⊢
              rw [← hb14]
              have Hb14 : Hid (V.heap.size ≤ b14) := Lib.hid (by rw [hb14]; exact HSZZ13.out)
              have HO14 : Hid (Z14.ownsRow V.heap.size 42 9 (.slice (some ⟨b14, 0, none⟩) 0 0) 0 []) := Lib.hid ⟨rfl, .inr ⟨b14, 0, #[], rfl, Hb14.out, by rw [hZ14, hb14]; exact World.alloc_heap_new _ _, Nat.le_refl _, Nat.zero_le _, rfl, rfl⟩⟩
              have HR14 := Lib.hid (HR13.out.alloc ((.cells #[] 42) : Obj))
              rw [← hZ14] at HR14
              have HSZZ14 : Hid (V.heap.size ≤ Z14.heap.size) := Lib.hid hHeld.size
              clear hZ14 hb14
              refine wpAnyH_ready (rs := [5]) (by kernel_rfl) (by simp) (AllReadyH.cons rfl (fun K hK => ?_) AllReadyH.nil)
              refine step_app rfl (.tmp 76) (.tmp 80) rfl V.heap.size (.slice (some ⟨b14, 0, none⟩) 0 0) 0 [] rfl HO14.out ⟨g, 0, none⟩ i bp (css.take i).flatten rfl M1.out (N1.out _ hHeld) O1.out (by have := HK9.out; omega) HSZZ14.out (fun v15 Z15 hown hgrow => ?_)
              rw [Nat.zero_add, List.nil_append] at hown
              have HO15 := Lib.hid hown
              have HW15 := Lib.hid (hHeld.grown hgrow (fun q hq => .inr (own_ge HO14.out q hq)))
              obtain ⟨vo15, vc15, rfl⟩ := owns_form hown
              have HR15 := Lib.hid (grown_blk HR14.out hgrow HO14.out (by decide))
              clear hown hgrow
              refine hK.out _ _ HW15.out (fun hHeld => ?_)
              clear hK K
              try simp only [Act.put, List.setIfInBounds_toArray, List.set_cons_zero, List.set_cons_succ, List.getElem_toArray, List.getElem_cons_succ, List.getElem_cons_zero]
              have HSZZ15 : Hid (V.heap.size ≤ Z15.heap.size) := Lib.hid hHeld.size
              refine wpAnyH_ready (rs := [11]) (by kernel_rfl) (by simp) (AllReadyH.cons rfl (fun K hK => ?_) AllReadyH.nil)
              refine step_app rfl (.tmp 81) (.tmp 86) rfl V.heap.size (.slice vo15 i vc15) i (css.take i).flatten rfl HO15.out ⟨g, 0, none⟩ (k - (i + 1)) _ (css.drop (i + 1)).flatten rfl M2.out (N3.out _ hHeld) O2.out (by have := HK9.out; omega) HSZZ15.out (fun v16 Z16 hown hgrow => ?_)
              have HO16 := Lib.hid hown
              have HW16 := Lib.hid (hHeld.grown hgrow (fun q hq => .inr (own_ge HO15.out q hq)))
              obtain ⟨vo16, vc16, rfl⟩ := owns_form hown
              have HR16 := Lib.hid (grown_blk HR15.out hgrow HO15.out (by decide))
              clear hown hgrow
              refine hK.out _ _ HW16.out (fun hHeld => ?_)
              clear hK K
              try simp only [Act.put, List.setIfInBounds_toArray, List.set_cons_zero, List.set_cons_succ, List.getElem_toArray, List.getElem_cons_succ, List.getElem_cons_zero]
              have HSZZ16 : Hid (V.heap.size ≤ Z16.heap.size) := Lib.hid hHeld.size
              refine wpAnyH_take (i := 12) (v := ?vp130511z12) rfl (by kernel_rfl) (by kernel_rfl) (by kernel_rfl) (fun _ _ _ h => h) (Or.inl ⟨by kernel_rfl, ?hyp130511z12⟩) (by assumption) ?rsp130511z12
              case hyp130511z12 => (intro w9 hSw; skip; go_simp; try with_reducible rfl)
              try simp only [Act.put, List.setIfInBounds_toArray, List.set_cons_zero, List.set_cons_succ, List.getElem_toArray, List.getElem_cons_succ, List.getElem_cons_zero]
              refine wpAnyH_ready (rs := [14]) (by kernel_rfl) (by simp) (AllReadyH.cons rfl (fun K hK => ?_) AllReadyH.nil)
              have d := HR16.out.cell (i := 0) rfl
              have f := HR16.out.free 0
              go_simp
              refine hK.out _ _ (hHeld.setCell ⟨b13, 0, none⟩ (.slice vo16 (i + (k - (i + 1))) vc16) (.inr Hb13.out)) (fun hHeld => ?_)
              clear hK K d f
              try simp only [Act.put, List.setIfInBounds_toArray, List.set_cons_zero, List.set_cons_succ, List.getElem_toArray, List.getElem_cons_succ, List.getElem_cons_zero]
              obtain ⟨Z17, hZ17⟩ : ∃ Z, Z = Z16.setCell ⟨b13, 0, none⟩ (.slice vo16 (i + (k - (i + 1))) vc16) := ⟨_, rfl⟩
              rw [← hZ17] at hHeld ⊢
              have HR17 : Hid (Blk Z17 b13 [(.slice vo16 (i + (k - (i + 1))) vc16)] 25) := Lib.hid (by rw [hZ17]; exact HR16.out.set 0 (.slice vo16 (i + (k - (i + 1))) vc16))
              have HO17 := Lib.hid (row_store (u := (.slice vo16 (i + (k - (i + 1))) vc16)) HO16.out HR16.out (by decide))
              rw [← hZ17] at HO17
              clear hZ17
              refine wpAnyH_done (by kernel_rfl) ?_ _
              try simp only [Act.put, List.setIfInBounds_toArray, List.set_cons_zero, List.set_cons_succ, List.getElem_toArray, List.getElem_cons_succ, List.getElem_cons_zero]
              have HLF : Hid (ListS w1.heap.size 42 9 (Ci w1.heap.size) (xs.take i ++ xs.drop (i + 1)) (.slice vo16 (i + (k - (i + 1))) vc16) Z17) := Lib.hid (ListS.of_row (((HELS.out.take i).append (HELS.out.drop (i + 1))).chg (kp_i _) hHeld) (by rw [List.flatten_append]; exact HO17.out) (by rw [List.length_append, List.length_take, List.length_drop, HXL.out]; omega) HBL.out)
              have d1 := cell_quiet hHeld (HB1.out.cell (i := 0) rfl) (by simp)
              have d2 := HR17.out.cell (i := 0) rfl
              have hz := HZ.out
              have HHELD := Lib.hid hHeld
              clear hHeld
              go_wp2_with fail
              refine (same_rules _ less (xs.take i ++ xs.drop (i + 1)) false (Lib.hid (simL_of_ren L4.out)) _ _ _ _ (Lib.hid (HLV5.out.keep (kp_i _) HHELD.out (TyB.nil _ _ _))) HLF).mono ?_
              rintro e w9 ⟨rfl, hc9⟩
              have HC9 := Lib.hid ((HCWV.out.trans HHELD.out (by simp)).trans hc9 (by simp))
              clear hc9
              go_wp2_with fail
              go_ret
              exact ⟨rfl, HC9.out⟩
          · have HCAP := Lib.hid hcap
            clear hcap
            refine wp_region_held_drew (S := fun W' => Chg [] V W') (by kernel_rfl) (Chg.refl _ _).drew (fun hHeld => ?_)
            refine wpAnyH_take (i := 1) (v := ?vr1) rfl (by kernel_rfl) (by kernel_rfl) (by kernel_rfl) (fun _ _ _ h => h) (Or.inl ⟨by kernel_rfl, ?hyr1⟩) (by assumption) ?rsr1
            case hyr1 => (intro w9 hSw; skip; go_simp; try with_reducible rfl)
            try simp only [Act.put, List.setIfInBounds_toArray, List.set_cons_zero, List.set_cons_succ, List.getElem_toArray, List.getElem_cons_succ, List.getElem_cons_zero]
            refine wpAnyH_take (i := 2) (v := ?vr2) rfl (by kernel_rfl) (by kernel_rfl) (by kernel_rfl) (fun _ _ _ h => h) (Or.inl ⟨by kernel_rfl, ?hyr2⟩) (by assumption) ?rsr2
            case hyr2 => (intro w9 hSw; have d := cell_quiet hSw (HBV.out.cell (i := 0) rfl) (by simp); go_simp; try with_reducible rfl)
            try simp only [Act.put, List.setIfInBounds_toArray, List.set_cons_zero, List.set_cons_succ, List.getElem_toArray, List.getElem_cons_succ, List.getElem_cons_zero]
            refine wpAnyH_take (i := 3) (v := ?vr3) rfl (by kernel_rfl) (by kernel_rfl) (by kernel_rfl) (fun _ _ _ h => h) (Or.inl ⟨by kernel_rfl, ?hyr3⟩) (by assumption) ?rsr3
            case hyr3 => (intro w9 hSw; skip; go_simp; try with_reducible rfl)
            try simp only [Act.put, List.setIfInBounds_toArray, List.set_cons_zero, List.set_cons_succ, List.getElem_toArray, List.getElem_cons_succ, List.getElem_cons_zero]
            refine wpAnyH_take (i := 4) (v := ?vr4) rfl (by kernel_rfl) (by kernel_rfl) (by kernel_rfl) (fun _ _ _ h => h) (Or.inl ⟨by kernel_rfl, ?hyr4⟩) (by assumption) ?rsr4
            case hyr4 => (intro w9 hSw; skip; go_simp; try with_reducible rfl)
            try simp only [Act.put, List.setIfInBounds_toArray, List.set_cons_zero, List.set_cons_succ, List.getElem_toArray, List.getElem_cons_succ, List.getElem_cons_zero]
            refine wpAnyH_take (i := 6) (v := ?vr6) rfl (by kernel_rfl) (by kernel_rfl) (by kernel_rfl) (fun _ _ _ h => h) (Or.inl ⟨by kernel_rfl, ?hyr6⟩) (by assumption) ?rsr6
            case hyr6 => (intro w9 hSw; skip; go_simp; try with_reducible rfl)
            try simp only [Act.put, List.setIfInBounds_toArray, List.set_cons_zero, List.set_cons_succ, List.getElem_toArray, List.getElem_cons_succ, List.getElem_cons_zero]
            refine wpAnyH_take (i := 7) (v := ?vr7) rfl (by kernel_rfl) (by kernel_rfl) (by kernel_rfl) (fun _ _ _ h => h) (Or.inl ⟨by kernel_rfl, ?hyr7⟩) (by assumption) ?rsr7
            case hyr7 => (intro w9 hSw; have d := cell_quiet hSw (HBV.out.cell (i := 0) rfl) (by simp); go_simp; try with_reducible rfl)
            try simp only [Act.put, List.setIfInBounds_toArray, List.set_cons_zero, List.set_cons_succ, List.getElem_toArray, List.getElem_cons_succ, List.getElem_cons_zero]
            refine wpAnyH_take (i := 8) (v := ?vr8) rfl (by kernel_rfl) (by kernel_rfl) (by kernel_rfl) (fun _ _ _ h => h) (Or.inl ⟨by kernel_rfl, ?hyr8⟩) (by assumption) ?rsr8
            case hyr8 => (intro w9 hSw; skip; go_simp; try with_reducible rfl)
            try simp only [Act.put, List.setIfInBounds_toArray, List.set_cons_zero, List.set_cons_succ, List.getElem_toArray, List.getElem_cons_succ, List.getElem_cons_zero]
            refine wpAnyH_take (i := 9) (v := ?vr9) rfl (by kernel_rfl) (by kernel_rfl) (by kernel_rfl) (fun _ _ _ h => h) (Or.inl ⟨by kernel_rfl, ?hyr9⟩) (by assumption) ?rsr9
            case hyr9 => (intro w9 hSw; skip; go_simp; try with_reducible rfl)
            try simp only [Act.put, List.setIfInBounds_toArray, List.set_cons_zero, List.set_cons_succ, List.getElem_toArray, List.getElem_cons_succ, List.getElem_cons_zero]
            refine wpAnyH_take (i := 10) (v := ?vr10) rfl (by kernel_rfl) (by kernel_rfl) (by kernel_rfl) (fun _ _ _ h => h) (Or.inl ⟨by kernel_rfl, ?hyr10⟩) (by assumption) ?rsr10
            case hyr10 => (intro w9 hSw; have hcap := HCAP.out; go_simp; try with_reducible rfl)
            try simp only [Act.put, List.setIfInBounds_toArray, List.set_cons_zero, List.set_cons_succ, List.getElem_toArray, List.getElem_cons_succ, List.getElem_cons_zero]
            obtain ⟨Z0, hZ0⟩ : ∃ Z, Z = V.drew := ⟨_, rfl⟩
            rw [← hZ0] at hHeld ⊢
            have HSZZ0 : Hid (V.heap.size ≤ Z0.heap.size) := Lib.hid hHeld.size
            clear hZ0
            refine wpAnyH_ready (rs := [0, 13]) (by kernel_rfl) (by simp) (AllReadyH.cons rfl (fun K hK => ?_) (AllReadyH.cons rfl (fun K hK => ?_) AllReadyH.nil))
            · go_simp
              refine hK.out _ _ (hHeld.alloc _) (fun hHeld => ?_)
              clear hK K
              try simp only [Act.put, List.setIfInBounds_toArray, List.set_cons_zero, List.set_cons_succ, List.getElem_toArray, List.getElem_cons_succ, List.getElem_cons_zero]
              obtain ⟨Z18, hZ18⟩ : ∃ Z, Z = Z0.alloc (.cells #[] 42) := ⟨_, rfl⟩
              obtain ⟨b18, hb18⟩ : ∃ b, b = Z0.heap.size := ⟨_, rfl⟩
              rw [← hZ18] at hHeld ⊢
              rw [← hb18]
              have Hb18 : Hid (V.heap.size ≤ b18) := Lib.hid (by rw [hb18]; exact HSZZ0.out)
              have HO18 : Hid (Z18.ownsRow V.heap.size 42 9 (.slice (some ⟨b18, 0, none⟩) 0 0) 0 []) := Lib.hid ⟨rfl, .inr ⟨b18, 0, #[], rfl, Hb18.out, by rw [hZ18, hb18]; exact World.alloc_heap_new _ _, Nat.le_refl _, Nat.zero_le _, rfl, rfl⟩⟩
              have HSZZ18 : Hid (V.heap.size ≤ Z18.heap.size) := Lib.hid hHeld.size
              clear hZ18 hb18
              refine wpAnyH_ready (rs := [5, 13]) (by kernel_rfl) (by simp) (AllReadyH.cons rfl (fun K hK => ?_) (AllReadyH.cons rfl (fun K hK => ?_) AllReadyH.nil))
              · refine step_app rfl (.tmp 76) (.tmp 80) rfl V.heap.size (.slice (some ⟨b18, 0, none⟩) 0 0) 0 [] rfl HO18.out ⟨g, 0, none⟩ i bp (css.take i).flatten rfl M1.out (N1.out _ hHeld) O1.out (by have := HK9.out; omega) HSZZ18.out (fun v19 Z19 hown hgrow => ?_)
                rw [Nat.zero_add, List.nil_append] at hown
                have HO19 := Lib.hid hown
                have HW19 := Lib.hid (hHeld.grown hgrow (fun q hq => .inr (own_ge HO18.out q hq)))
                obtain ⟨vo19, vc19, rfl⟩ := owns_form hown
                clear hown hgrow
                refine hK.out _ _ HW19.out (fun hHeld => ?_)
                clear hK K
                try simp only [Act.put, List.setIfInBounds_toArray, List.set_cons_zero, List.set_cons_succ, List.getElem_toArray, List.getElem_cons_succ, List.getElem_cons_zero]
                have HSZZ19 : Hid (V.heap.size ≤ Z19.heap.size) := Lib.hid hHeld.size
                refine wpAnyH_ready (rs := [11, 13]) (by kernel_rfl) (by simp) (AllReadyH.cons rfl (fun K hK => ?_) (AllReadyH.cons rfl (fun K hK => ?_) AllReadyH.nil))
                · refine step_app rfl (.tmp 81) (.tmp 86) rfl V.heap.size (.slice vo19 i vc19) i (css.take i).flatten rfl HO19.out ⟨g, (i + 1) * 9, none⟩ (k - (i + 1)) _ (css.drop (i + 1)).flatten rfl M2.out (N2.out _ hHeld) O2.out (by have := HK9.out; omega) HSZZ19.out (fun v20 Z20 hown hgrow => ?_)
                  have HO20 := Lib.hid hown
                  have HW20 := Lib.hid (hHeld.grown hgrow (fun q hq => .inr (own_ge HO19.out q hq)))
                  obtain ⟨vo20, vc20, rfl⟩ := owns_form hown
                  clear hown hgrow
                  refine hK.out _ _ HW20.out (fun hHeld => ?_)
                  clear hK K
                  try simp only [Act.put, List.setIfInBounds_toArray, List.set_cons_zero, List.set_cons_succ, List.getElem_toArray, List.getElem_cons_succ, List.getElem_cons_zero]
                  have HSZZ20 : Hid (V.heap.size ≤ Z20.heap.size) := Lib.hid hHeld.size
                  refine wpAnyH_take (i := 12) (v := ?vr0511z12) rfl (by kernel_rfl) (by kernel_rfl) (by kernel_rfl) (fun _ _ _ h => h) (Or.inl ⟨by kernel_rfl, ?hyr0511z12⟩) (by assumption) ?rsr0511z12
                  case hyr0511z12 => (intro w9 hSw; skip; go_simp; try with_reducible rfl)
                  try simp only [Act.put, List.setIfInBounds_toArray, List.set_cons_zero, List.set_cons_succ, List.getElem_toArray, List.getElem_cons_succ, List.getElem_cons_zero]
                  refine wpAnyH_ready (rs := [13]) (by kernel_rfl) (by simp) (AllReadyH.cons rfl (fun K hK => ?_) AllReadyH.nil)
                  go_simp
                  refine hK.out _ _ (hHeld.alloc _) (fun hHeld => ?_)
                  clear hK K
                  try simp only [Act.put, List.setIfInBounds_toArray, List.set_cons_zero, List.set_cons_succ, List.getElem_toArray, List.getElem_cons_succ, List.getElem_cons_zero]
                  obtain ⟨Z21, hZ21⟩ : ∃ Z, Z = Z20.alloc (.cells #[.slice none 0 0] 25) := ⟨_, rfl⟩
                  obtain ⟨b21, hb21⟩ : ∃ b, b = Z20.heap.size := ⟨_, rfl⟩
                  rw [← hZ21] at hHeld ⊢
                  rw [← hb21]
                  have Hb21 : Hid (V.heap.size ≤ b21) := Lib.hid (by rw [hb21]; exact HSZZ20.out)
                  have HR21 : Hid (Blk Z21 b21 [.slice none 0 0] 25) := Lib.hid (by rw [hZ21, hb21]; exact Blk.new _ [.slice none 0 0] 25)
                  have HO21 := Lib.hid (row_alloc HO20.out (.cells #[.slice none 0 0] 25))
                  rw [← hZ21] at HO21
                  have HSZZ21 : Hid (V.heap.size ≤ Z21.heap.size) := Lib.hid hHeld.size
                  clear hZ21 hb21
                  refine wpAnyH_ready (rs := [14]) (by kernel_rfl) (by simp) (AllReadyH.cons rfl (fun K hK => ?_) AllReadyH.nil)
                  have d := HR21.out.cell (i := 0) rfl
                  have f := HR21.out.free 0
                  go_simp
                  refine hK.out _ _ (hHeld.setCell ⟨b21, 0, none⟩ (.slice vo20 (i + (k - (i + 1))) vc20) (.inr Hb21.out)) (fun hHeld => ?_)
                  clear hK K d f
                  try simp only [Act.put, List.setIfInBounds_toArray, List.set_cons_zero, List.set_cons_succ, List.getElem_toArray, List.getElem_cons_succ, List.getElem_cons_zero]
                  obtain ⟨Z22, hZ22⟩ : ∃ Z, Z = Z21.setCell ⟨b21, 0, none⟩ (.slice vo20 (i + (k - (i + 1))) vc20) := ⟨_, rfl⟩
                  rw [← hZ22] at hHeld ⊢
                  have HR22 : Hid (Blk Z22 b21 [(.slice vo20 (i + (k - (i + 1))) vc20)] 25) := Lib.hid (by rw [hZ22]; exact HR21.out.set 0 (.slice vo20 (i + (k - (i + 1))) vc20))
                  have HO22 := Lib.hid (row_store (u := (.slice vo20 (i + (k - (i + 1))) vc20)) HO21.out HR21.out (by decide))
                  rw [← hZ22] at HO22
                  clear hZ22
                  refine wpAnyH_done (by kernel_rfl) ?_ _
                  try simp only [Act.put, List.setIfInBounds_toArray, List.set_cons_zero, List.set_cons_succ, List.getElem_toArray, List.getElem_cons_succ, List.getElem_cons_zero]
                  have HLF : Hid (ListS w1.heap.size 42 9 (Ci w1.heap.size) (xs.take i ++ xs.drop (i + 1)) (.slice vo20 (i + (k - (i + 1))) vc20) Z22) := Lib.hid (ListS.of_row (((HELS.out.take i).append (HELS.out.drop (i + 1))).chg (kp_i _) hHeld) (by rw [List.flatten_append]; exact HO22.out) (by rw [List.length_append, List.length_take, List.length_drop, HXL.out]; omega) HBL.out)
                  have d1 := cell_quiet hHeld (HB1.out.cell (i := 0) rfl) (by simp)
                  have d2 := HR22.out.cell (i := 0) rfl
                  have hz := HZ.out
                  have HHELD := Lib.hid hHeld
                  clear hHeld
                  go_wp2_with fail
                  refine (same_rules _ less (xs.take i ++ xs.drop (i + 1)) false (Lib.hid (simL_of_ren L4.out)) _ _ _ _ (Lib.hid (HLV5.out.keep (kp_i _) HHELD.out (TyB.nil _ _ _))) HLF).mono ?_
                  rintro e w9 ⟨rfl, hc9⟩
                  have HC9 := Lib.hid ((HCWV.out.trans HHELD.out (by simp)).trans hc9 (by simp))
                  clear hc9
                  go_wp2_with fail
                  go_ret
                  exact ⟨rfl, HC9.out⟩
                · go_simp
                  refine hK.out _ _ (hHeld.alloc _) (fun hHeld => ?_)
                  clear hK K
                  try simp only [Act.put, List.setIfInBounds_toArray, List.set_cons_zero, List.set_cons_succ, List.getElem_toArray, List.getElem_cons_succ, List.getElem_cons_zero]
                  obtain ⟨Z23, hZ23⟩ : ∃ Z, Z = Z19.alloc (.cells #[.slice none 0 0] 25) := ⟨_, rfl⟩
                  obtain ⟨b23, hb23⟩ : ∃ b, b = Z19.heap.size := ⟨_, rfl⟩
                  rw [← hZ23] at hHeld ⊢
                  rw [← hb23]
                  have Hb23 : Hid (V.heap.size ≤ b23) := Lib.hid (by rw [hb23]; exact HSZZ19.out)
                  have HR23 : Hid (Blk Z23 b23 [.slice none 0 0] 25) := Lib.hid (by rw [hZ23, hb23]; exact Blk.new _ [.slice none 0 0] 25)
                  have HO23 := Lib.hid (row_alloc HO19.out (.cells #[.slice none 0 0] 25))
                  rw [← hZ23] at HO23
                  have HSZZ23 : Hid (V.heap.size ≤ Z23.heap.size) := Lib.hid hHeld.size
                  clear hZ23 hb23
                  refine wpAnyH_ready (rs := [11]) (by kernel_rfl) (by simp) (AllReadyH.cons rfl (fun K hK => ?_) AllReadyH.nil)
                  refine step_app rfl (.tmp 81) (.tmp 86) rfl V.heap.size (.slice vo19 i vc19) i (css.take i).flatten rfl HO23.out ⟨g, (i + 1) * 9, none⟩ (k - (i + 1)) _ (css.drop (i + 1)).flatten rfl M2.out (N2.out _ hHeld) O2.out (by have := HK9.out; omega) HSZZ23.out (fun v24 Z24 hown hgrow => ?_)
                  have HO24 := Lib.hid hown
                  have HW24 := Lib.hid (hHeld.grown hgrow (fun q hq => .inr (own_ge HO23.out q hq)))
                  obtain ⟨vo24, vc24, rfl⟩ := owns_form hown
                  have HR24 := Lib.hid (grown_blk HR23.out hgrow HO23.out (by decide))
                  clear hown hgrow
                  refine hK.out _ _ HW24.out (fun hHeld => ?_)
                  clear hK K
                  try simp only [Act.put, List.setIfInBounds_toArray, List.set_cons_zero, List.set_cons_succ, List.getElem_toArray, List.getElem_cons_succ, List.getElem_cons_zero]
                  have HSZZ24 : Hid (V.heap.size ≤ Z24.heap.size) := Lib.hid hHeld.size
                  refine wpAnyH_take (i := 12) (v := ?vr051311z12) rfl (by kernel_rfl) (by kernel_rfl) (by kernel_rfl) (fun _ _ _ h => h) (Or.inl ⟨by kernel_rfl, ?hyr051311z12⟩) (by assumption) ?rsr051311z12
                  case hyr051311z12 => (intro w9 hSw; skip; go_simp; try with_reducible rfl)
                  try simp only [Act.put, List.setIfInBounds_toArray, List.set_cons_zero, List.set_cons_succ, List.getElem_toArray, List.getElem_cons_succ, List.getElem_cons_zero]
                  refine wpAnyH_ready (rs := [14]) (by kernel_rfl) (by simp) (AllReadyH.cons rfl (fun K hK => ?_) AllReadyH.nil)
                  have d := HR24.out.cell (i := 0) rfl
                  have f := HR24.out.free 0
                  go_simp
                  refine hK.out _ _ (hHeld.setCell ⟨b23, 0, none⟩ (.slice vo24 (i + (k - (i + 1))) vc24) (.inr Hb23.out)) (fun hHeld => ?_)
                  clear hK K d f
                  try simp only [Act.put, List.setIfInBounds_toArray, List.set_cons_zero, List.set_cons_succ, List.getElem_toArray, List.getElem_cons_succ, List.getElem_cons_zero]
                  obtain ⟨Z25, hZ25⟩ : ∃ Z, Z = Z24.setCell ⟨b23, 0, none⟩ (.slice vo24 (i + (k - (i + 1))) vc24) := ⟨_, rfl⟩
                  rw [← hZ25] at hHeld ⊢
                  have HR25 : Hid (Blk Z25 b23 [(.slice vo24 (i + (k - (i + 1))) vc24)] 25) := Lib.hid (by rw [hZ25]; exact HR24.out.set 0 (.slice vo24 (i + (k - (i + 1))) vc24))
                  have HO25 := Lib.hid (row_store (u := (.slice vo24 (i + (k - (i + 1))) vc24)) HO24.out HR24.out (by decide))
                  rw [← hZ25] at HO25
                  clear hZ25
                  refine wpAnyH_done (by kernel_rfl) ?_ _
                  try simp only [Act.put, List.setIfInBounds_toArray, List.set_cons_zero, List.set_cons_succ, List.getElem_toArray, List.getElem_cons_succ, List.getElem_cons_zero]
                  have HLF : Hid (ListS w1.heap.size 42 9 (Ci w1.heap.size) (xs.take i ++ xs.drop (i + 1)) (.slice vo24 (i + (k - (i + 1))) vc24) Z25) := Lib.hid (ListS.of_row (((HELS.out.take i).append (HELS.out.drop (i + 1))).chg (kp_i _) hHeld) (by rw [List.flatten_append]; exact HO25.out) (by rw [List.length_append, List.length_take, List.length_drop, HXL.out]; omega) HBL.out)
                  have d1 := cell_quiet hHeld (HB1.out.cell (i := 0) rfl) (by simp)
                  have d2 := HR25.out.cell (i := 0) rfl
                  have hz := HZ.out
                  have HHELD := Lib.hid hHeld
                  clear hHeld
                  go_wp2_with fail
                  refine (same_rules _ less (xs.take i ++ xs.drop (i + 1)) false (Lib.hid (simL_of_ren L4.out)) _ _ _ _ (Lib.hid (HLV5.out.keep (kp_i _) HHELD.out (TyB.nil _ _ _))) HLF).mono ?_
                  rintro e w9 ⟨rfl, hc9⟩
                  have HC9 := Lib.hid ((HCWV.out.trans HHELD.out (by simp)).trans hc9 (by simp))
                  clear hc9
                  go_wp2_with fail
                  go_ret
                  exact ⟨rfl, HC9.out⟩
              · go_simp
                refine hK.out _ _ (hHeld.alloc _) (fun hHeld => ?_)
                clear hK K
                try simp only [Act.put, List.setIfInBounds_toArray, List.set_cons_zero, List.set_cons_succ, List.getElem_toArray, List.getElem_cons_succ, List.getElem_cons_zero]
                obtain ⟨Z26, hZ26⟩ : ∃ Z, Z = Z18.alloc (.cells #[.slice none 0 0] 25) := ⟨_, rfl⟩
                obtain ⟨b26, hb26⟩ : ∃ b, b = Z18.heap.size := ⟨_, rfl⟩
                rw [← hZ26] at hHeld ⊢
                rw [← hb26]
                have Hb26 : Hid (V.heap.size ≤ b26) := Lib.hid (by rw [hb26]; exact HSZZ18.out)
                have HR26 : Hid (Blk Z26 b26 [.slice none 0 0] 25) := Lib.hid (by rw [hZ26, hb26]; exact Blk.new _ [.slice none 0 0] 25)
                have HO26 := Lib.hid (row_alloc HO18.out (.cells #[.slice none 0 0] 25))
                rw [← hZ26] at HO26
                have HSZZ26 : Hid (V.heap.size ≤ Z26.heap.size) := Lib.hid hHeld.size
                clear hZ26 hb26
                refine wpAnyH_ready (rs := [5]) (by kernel_rfl) (by simp) (AllReadyH.cons rfl (fun K hK => ?_) AllReadyH.nil)
                refine step_app rfl (.tmp 76) (.tmp 80) rfl V.heap.size (.slice (some ⟨b18, 0, none⟩) 0 0) 0 [] rfl HO26.out ⟨g, 0, none⟩ i bp (css.take i).flatten rfl M1.out (N1.out _ hHeld) O1.out (by have := HK9.out; omega) HSZZ26.out (fun v27 Z27 hown hgrow => ?_)
                rw [Nat.zero_add, List.nil_append] at hown
                have HO27 := Lib.hid hown
                have HW27 := Lib.hid (hHeld.grown hgrow (fun q hq => .inr (own_ge HO26.out q hq)))
                obtain ⟨vo27, vc27, rfl⟩ := owns_form hown
                have HR27 := Lib.hid (grown_blk HR26.out hgrow HO26.out (by decide))
                clear hown hgrow
                refine hK.out _ _ HW27.out (fun hHeld => ?_)
                clear hK K
                try simp only [Act.put, List.setIfInBounds_toArray, List.set_cons_zero, List.set_cons_succ, List.getElem_toArray, List.getElem_cons_succ, List.getElem_cons_zero]
                have HSZZ27 : Hid (V.heap.size ≤ Z27.heap.size) := Lib.hid hHeld.size
                refine wpAnyH_ready (rs := [11]) (by kernel_rfl) (by simp) (AllReadyH.cons rfl (fun K hK => ?_) AllReadyH.nil)
                refine step_app rfl (.tmp 81) (.tmp 86) rfl V.heap.size (.slice vo27 i vc27) i (css.take i).flatten rfl HO27.out ⟨g, (i + 1) * 9, none⟩ (k - (i + 1)) _ (css.drop (i + 1)).flatten rfl M2.out (N2.out _ hHeld) O2.out (by have := HK9.out; omega) HSZZ27.out (fun v28 Z28 hown hgrow => ?_)
                have HO28 := Lib.hid hown
                have HW28 := Lib.hid (hHeld.grown hgrow (fun q hq => .inr (own_ge HO27.out q hq)))
                obtain ⟨vo28, vc28, rfl⟩ := owns_form hown
                have HR28 := Lib.hid (grown_blk HR27.out hgrow HO27.out (by decide))
                clear hown hgrow
                refine hK.out _ _ HW28.out (fun hHeld => ?_)
                clear hK K
                try simp only [Act.put, List.setIfInBounds_toArray, List.set_cons_zero, List.set_cons_succ, List.getElem_toArray, List.getElem_cons_succ, List.getElem_cons_zero]
                have HSZZ28 : Hid (V.heap.size ≤ Z28.heap.size) := Lib.hid hHeld.size
                refine wpAnyH_take (i := 12) (v := ?vr013511z12) rfl (by kernel_rfl) (by kernel_rfl) (by kernel_rfl) (fun _ _ _ h => h) (Or.inl ⟨by kernel_rfl, ?hyr013511z12⟩) (by assumption) ?rsr013511z12
                case hyr013511z12 => (intro w9 hSw; skip; go_simp; try with_reducible rfl)
                try simp only [Act.put, List.setIfInBounds_toArray, List.set_cons_zero, List.set_cons_succ, List.getElem_toArray, List.getElem_cons_succ, List.getElem_cons_zero]
                refine wpAnyH_ready (rs := [14]) (by kernel_rfl) (by simp) (AllReadyH.cons rfl (fun K hK => ?_) AllReadyH.nil)
                have d := HR28.out.cell (i := 0) rfl
                have f := HR28.out.free 0
                go_simp
                refine hK.out _ _ (hHeld.setCell ⟨b26, 0, none⟩ (.slice vo28 (i + (k - (i + 1))) vc28) (.inr Hb26.out)) (fun hHeld => ?_)
                clear hK K d f
                try simp only [Act.put, List.setIfInBounds_toArray, List.set_cons_zero, List.set_cons_succ, List.getElem_toArray, List.getElem_cons_succ, List.getElem_cons_zero]
                obtain ⟨Z29, hZ29⟩ : ∃ Z, Z = Z28.setCell ⟨b26, 0, none⟩ (.slice vo28 (i + (k - (i + 1))) vc28) := ⟨_, rfl⟩
                rw [← hZ29] at hHeld ⊢
                have HR29 : Hid (Blk Z29 b26 [(.slice vo28 (i + (k - (i + 1))) vc28)] 25) := Lib.hid (by rw [hZ29]; exact HR28.out.set 0 (.slice vo28 (i + (k - (i + 1))) vc28))
                have HO29 := Lib.hid (row_store (u := (.slice vo28 (i + (k - (i + 1))) vc28)) HO28.out HR28.out (by decide))
                rw [← hZ29] at HO29
                clear hZ29
                refine wpAnyH_done (by kernel_rfl) ?_ _
                try simp only [Act.put, List.setIfInBounds_toArray, List.set_cons_zero, List.set_cons_succ, List.getElem_toArray, List.getElem_cons_succ, List.getElem_cons_zero]
                have HLF : Hid (ListS w1.heap.size 42 9 (Ci w1.heap.size) (xs.take i ++ xs.drop (i + 1)) (.slice vo28 (i + (k - (i + 1))) vc28) Z29) := Lib.hid (ListS.of_row (((HELS.out.take i).append (HELS.out.drop (i + 1))).chg (kp_i _) hHeld) (by rw [List.flatten_append]; exact HO29.out) (by rw [List.length_append, List.length_take, List.length_drop, HXL.out]; omega) HBL.out)
                have d1 := cell_quiet hHeld (HB1.out.cell (i := 0) rfl) (by simp)
                have d2 := HR29.out.cell (i := 0) rfl
                have hz := HZ.out
                have HHELD := Lib.hid hHeld
                clear hHeld
                go_wp2_with fail
                refine (same_rules _ less (xs.take i ++ xs.drop (i + 1)) false (Lib.hid (simL_of_ren L4.out)) _ _ _ _ (Lib.hid (HLV5.out.keep (kp_i _) HHELD.out (TyB.nil _ _ _))) HLF).mono ?_
                rintro e w9 ⟨rfl, hc9⟩
                have HC9 := Lib.hid ((HCWV.out.trans HHELD.out (by simp)).trans hc9 (by simp))
                clear hc9
                go_wp2_with fail
                go_ret
                exact ⟨rfl, HC9.out⟩
            · go_simp
              refine hK.out _ _ (hHeld.alloc _) (fun hHeld => ?_)
              clear hK K
              try simp only [Act.put, List.setIfInBounds_toArray, List.set_cons_zero, List.set_cons_succ, List.getElem_toArray, List.getElem_cons_succ, List.getElem_cons_zero]
              obtain ⟨Z30, hZ30⟩ : ∃ Z, Z = Z0.alloc (.cells #[.slice none 0 0] 25) := ⟨_, rfl⟩
              obtain ⟨b30, hb30⟩ : ∃ b, b = Z0.heap.size := ⟨_, rfl⟩
              rw [← hZ30] at hHeld ⊢
              rw [← hb30]
              have Hb30 : Hid (V.heap.size ≤ b30) := Lib.hid (by rw [hb30]; exact HSZZ0.out)
              have HR30 : Hid (Blk Z30 b30 [.slice none 0 0] 25) := Lib.hid (by rw [hZ30, hb30]; exact Blk.new _ [.slice none 0 0] 25)
              have HSZZ30 : Hid (V.heap.size ≤ Z30.heap.size) := Lib.hid hHeld.size
              clear hZ30 hb30
              refine wpAnyH_ready (rs := [0]) (by kernel_rfl) (by simp) (AllReadyH.cons rfl (fun K hK => ?_) AllReadyH.nil)
              go_simp
              refine hK.out _ _ (hHeld.alloc _) (fun hHeld => ?_)
              clear hK K
              try simp only [Act.put, List.setIfInBounds_toArray, List.set_cons_zero, List.set_cons_succ, List.getElem_toArray, List.getElem_cons_succ, List.getElem_cons_zero]
              obtain ⟨Z31, hZ31⟩ : ∃ Z, Z = Z30.alloc (.cells #[] 42) := ⟨_, rfl⟩
              obtain ⟨b31, hb31⟩ : ∃ b, b = Z30.heap.size := ⟨_, rfl⟩
              rw [← hZ31] at hHeld ⊢
              rw [← hb31]
              have Hb31 : Hid (V.heap.size ≤ b31) := Lib.hid (by rw [hb31]; exact HSZZ30.out)
              have HO31 : Hid (Z31.ownsRow V.heap.size 42 9 (.slice (some ⟨b31, 0, none⟩) 0 0) 0 []) := Lib.hid ⟨rfl, .inr ⟨b31, 0, #[], rfl, Hb31.out, by rw [hZ31, hb31]; exact World.alloc_heap_new _ _, Nat.le_refl _, Nat.zero_le _, rfl, rfl⟩⟩
              have HR31 := Lib.hid (HR30.out.alloc ((.cells #[] 42) : Obj))
              rw [← hZ31] at HR31
              have HSZZ31 : Hid (V.heap.size ≤ Z31.heap.size) := Lib.hid hHeld.size
              clear hZ31 hb31
              refine wpAnyH_ready (rs := [5]) (by kernel_rfl) (by simp) (AllReadyH.cons rfl (fun K hK => ?_) AllReadyH.nil)
              refine step_app rfl (.tmp 76) (.tmp 80) rfl V.heap.size (.slice (some ⟨b31, 0, none⟩) 0 0) 0 [] rfl HO31.out ⟨g, 0, none⟩ i bp (css.take i).flatten rfl M1.out (N1.out _ hHeld) O1.out (by have := HK9.out; omega) HSZZ31.out (fun v32 Z32 hown hgrow => ?_)
              rw [Nat.zero_add, List.nil_append] at hown
              have HO32 := Lib.hid hown
              have HW32 := Lib.hid (hHeld.grown hgrow (fun q hq => .inr (own_ge HO31.out q hq)))
              obtain ⟨vo32, vc32, rfl⟩ := owns_form hown
              have HR32 := Lib.hid (grown_blk HR31.out hgrow HO31.out (by decide))
              clear hown hgrow
              refine hK.out _ _ HW32.out (fun hHeld => ?_)
              clear hK K
              try simp only [Act.put, List.setIfInBounds_toArray, List.set_cons_zero, List.set_cons_succ, List.getElem_toArray, List.getElem_cons_succ, List.getElem_cons_zero]
              have HSZZ32 : Hid (V.heap.size ≤ Z32.heap.size) := Lib.hid hHeld.size
              refine wpAnyH_ready (rs := [11]) (by kernel_rfl) (by simp) (AllReadyH.cons rfl (fun K hK => ?_) AllReadyH.nil)
              refine step_app rfl (.tmp 81) (.tmp 86) rfl V.heap.size (.slice vo32 i vc32) i (css.take i).flatten rfl HO32.out ⟨g, (i + 1) * 9, none⟩ (k - (i + 1)) _ (css.drop (i + 1)).flatten rfl M2.out (N2.out _ hHeld) O2.out (by have := HK9.out; omega) HSZZ32.out (fun v33 Z33 hown hgrow => ?_)
              have HO33 := Lib.hid hown
              have HW33 := Lib.hid (hHeld.grown hgrow (fun q hq => .inr (own_ge HO32.out q hq)))
              obtain ⟨vo33, vc33, rfl⟩ := owns_form hown
              have HR33 := Lib.hid (grown_blk HR32.out hgrow HO32.out (by decide))
              clear hown hgrow
              refine hK.out _ _ HW33.out (fun hHeld => ?_)
              clear hK K
              try simp only [Act.put, List.setIfInBounds_toArray, List.set_cons_zero, List.set_cons_succ, List.getElem_toArray, List.getElem_cons_succ, List.getElem_cons_zero]
              have HSZZ33 : Hid (V.heap.size ≤ Z33.heap.size) := Lib.hid hHeld.size
              refine wpAnyH_take (i := 12) (v := ?vr130511z12) rfl (by kernel_rfl) (by kernel_rfl) (by kernel_rfl) (fun _ _ _ h => h) (Or.inl ⟨by kernel_rfl, ?hyr130511z12⟩) (by assumption) ?rsr130511z12
              case hyr130511z12 => (intro w9 hSw; skip; go_simp; try with_reducible rfl)
              try simp only [Act.put, List.setIfInBounds_toArray, List.set_cons_zero, List.set_cons_succ, List.getElem_toArray, List.getElem_cons_succ, List.getElem_cons_zero]
              refine wpAnyH_ready (rs := [14]) (by kernel_rfl) (by simp) (AllReadyH.cons rfl (fun K hK => ?_) AllReadyH.nil)
              have d := HR33.out.cell (i := 0) rfl
              have f := HR33.out.free 0
              go_simp
              refine hK.out _ _ (hHeld.setCell ⟨b30, 0, none⟩ (.slice vo33 (i + (k - (i + 1))) vc33) (.inr Hb30.out)) (fun hHeld => ?_)
              clear hK K d f
              try simp only [Act.put, List.setIfInBounds_toArray, List.set_cons_zero, List.set_cons_succ, List.getElem_toArray, List.getElem_cons_succ, List.getElem_cons_zero]
              obtain ⟨Z34, hZ34⟩ : ∃ Z, Z = Z33.setCell ⟨b30, 0, none⟩ (.slice vo33 (i + (k - (i + 1))) vc33) := ⟨_, rfl⟩
              rw [← hZ34] at hHeld ⊢
              have HR34 : Hid (Blk Z34 b30 [(.slice vo33 (i + (k - (i + 1))) vc33)] 25) := Lib.hid (by rw [hZ34]; exact HR33.out.set 0 (.slice vo33 (i + (k - (i + 1))) vc33))
              have HO34 := Lib.hid (row_store (u := (.slice vo33 (i + (k - (i + 1))) vc33)) HO33.out HR33.out (by decide))
              rw [← hZ34] at HO34
              clear hZ34
              refine wpAnyH_done (by kernel_rfl) ?_ _
              try simp only [Act.put, List.setIfInBounds_toArray, List.set_cons_zero, List.set_cons_succ, List.getElem_toArray, List.getElem_cons_succ, List.getElem_cons_zero]
              have HLF : Hid (ListS w1.heap.size 42 9 (Ci w1.heap.size) (xs.take i ++ xs.drop (i + 1)) (.slice vo33 (i + (k - (i + 1))) vc33) Z34) := Lib.hid (ListS.of_row (((HELS.out.take i).append (HELS.out.drop (i + 1))).chg (kp_i _) hHeld) (by rw [List.flatten_append]; exact HO34.out) (by rw [List.length_append, List.length_take, List.length_drop, HXL.out]; omega) HBL.out)
              have d1 := cell_quiet hHeld (HB1.out.cell (i := 0) rfl) (by simp)
              have d2 := HR34.out.cell (i := 0) rfl
              have hz := HZ.out
              have HHELD := Lib.hid hHeld
              clear hHeld
              go_wp2_with fail
              refine (same_rules _ less (xs.take i ++ xs.drop (i + 1)) false (Lib.hid (simL_of_ren L4.out)) _ _ _ _ (Lib.hid (HLV5.out.keep (kp_i _) HHELD.out (TyB.nil _ _ _))) HLF).mono ?_
              rintro e w9 ⟨rfl, hc9⟩
              have HC9 := Lib.hid ((HCWV.out.trans HHELD.out (by simp)).trans hc9 (by simp))
              clear hc9
              go_wp2_with fail
              go_ret
              exact ⟨rfl, HC9.out⟩
    · have n1 : ((E1 : Int) != 0) = true := bne_iff_ne.2 (by omega)
      clear e1
      go_wp2_with fail
      go_ret
      exact ⟨rfl, HC12.out.alloc _⟩
  · have q1 : (4000 : Int) < (sb.size : Int) := by rw [HSZ.out]; omega
    go_wp2_with fail
    go_ret
    exact ⟨rfl, HC1.out⟩
end Go.Proofs.YtmfjebpefneboaaDoor
