/-
  Rule, the law RuleJoins: the walk. Printed by genjoin07.py.
-/
import Derived.Test.YtmfjebpefneboaaDoorRmC
import Derived.Test.YtmfjebpefneboaaDoorRlR
namespace Go.Proofs.YtmfjebpefneboaaDoor
set_option linter.unusedVariables false
set_option linter.unusedSimpArgs false
open Go Go.RowKit Go.Shelf
open Lx (Tk)

theorem rul0 (a : Value) (w : World) : (Instr.field 25 (.agg #[a]) 0).run Tryd.prog w = .ok a w := by kernel_rfl
set_option maxHeartbeats 4000000 in
set_option maxRecDepth 100000 in
theorem ruleJoins_walk (w : World) (s : Bytes) (hs0 : s.length ≤ 9223372036854775807) (m : Bytes) (hm0 : m.length ≤ 9223372036854775807) :
    Calls Tryd.prog 4 #[.string ⟨s.toArray⟩, .string ⟨m.toArray⟩] w fun e w' => e = .returned (.bool true) ∧ Chg [] w w' := by
  obtain ⟨sb, hsb⟩ : ∃ sb : ByteArray, sb = ⟨s.toArray⟩ := ⟨_, rfl⟩
  obtain ⟨mb, hmb⟩ : ∃ mb : ByteArray, mb = ⟨m.toArray⟩ := ⟨_, rfl⟩
  rw [← hsb, ← hmb]
  have HSB := Lib.hid hsb
  have HMB := Lib.hid hmb
  have HSZ := Lib.hid (hsize HSB)
  have HMZ := Lib.hid (hsize HMB)
  clear hsb hmb
  go_enter Tryd.func4, Tryd.ntmps4
  go_wp2_with fail
  refine (head_spec07 _).mono ?_
  rintro e w1 ⟨rfl, hc1⟩
  have HC1 := Lib.hid hc1
  clear hc1
  by_cases hl : s.length ≤ 4000
  · have q1 : ¬ (4000 : Int) < (sb.size : Int) := by rw [HSZ.out]; omega
    by_cases hl2 : m.length ≤ 4000
    · have q2 : ¬ (4000 : Int) < (mb.size : Int) := by rw [HMZ.out]; omega
      have HL := Lib.hid hl
      have HL2 := Lib.hid hl2
      clear hl hl2 hs0 hm0
      go_wp2_with fail
      refine parse_r (by have := HL.out; omega) HSB (fun bo k bp E1 A1 w2 HP2 HC2 HE1 => ?_)
      go_wp2_with fail
      refine parse_r (by have := HL2.out; omega) HMB (fun co n cp E2 A2 w3 HQ3 HC3 HE2 => ?_)
      have hb := HC3.out.blk (Blk.new w2 [.slice bo k bp] 25) (by simp)
      obtain ⟨B0, hB0⟩ : ∃ B0, B0 = w2.heap.size := ⟨_, rfl⟩
      rw [← hB0] at hb ⊢
      have HB0 := Lib.hid hb
      have HA2 : Hid (Chg [] w2 w3) := Lib.hid (((Chg.refl [] w2).alloc _).trans HC3.out (by simp))
      have HP3 : Hid (ListS w1.heap.size 42 9 (Ci w1.heap.size) (Rl.parse s).1 (.slice bo k bp) w3) := Lib.hid (HP2.out.keep (kp_i _) HA2.out (TyB.nil _ _ _))
      have HQW : Hid (ListS w1.heap.size 42 9 (Ci w1.heap.size) (Rl.parse m).1 (.slice co n cp) w3) := Lib.hid (by
        have h1 : w1.heap.size ≤ (w2.alloc (.cells #[.slice bo k bp] 25)).heap.size := (HC2.out.alloc _).size
        exact HQ3.out.mono h1 (mono_i h1))
      have HC13 : Hid (Chg [] w w3) := Lib.hid ((HC1.out.trans HC2.out (by simp)).trans HA2.out (by simp))
      have HGE1 : Hid (w1.heap.size ≤ w3.heap.size) := Lib.hid (HC2.out.trans HA2.out (by simp)).size
      clear hb hB0
      by_cases e1 : E1 = 0
      · have n1 : ((E1 : Int) != 0) = false := by subst e1; rfl
        by_cases e2 : E2 = 0
        · have n2 : ((E2 : Int) != 0) = false := by subst e2; rfl
          have HPZ : Hid ((Rl.parse s).2.1 = 0) := Lib.hid (HE1.out.2.1.trans e1)
          have HQZ : Hid ((Rl.parse m).2.1 = 0) := Lib.hid (HE2.out.2.1.trans e2)
          clear e1 e2
          have hk2 : k ≤ 200000 := by rw [← HE1.out.1]; exact Rl.parse_le s HL.out
          have hn2 : n ≤ 200000 := by rw [← HE2.out.1]; exact Rl.parse_le m HL2.out
          have hw : IntKind.i64.wrap ((k : Int) + (n : Int)) = (k : Int) + (n : Int) := IntWalk.i64_in _ (by omega)
          have d0 := fun o : Obj => (HB0.out.alloc o).cell (i := 0) rfl
          by_cases hkn : k + n ≤ 200
          · have n3 : ¬ (200 : Int) < (k : Int) + (n : Int) := by omega
            have HKN := Lib.hid hkn
            have k1 : ¬ 9223372036854775807 < sb.size + 1 := by rw [HSZ.out]; have := HL.out; omega
            have k2 : ¬ 9223372036854775807 < sb.size + 1 + mb.size := by rw [HSZ.out, HMZ.out]; have := HL.out; have := HL2.out; omega
            have HCAT : Hid (sb ++ (⟨#[10]⟩ : ByteArray) ++ mb = ⟨(s ++ 10 :: m).toArray⟩) := Lib.hid (nl_cat HSB HMB)
            clear hkn
            go_upto_region 8 with fail
            obtain ⟨W3, hW3⟩ : ∃ W, W = w3.alloc (.cells #[.slice co n cp] 25) := ⟨_, rfl⟩
            rw [← hW3]
            obtain ⟨B1, hB1⟩ : ∃ B, B = w3.heap.size := ⟨_, rfl⟩
            rw [← hB1]
            have HA3 : Hid (Chg [] w3 W3) := Lib.hid (by rw [hW3]; exact (Chg.refl _ _).alloc _)
            have HB1 : Hid (Blk W3 B1 [.slice co n cp] 25) := Lib.hid (by rw [hW3, hB1]; exact Blk.new w3 _ _)
            clear hW3 hB1 d0
            go_wp2_with fail
            refine lex_r (s := s ++ 10 :: m) (by have := HL.out; have := HL2.out; simp; omega) HCAT (fun ao j2 cap E3 A3 w4 HT4 HC4 HE3 => ?_)
            go_wp2_with fail
            refine parse_r (s := s ++ 10 :: m) (by have := HL.out; have := HL2.out; simp; omega) HCAT (fun eo kk ep E4 A4 w5 HR5 HC5 HE4 => ?_)
            have HA5 : Hid (Chg [] w3 w5) := Lib.hid ((HA3.out.trans HC4.out (by simp)).trans HC5.out (by simp))
            by_cases e3 : E3 = 0
            · have n4 : ((E3 : Int) != 0) = false := by subst e3; rfl
              have HE33 : Hid ((Lx.lex (s ++ 10 :: m)).2.1 = 0) := Lib.hid (HE3.out.2.1.trans e3)
              clear e3
              have hj := Rl.joins_law HPZ.out HQZ.out (by rw [HE1.out.1, HE2.out.1]; exact HKN.out) HE33.out
              have hz := HE4.out.2.1
              rw [hj] at hz
              have n5 : ((E4 : Int) == 0) = true := by rw [← hz]; rfl
              rw [hj] at HR5
              have HR5 := HR5
              clear hj hz
              obtain ⟨xs, hxs⟩ : ∃ xs, xs = (Rl.parse s).1 := ⟨_, rfl⟩
              obtain ⟨ys, hys⟩ : ∃ ys, ys = (Rl.parse m).1 := ⟨_, rfl⟩
              have HXL : Hid (xs.length = k) := Lib.hid (by rw [hxs]; exact HE1.out.1)
              have HYL : Hid (ys.length = n) := Lib.hid (by rw [hys]; exact HE2.out.1)
              have HMY : Hid (∀ x ∈ ys, x.at_ ≤ 4000 ∧ x.whn.length ≤ 100000 ∧ ∀ g ∈ x.whn, g.length ≤ 100000 ∧ ∀ t ∈ g, t.at_ ≤ 4000) := Lib.hid (by rw [hys]; exact Rl.parse_bnd HL2.out HQZ.out)
              rw [← hxs] at HP3
              rw [← hys] at HQW
              rw [← hxs, ← hys] at HR5
              clear hxs hys
              obtain ⟨dd, hdd⟩ : ∃ d, d = s.length + 1 := ⟨_, rfl⟩
              rw [← hdd] at HR5
              have HDD : Hid (dd ≤ 100000) := Lib.hid (by have := HL.out; omega)
              have hwd : IntKind.i64.wrap ((sb.size : Int) + 1) = (dd : Int) := by rw [HSZ.out, IntWalk.i64_in _ (by have := HL.out; omega), hdd]; omega
              clear hdd
              go_upto_region 12 with fail
              obtain ⟨V, hV⟩ : ∃ V, V = w5.alloc (.cells #[.slice eo kk ep] 25) := ⟨_, rfl⟩
              rw [← hV]
              obtain ⟨B2, hB2⟩ : ∃ B, B = w5.heap.size := ⟨_, rfl⟩
              rw [← hB2]
              have HA6 : Hid (Chg [] w5 V) := Lib.hid (by rw [hV]; exact (Chg.refl _ _).alloc _)
              have HB2 : Hid (Blk V B2 [.slice eo kk ep] 25) := Lib.hid (by rw [hV, hB2]; exact Blk.new w5 _ _)
              clear hV hB2
              have HA3V : Hid (Chg [] w3 V) := Lib.hid (HA5.out.trans HA6.out (by simp))
              have HB0V : Hid (Blk V B0 [.slice bo k bp] 25) := Lib.hid (HA3V.out.blk HB0.out (by simp))
              have HB1V : Hid (Blk V B1 [.slice co n cp] 25) := Lib.hid (((HC4.out.trans HC5.out (by simp)).trans HA6.out (by simp)).blk HB1.out (by simp))
              have HPV : Hid (ListS w1.heap.size 42 9 (Ci w1.heap.size) xs (.slice bo k bp) V) := Lib.hid (HP3.out.keep (kp_i _) HA3V.out (TyB.nil _ _ _))
              have HQV : Hid (ListS w1.heap.size 42 9 (Ci w1.heap.size) ys (.slice co n cp) V) := Lib.hid (HQW.out.keep (kp_i _) HA3V.out (TyB.nil _ _ _))
              have HRV := Lib.hid (HR5.out.keep (kp_i _) HA6.out (TyB.nil _ _ _))
              have HCWV : Hid (Chg [] w V) := Lib.hid (HC13.out.trans HA3V.out (by simp))
              have HBL : Hid (w1.heap.size ≤ V.heap.size) := Lib.hid (Nat.le_trans HGE1.out HA3V.out.size)
              obtain ⟨css, hels, hflat, hrow⟩ := HPV.out.rowv
              rw [HXL.out] at hrow hflat
              have HELS := Lib.hid hels
              have HFLAT := Lib.hid hflat
              have HROW := Lib.hid hrow
              clear hels hflat hrow
              refine wp_region_held_drew (S := fun W' => Chg [] V W') (by kernel_rfl) (Chg.refl _ _).drew (fun hHeld => ?_)
              refine wpAnyH_take (i := 1) (v := ?vt1) rfl (by kernel_rfl) (by kernel_rfl) (by kernel_rfl) (fun _ _ _ h => h) (Or.inl ⟨by kernel_rfl, ?hyt1⟩) (by assumption) ?rst1
              case hyt1 => (intro w9 hSw; skip; go_simp; try with_reducible rfl)
              try simp only [Act.put, List.setIfInBounds_toArray, List.set_cons_zero, List.set_cons_succ, List.getElem_toArray, List.getElem_cons_succ, List.getElem_cons_zero]
              refine wpAnyH_take (i := 2) (v := ?vt2) rfl (by kernel_rfl) (by kernel_rfl) (by kernel_rfl) (fun _ _ _ h => h) (Or.inl ⟨by kernel_rfl, ?hyt2⟩) (by assumption) ?rst2
              case hyt2 => (intro w9 hSw; have d := cell_quiet hSw (HB0V.out.cell (i := 0) rfl) (by simp); go_simp; try with_reducible rfl)
              try simp only [Act.put, List.setIfInBounds_toArray, List.set_cons_zero, List.set_cons_succ, List.getElem_toArray, List.getElem_cons_succ, List.getElem_cons_zero]
              refine wpAnyH_take (i := 4) (v := ?vt4) rfl (by kernel_rfl) (by kernel_rfl) (by kernel_rfl) (fun _ _ _ h => h) (Or.inl ⟨by kernel_rfl, ?hyt4⟩) (by assumption) ?rst4
              case hyt4 => (intro w9 hSw; have d := cell_quiet hSw (HB1V.out.cell (i := 0) rfl) (by simp); go_simp; try with_reducible rfl)
              try simp only [Act.put, List.setIfInBounds_toArray, List.set_cons_zero, List.set_cons_succ, List.getElem_toArray, List.getElem_cons_succ, List.getElem_cons_zero]
              refine wpAnyH_take (i := 5) (v := ?vt5) rfl (by kernel_rfl) (by kernel_rfl) (by kernel_rfl) (fun _ _ _ h => h) (Or.inl ⟨by kernel_rfl, ?hyt5⟩) (by assumption) ?rst5
              case hyt5 => (intro w9 hSw; skip; go_simp; try with_reducible rfl)
              try simp only [Act.put, List.setIfInBounds_toArray, List.set_cons_zero, List.set_cons_succ, List.getElem_toArray, List.getElem_cons_succ, List.getElem_cons_zero]
              refine wpAnyH_take (i := 6) (v := ?vt6) rfl (by kernel_rfl) (by kernel_rfl) (by kernel_rfl) (fun _ _ _ h => h) (Or.inl ⟨by kernel_rfl, ?hyt6⟩) (by assumption) ?rst6
              case hyt6 => (intro w9 hSw; skip; go_simp; try with_reducible rfl)
              try simp only [Act.put, List.setIfInBounds_toArray, List.set_cons_zero, List.set_cons_succ, List.getElem_toArray, List.getElem_cons_succ, List.getElem_cons_zero]
              refine wpAnyH_take (i := 7) (v := ?vt7) rfl (by kernel_rfl) (by kernel_rfl) (by kernel_rfl) (fun _ _ _ h => h) (Or.inl ⟨by kernel_rfl, ?hyt7⟩) (by assumption) ?rst7
              case hyt7 => (intro w9 hSw; skip; go_simp; try with_reducible rfl)
              try simp only [Act.put, List.setIfInBounds_toArray, List.set_cons_zero, List.set_cons_succ, List.getElem_toArray, List.getElem_cons_succ, List.getElem_cons_zero]
              obtain ⟨Z0, hZ0⟩ : ∃ Z, Z = V.drew := ⟨_, rfl⟩
              rw [← hZ0] at hHeld ⊢
              have HSZZ0 : Hid (V.heap.size ≤ Z0.heap.size) := Lib.hid hHeld.size
              clear hZ0
              refine wpAnyH_ready (rs := [0, 12]) (by kernel_rfl) (by simp) (AllReadyH.cons rfl (fun K hK => ?_) (AllReadyH.cons rfl (fun K hK => ?_) AllReadyH.nil))
              · go_simp
                refine hK.out _ _ (hHeld.alloc _) (fun hHeld => ?_)
                clear hK K
                try simp only [Act.put, List.setIfInBounds_toArray, List.set_cons_zero, List.set_cons_succ, List.getElem_toArray, List.getElem_cons_succ, List.getElem_cons_zero]
                obtain ⟨Z1, hZ1⟩ : ∃ Z, Z = Z0.alloc (.cells #[] 42) := ⟨_, rfl⟩
                obtain ⟨b1, hb1⟩ : ∃ b, b = Z0.heap.size := ⟨_, rfl⟩
                rw [← hZ1] at hHeld ⊢
                rw [← hb1]
                have Hb1 : Hid (V.heap.size ≤ b1) := Lib.hid (by rw [hb1]; exact HSZZ0.out)
                have HO1 : Hid (Z1.ownsRow V.heap.size 42 9 (.slice (some ⟨b1, 0, none⟩) 0 0) 0 []) := Lib.hid ⟨rfl, .inr ⟨b1, 0, #[], rfl, Hb1.out, by rw [hZ1, hb1]; exact World.alloc_heap_new _ _, Nat.le_refl _, Nat.zero_le _, rfl, rfl⟩⟩
                have HSZZ1 : Hid (V.heap.size ≤ Z1.heap.size) := Lib.hid hHeld.size
                clear hZ1 hb1
                refine wpAnyH_ready (rs := [3, 12]) (by kernel_rfl) (by simp) (AllReadyH.cons rfl (fun K hK => ?_) (AllReadyH.cons rfl (fun K hK => ?_) AllReadyH.nil))
                · refine step_app_any rfl (.tmp 89) (.tmp 91) rfl V.heap.size (.slice (some ⟨b1, 0, none⟩) 0 0) 0 [] rfl HO1.out k css.flatten (.slice bo k bp) rfl (HROW.out _ hHeld) (by rw [HFLAT.out]) HELS.out.one (by omega) HSZZ1.out (fun v2 Z2 hown hgrow => ?_)
                  rw [Nat.zero_add, List.nil_append] at hown
                  have HO2 := Lib.hid hown
                  have HW2 := Lib.hid (hHeld.grown hgrow (fun q hq => .inr (own_ge HO1.out q hq)))
                  obtain ⟨vo2, vc2, rfl⟩ := owns_form hown
                  clear hown hgrow
                  refine hK.out _ _ HW2.out (fun hHeld => ?_)
                  clear hK K
                  try simp only [Act.put, List.setIfInBounds_toArray, List.set_cons_zero, List.set_cons_succ, List.getElem_toArray, List.getElem_cons_succ, List.getElem_cons_zero]
                  have HSZZ2 : Hid (V.heap.size ≤ Z2.heap.size) := Lib.hid hHeld.size
                  refine wpAnyH_ready (rs := [8, 12]) (by kernel_rfl) (by simp) (AllReadyH.cons rfl (fun K hK => ?_) (AllReadyH.cons rfl (fun K hK => ?_) AllReadyH.nil))
                  · go_simp
                    refine (moved_spec _ ys dd w1.heap.size co n cp HDD (Lib.hid (HQV.out.keep (kp_i _) hHeld (TyB.nil _ _ _))) (Lib.hid (by rw [HYL.out]; exact hn2)) HMY).mono ?_
                    rintro e Z3 ⟨mo3, mk, mc3, rfl, hml, hmc⟩
                    obtain ⟨xo, xc, hxx⟩ := hml.form
                    simp only [List.length_map, HYL.out, Value.slice.injEq] at hxx
                    have hxx2 := hxx.2.1.symm
                    subst hxx2
                    clear hxx
                    have hge := Nat.le_trans HBL.out HSZZ2.out
                    have HM3 := Lib.hid (hml.mono hge (mono_i hge))
                    have HO3 := Lib.hid (ownsRow_chg HO2.out hmc (TyB.nil _ _ _))
                    have HW3 := Lib.hid (hHeld.trans hmc (by simp))
                    clear hml hmc hge
                    refine hK.out _ _ HW3.out (fun hHeld => ?_)
                    clear hK K
                    try simp only [Act.put, List.setIfInBounds_toArray, List.set_cons_zero, List.set_cons_succ, List.getElem_toArray, List.getElem_cons_succ, List.getElem_cons_zero]
                    have HSZZ3 : Hid (V.heap.size ≤ Z3.heap.size) := Lib.hid hHeld.size
                    refine wpAnyH_take (i := 9) (v := ?vo0_3_8_9) rfl (by kernel_rfl) (by kernel_rfl) (by kernel_rfl) (fun _ _ _ h => h) (Or.inl ⟨by kernel_rfl, ?hyo0_3_8_9⟩) (by assumption) ?rso0_3_8_9
                    case hyo0_3_8_9 => (intro w9 hSw; have hf := rul0 (.slice mo3 n mc3) w9; go_simp; try with_reducible rfl)
                    try simp only [Act.put, List.setIfInBounds_toArray, List.set_cons_zero, List.set_cons_succ, List.getElem_toArray, List.getElem_cons_succ, List.getElem_cons_zero]
                    refine wpAnyH_ready (rs := [10, 12]) (by kernel_rfl) (by simp) (AllReadyH.cons rfl (fun K hK => ?_) (AllReadyH.cons rfl (fun K hK => ?_) AllReadyH.nil))
                    · obtain ⟨ds4, hels, hflat, hrow⟩ := HM3.out.rowv
                      rw [List.length_map, HYL.out] at hrow hflat
                      refine step_app_any rfl (.tmp 92) (.tmp 98) rfl V.heap.size (.slice vo2 k vc2) k css.flatten rfl HO3.out n ds4.flatten (.slice mo3 n mc3) rfl (hrow _ (Chg.refl [] _)) (by rw [hflat]) hels.one (by omega) HSZZ3.out (fun v4 Z4 hown hgrow => ?_)
                      have HO4 := Lib.hid hown
                      have HW4 := Lib.hid (hHeld.grown hgrow (fun q hq => .inr (own_ge HO3.out q hq)))
                      obtain ⟨vo4, vc4, rfl⟩ := owns_form hown
                      have HE4 := Lib.hid (hels.grown (kp_i _) hgrow HO3.out (by decide))
                      clear hels hflat hrow
                      clear hown hgrow
                      refine hK.out _ _ HW4.out (fun hHeld => ?_)
                      clear hK K
                      try simp only [Act.put, List.setIfInBounds_toArray, List.set_cons_zero, List.set_cons_succ, List.getElem_toArray, List.getElem_cons_succ, List.getElem_cons_zero]
                      have HSZZ4 : Hid (V.heap.size ≤ Z4.heap.size) := Lib.hid hHeld.size
                      refine wpAnyH_take (i := 11) (v := ?vo0_3_8_10_11) rfl (by kernel_rfl) (by kernel_rfl) (by kernel_rfl) (fun _ _ _ h => h) (Or.inl ⟨by kernel_rfl, ?hyo0_3_8_10_11⟩) (by assumption) ?rso0_3_8_10_11
                      case hyo0_3_8_10_11 => (intro w9 hSw; skip; go_simp; try with_reducible rfl)
                      try simp only [Act.put, List.setIfInBounds_toArray, List.set_cons_zero, List.set_cons_succ, List.getElem_toArray, List.getElem_cons_succ, List.getElem_cons_zero]
                      refine wpAnyH_ready (rs := [12]) (by kernel_rfl) (by simp) (AllReadyH.cons rfl (fun K hK => ?_) AllReadyH.nil)
                      go_simp
                      refine hK.out _ _ (hHeld.alloc _) (fun hHeld => ?_)
                      clear hK K
                      try simp only [Act.put, List.setIfInBounds_toArray, List.set_cons_zero, List.set_cons_succ, List.getElem_toArray, List.getElem_cons_succ, List.getElem_cons_zero]
                      obtain ⟨Z5, hZ5⟩ : ∃ Z, Z = Z4.alloc (.cells #[.slice none 0 0] 25) := ⟨_, rfl⟩
                      obtain ⟨b5, hb5⟩ : ∃ b, b = Z4.heap.size := ⟨_, rfl⟩
                      rw [← hZ5] at hHeld ⊢
                      rw [← hb5]
                      have Hb5 : Hid (V.heap.size ≤ b5) := Lib.hid (by rw [hb5]; exact HSZZ4.out)
                      have HR5 : Hid (Blk Z5 b5 [.slice none 0 0] 25) := Lib.hid (by rw [hZ5, hb5]; exact Blk.new _ [.slice none 0 0] 25)
                      have HO5 := Lib.hid (row_alloc HO4.out (.cells #[.slice none 0 0] 25))
                      rw [← hZ5] at HO5
                      have HE5 := Lib.hid (HE4.out.chg (kp_i _) ((Chg.refl [] Z4).alloc (.cells #[.slice none 0 0] 25)))
                      rw [← hZ5] at HE5
                      have HSZZ5 : Hid (V.heap.size ≤ Z5.heap.size) := Lib.hid hHeld.size
                      clear hZ5 hb5
                      refine wpAnyH_ready (rs := [13]) (by kernel_rfl) (by simp) (AllReadyH.cons rfl (fun K hK => ?_) AllReadyH.nil)
                      have d := HR5.out.cell (i := 0) rfl
                      have f := HR5.out.free 0
                      go_simp
                      refine hK.out _ _ (hHeld.setCell ⟨b5, 0, none⟩ (.slice vo4 (k + n) vc4) (.inr Hb5.out)) (fun hHeld => ?_)
                      clear hK K d f
                      try simp only [Act.put, List.setIfInBounds_toArray, List.set_cons_zero, List.set_cons_succ, List.getElem_toArray, List.getElem_cons_succ, List.getElem_cons_zero]
                      obtain ⟨Z6, hZ6⟩ : ∃ Z, Z = Z5.setCell ⟨b5, 0, none⟩ (.slice vo4 (k + n) vc4) := ⟨_, rfl⟩
                      rw [← hZ6] at hHeld ⊢
                      have HR6 : Hid (Blk Z6 b5 [(.slice vo4 (k + n) vc4)] 25) := Lib.hid (by rw [hZ6]; exact HR5.out.set 0 (.slice vo4 (k + n) vc4))
                      have HO6 := Lib.hid (row_store (u := (.slice vo4 (k + n) vc4)) HO5.out HR5.out (by decide))
                      have HE6 := Lib.hid (HE5.out.store (kp_i _) HR5.out 0 (.slice vo4 (k + n) vc4) (by decide))
                      rw [← hZ6] at HO6 HE6
                      clear hZ6
                      refine wpAnyH_done (by kernel_rfl) ?_ _
                      try simp only [Act.put, List.setIfInBounds_toArray, List.set_cons_zero, List.set_cons_succ, List.getElem_toArray, List.getElem_cons_succ, List.getElem_cons_zero]
                      have HLF : Hid (ListS w1.heap.size 42 9 (Ci w1.heap.size) (xs ++ ys.map (Rl.renI (· + dd))) (.slice vo4 (k + n) vc4) Z6) := Lib.hid (ListS.of_row ((HELS.out.chg (kp_i _) hHeld).append HE6.out) (by rw [List.flatten_append]; exact HO6.out) (by rw [List.length_append, List.length_map, HXL.out, HYL.out]) HBL.out)
                      have d1 := cell_quiet hHeld (HB2.out.cell (i := 0) rfl) (by simp)
                      have d2 := HR6.out.cell (i := 0) rfl
                      have HHELD := Lib.hid hHeld
                      clear hHeld
                      go_wp2_with fail
                      refine (same_rules _ _ _ true (Lib.hid (SimL.refl _)) _ _ _ _ (Lib.hid (HRV.out.keep (kp_i _) HHELD.out (TyB.nil _ _ _))) HLF).mono ?_
                      rintro e w9 ⟨rfl, hc9⟩
                      have HC9 := Lib.hid ((HCWV.out.trans HHELD.out (by simp)).trans hc9 (by simp))
                      clear hc9
                      go_wp2_with fail
                      go_ret
                      exact ⟨rfl, HC9.out⟩
                    · go_simp
                      refine hK.out _ _ (hHeld.alloc _) (fun hHeld => ?_)
                      clear hK K
                      try simp only [Act.put, List.setIfInBounds_toArray, List.set_cons_zero, List.set_cons_succ, List.getElem_toArray, List.getElem_cons_succ, List.getElem_cons_zero]
                      obtain ⟨Z7, hZ7⟩ : ∃ Z, Z = Z3.alloc (.cells #[.slice none 0 0] 25) := ⟨_, rfl⟩
                      obtain ⟨b7, hb7⟩ : ∃ b, b = Z3.heap.size := ⟨_, rfl⟩
                      rw [← hZ7] at hHeld ⊢
                      rw [← hb7]
                      have Hb7 : Hid (V.heap.size ≤ b7) := Lib.hid (by rw [hb7]; exact HSZZ3.out)
                      have HR7 : Hid (Blk Z7 b7 [.slice none 0 0] 25) := Lib.hid (by rw [hZ7, hb7]; exact Blk.new _ [.slice none 0 0] 25)
                      have HO7 := Lib.hid (row_alloc HO3.out (.cells #[.slice none 0 0] 25))
                      rw [← hZ7] at HO7
                      have HM7 := Lib.hid (HM3.out.keep (kp_i _) ((Chg.refl [] Z3).alloc (.cells #[.slice none 0 0] 25)) (TyB.nil _ _ _))
                      rw [← hZ7] at HM7
                      have HSZZ7 : Hid (V.heap.size ≤ Z7.heap.size) := Lib.hid hHeld.size
                      clear hZ7 hb7
                      refine wpAnyH_ready (rs := [10]) (by kernel_rfl) (by simp) (AllReadyH.cons rfl (fun K hK => ?_) AllReadyH.nil)
                      obtain ⟨ds8, hels, hflat, hrow⟩ := HM7.out.rowv
                      rw [List.length_map, HYL.out] at hrow hflat
                      refine step_app_any rfl (.tmp 92) (.tmp 98) rfl V.heap.size (.slice vo2 k vc2) k css.flatten rfl HO7.out n ds8.flatten (.slice mo3 n mc3) rfl (hrow _ (Chg.refl [] _)) (by rw [hflat]) hels.one (by omega) HSZZ7.out (fun v8 Z8 hown hgrow => ?_)
                      have HO8 := Lib.hid hown
                      have HW8 := Lib.hid (hHeld.grown hgrow (fun q hq => .inr (own_ge HO7.out q hq)))
                      obtain ⟨vo8, vc8, rfl⟩ := owns_form hown
                      have HE8 := Lib.hid (hels.grown (kp_i _) hgrow HO7.out (by decide))
                      clear hels hflat hrow
                      have HR8 := Lib.hid (grown_blk HR7.out hgrow HO7.out (by decide))
                      clear hown hgrow
                      refine hK.out _ _ HW8.out (fun hHeld => ?_)
                      clear hK K
                      try simp only [Act.put, List.setIfInBounds_toArray, List.set_cons_zero, List.set_cons_succ, List.getElem_toArray, List.getElem_cons_succ, List.getElem_cons_zero]
                      have HSZZ8 : Hid (V.heap.size ≤ Z8.heap.size) := Lib.hid hHeld.size
                      refine wpAnyH_take (i := 11) (v := ?vo0_3_8_12_10_11) rfl (by kernel_rfl) (by kernel_rfl) (by kernel_rfl) (fun _ _ _ h => h) (Or.inl ⟨by kernel_rfl, ?hyo0_3_8_12_10_11⟩) (by assumption) ?rso0_3_8_12_10_11
                      case hyo0_3_8_12_10_11 => (intro w9 hSw; skip; go_simp; try with_reducible rfl)
                      try simp only [Act.put, List.setIfInBounds_toArray, List.set_cons_zero, List.set_cons_succ, List.getElem_toArray, List.getElem_cons_succ, List.getElem_cons_zero]
                      refine wpAnyH_ready (rs := [13]) (by kernel_rfl) (by simp) (AllReadyH.cons rfl (fun K hK => ?_) AllReadyH.nil)
                      have d := HR8.out.cell (i := 0) rfl
                      have f := HR8.out.free 0
                      go_simp
                      refine hK.out _ _ (hHeld.setCell ⟨b7, 0, none⟩ (.slice vo8 (k + n) vc8) (.inr Hb7.out)) (fun hHeld => ?_)
                      clear hK K d f
                      try simp only [Act.put, List.setIfInBounds_toArray, List.set_cons_zero, List.set_cons_succ, List.getElem_toArray, List.getElem_cons_succ, List.getElem_cons_zero]
                      obtain ⟨Z9, hZ9⟩ : ∃ Z, Z = Z8.setCell ⟨b7, 0, none⟩ (.slice vo8 (k + n) vc8) := ⟨_, rfl⟩
                      rw [← hZ9] at hHeld ⊢
                      have HR9 : Hid (Blk Z9 b7 [(.slice vo8 (k + n) vc8)] 25) := Lib.hid (by rw [hZ9]; exact HR8.out.set 0 (.slice vo8 (k + n) vc8))
                      have HO9 := Lib.hid (row_store (u := (.slice vo8 (k + n) vc8)) HO8.out HR8.out (by decide))
                      have HE9 := Lib.hid (HE8.out.store (kp_i _) HR8.out 0 (.slice vo8 (k + n) vc8) (by decide))
                      rw [← hZ9] at HO9 HE9
                      clear hZ9
                      refine wpAnyH_done (by kernel_rfl) ?_ _
                      try simp only [Act.put, List.setIfInBounds_toArray, List.set_cons_zero, List.set_cons_succ, List.getElem_toArray, List.getElem_cons_succ, List.getElem_cons_zero]
                      have HLF : Hid (ListS w1.heap.size 42 9 (Ci w1.heap.size) (xs ++ ys.map (Rl.renI (· + dd))) (.slice vo8 (k + n) vc8) Z9) := Lib.hid (ListS.of_row ((HELS.out.chg (kp_i _) hHeld).append HE9.out) (by rw [List.flatten_append]; exact HO9.out) (by rw [List.length_append, List.length_map, HXL.out, HYL.out]) HBL.out)
                      have d1 := cell_quiet hHeld (HB2.out.cell (i := 0) rfl) (by simp)
                      have d2 := HR9.out.cell (i := 0) rfl
                      have HHELD := Lib.hid hHeld
                      clear hHeld
                      go_wp2_with fail
                      refine (same_rules _ _ _ true (Lib.hid (SimL.refl _)) _ _ _ _ (Lib.hid (HRV.out.keep (kp_i _) HHELD.out (TyB.nil _ _ _))) HLF).mono ?_
                      rintro e w9 ⟨rfl, hc9⟩
                      have HC9 := Lib.hid ((HCWV.out.trans HHELD.out (by simp)).trans hc9 (by simp))
                      clear hc9
                      go_wp2_with fail
                      go_ret
                      exact ⟨rfl, HC9.out⟩
                  · go_simp
                    refine hK.out _ _ (hHeld.alloc _) (fun hHeld => ?_)
                    clear hK K
                    try simp only [Act.put, List.setIfInBounds_toArray, List.set_cons_zero, List.set_cons_succ, List.getElem_toArray, List.getElem_cons_succ, List.getElem_cons_zero]
                    obtain ⟨Z10, hZ10⟩ : ∃ Z, Z = Z2.alloc (.cells #[.slice none 0 0] 25) := ⟨_, rfl⟩
                    obtain ⟨b10, hb10⟩ : ∃ b, b = Z2.heap.size := ⟨_, rfl⟩
                    rw [← hZ10] at hHeld ⊢
                    rw [← hb10]
                    have Hb10 : Hid (V.heap.size ≤ b10) := Lib.hid (by rw [hb10]; exact HSZZ2.out)
                    have HR10 : Hid (Blk Z10 b10 [.slice none 0 0] 25) := Lib.hid (by rw [hZ10, hb10]; exact Blk.new _ [.slice none 0 0] 25)
                    have HO10 := Lib.hid (row_alloc HO2.out (.cells #[.slice none 0 0] 25))
                    rw [← hZ10] at HO10
                    have HSZZ10 : Hid (V.heap.size ≤ Z10.heap.size) := Lib.hid hHeld.size
                    clear hZ10 hb10
                    refine wpAnyH_ready (rs := [8]) (by kernel_rfl) (by simp) (AllReadyH.cons rfl (fun K hK => ?_) AllReadyH.nil)
                    go_simp
                    refine (moved_spec _ ys dd w1.heap.size co n cp HDD (Lib.hid (HQV.out.keep (kp_i _) hHeld (TyB.nil _ _ _))) (Lib.hid (by rw [HYL.out]; exact hn2)) HMY).mono ?_
                    rintro e Z11 ⟨mo11, mk, mc11, rfl, hml, hmc⟩
                    obtain ⟨xo, xc, hxx⟩ := hml.form
                    simp only [List.length_map, HYL.out, Value.slice.injEq] at hxx
                    have hxx2 := hxx.2.1.symm
                    subst hxx2
                    clear hxx
                    have hge := Nat.le_trans HBL.out HSZZ10.out
                    have HM11 := Lib.hid (hml.mono hge (mono_i hge))
                    have HO11 := Lib.hid (ownsRow_chg HO10.out hmc (TyB.nil _ _ _))
                    have HR11 := Lib.hid (hmc.blk HR10.out (by simp))
                    have HW11 := Lib.hid (hHeld.trans hmc (by simp))
                    clear hml hmc hge
                    refine hK.out _ _ HW11.out (fun hHeld => ?_)
                    clear hK K
                    try simp only [Act.put, List.setIfInBounds_toArray, List.set_cons_zero, List.set_cons_succ, List.getElem_toArray, List.getElem_cons_succ, List.getElem_cons_zero]
                    have HSZZ11 : Hid (V.heap.size ≤ Z11.heap.size) := Lib.hid hHeld.size
                    refine wpAnyH_take (i := 9) (v := ?vo0_3_12_8_9) rfl (by kernel_rfl) (by kernel_rfl) (by kernel_rfl) (fun _ _ _ h => h) (Or.inl ⟨by kernel_rfl, ?hyo0_3_12_8_9⟩) (by assumption) ?rso0_3_12_8_9
                    case hyo0_3_12_8_9 => (intro w9 hSw; have hf := rul0 (.slice mo11 n mc11) w9; go_simp; try with_reducible rfl)
                    try simp only [Act.put, List.setIfInBounds_toArray, List.set_cons_zero, List.set_cons_succ, List.getElem_toArray, List.getElem_cons_succ, List.getElem_cons_zero]
                    refine wpAnyH_ready (rs := [10]) (by kernel_rfl) (by simp) (AllReadyH.cons rfl (fun K hK => ?_) AllReadyH.nil)
                    obtain ⟨ds12, hels, hflat, hrow⟩ := HM11.out.rowv
                    rw [List.length_map, HYL.out] at hrow hflat
                    refine step_app_any rfl (.tmp 92) (.tmp 98) rfl V.heap.size (.slice vo2 k vc2) k css.flatten rfl HO11.out n ds12.flatten (.slice mo11 n mc11) rfl (hrow _ (Chg.refl [] _)) (by rw [hflat]) hels.one (by omega) HSZZ11.out (fun v12 Z12 hown hgrow => ?_)
                    have HO12 := Lib.hid hown
                    have HW12 := Lib.hid (hHeld.grown hgrow (fun q hq => .inr (own_ge HO11.out q hq)))
                    obtain ⟨vo12, vc12, rfl⟩ := owns_form hown
                    have HE12 := Lib.hid (hels.grown (kp_i _) hgrow HO11.out (by decide))
                    clear hels hflat hrow
                    have HR12 := Lib.hid (grown_blk HR11.out hgrow HO11.out (by decide))
                    clear hown hgrow
                    refine hK.out _ _ HW12.out (fun hHeld => ?_)
                    clear hK K
                    try simp only [Act.put, List.setIfInBounds_toArray, List.set_cons_zero, List.set_cons_succ, List.getElem_toArray, List.getElem_cons_succ, List.getElem_cons_zero]
                    have HSZZ12 : Hid (V.heap.size ≤ Z12.heap.size) := Lib.hid hHeld.size
                    refine wpAnyH_take (i := 11) (v := ?vo0_3_12_8_10_11) rfl (by kernel_rfl) (by kernel_rfl) (by kernel_rfl) (fun _ _ _ h => h) (Or.inl ⟨by kernel_rfl, ?hyo0_3_12_8_10_11⟩) (by assumption) ?rso0_3_12_8_10_11
                    case hyo0_3_12_8_10_11 => (intro w9 hSw; skip; go_simp; try with_reducible rfl)
                    try simp only [Act.put, List.setIfInBounds_toArray, List.set_cons_zero, List.set_cons_succ, List.getElem_toArray, List.getElem_cons_succ, List.getElem_cons_zero]
                    refine wpAnyH_ready (rs := [13]) (by kernel_rfl) (by simp) (AllReadyH.cons rfl (fun K hK => ?_) AllReadyH.nil)
                    have d := HR12.out.cell (i := 0) rfl
                    have f := HR12.out.free 0
                    go_simp
                    refine hK.out _ _ (hHeld.setCell ⟨b10, 0, none⟩ (.slice vo12 (k + n) vc12) (.inr Hb10.out)) (fun hHeld => ?_)
                    clear hK K d f
                    try simp only [Act.put, List.setIfInBounds_toArray, List.set_cons_zero, List.set_cons_succ, List.getElem_toArray, List.getElem_cons_succ, List.getElem_cons_zero]
                    obtain ⟨Z13, hZ13⟩ : ∃ Z, Z = Z12.setCell ⟨b10, 0, none⟩ (.slice vo12 (k + n) vc12) := ⟨_, rfl⟩
                    rw [← hZ13] at hHeld ⊢
                    have HR13 : Hid (Blk Z13 b10 [(.slice vo12 (k + n) vc12)] 25) := Lib.hid (by rw [hZ13]; exact HR12.out.set 0 (.slice vo12 (k + n) vc12))
                    have HO13 := Lib.hid (row_store (u := (.slice vo12 (k + n) vc12)) HO12.out HR12.out (by decide))
                    have HE13 := Lib.hid (HE12.out.store (kp_i _) HR12.out 0 (.slice vo12 (k + n) vc12) (by decide))
                    rw [← hZ13] at HO13 HE13
                    clear hZ13
                    refine wpAnyH_done (by kernel_rfl) ?_ _
                    try simp only [Act.put, List.setIfInBounds_toArray, List.set_cons_zero, List.set_cons_succ, List.getElem_toArray, List.getElem_cons_succ, List.getElem_cons_zero]
                    have HLF : Hid (ListS w1.heap.size 42 9 (Ci w1.heap.size) (xs ++ ys.map (Rl.renI (· + dd))) (.slice vo12 (k + n) vc12) Z13) := Lib.hid (ListS.of_row ((HELS.out.chg (kp_i _) hHeld).append HE13.out) (by rw [List.flatten_append]; exact HO13.out) (by rw [List.length_append, List.length_map, HXL.out, HYL.out]) HBL.out)
                    have d1 := cell_quiet hHeld (HB2.out.cell (i := 0) rfl) (by simp)
                    have d2 := HR13.out.cell (i := 0) rfl
                    have HHELD := Lib.hid hHeld
                    clear hHeld
                    go_wp2_with fail
                    refine (same_rules _ _ _ true (Lib.hid (SimL.refl _)) _ _ _ _ (Lib.hid (HRV.out.keep (kp_i _) HHELD.out (TyB.nil _ _ _))) HLF).mono ?_
                    rintro e w9 ⟨rfl, hc9⟩
                    have HC9 := Lib.hid ((HCWV.out.trans HHELD.out (by simp)).trans hc9 (by simp))
                    clear hc9
                    go_wp2_with fail
                    go_ret
                    exact ⟨rfl, HC9.out⟩
                · go_simp
                  refine hK.out _ _ (hHeld.alloc _) (fun hHeld => ?_)
                  clear hK K
                  try simp only [Act.put, List.setIfInBounds_toArray, List.set_cons_zero, List.set_cons_succ, List.getElem_toArray, List.getElem_cons_succ, List.getElem_cons_zero]
                  obtain ⟨Z14, hZ14⟩ : ∃ Z, Z = Z1.alloc (.cells #[.slice none 0 0] 25) := ⟨_, rfl⟩
                  obtain ⟨b14, hb14⟩ : ∃ b, b = Z1.heap.size := ⟨_, rfl⟩
                  rw [← hZ14] at hHeld ⊢
                  rw [← hb14]
                  have Hb14 : Hid (V.heap.size ≤ b14) := Lib.hid (by rw [hb14]; exact HSZZ1.out)
                  have HR14 : Hid (Blk Z14 b14 [.slice none 0 0] 25) := Lib.hid (by rw [hZ14, hb14]; exact Blk.new _ [.slice none 0 0] 25)
                  have HO14 := Lib.hid (row_alloc HO1.out (.cells #[.slice none 0 0] 25))
                  rw [← hZ14] at HO14
                  have HSZZ14 : Hid (V.heap.size ≤ Z14.heap.size) := Lib.hid hHeld.size
                  clear hZ14 hb14
                  refine wpAnyH_ready (rs := [3]) (by kernel_rfl) (by simp) (AllReadyH.cons rfl (fun K hK => ?_) AllReadyH.nil)
                  refine step_app_any rfl (.tmp 89) (.tmp 91) rfl V.heap.size (.slice (some ⟨b1, 0, none⟩) 0 0) 0 [] rfl HO14.out k css.flatten (.slice bo k bp) rfl (HROW.out _ hHeld) (by rw [HFLAT.out]) HELS.out.one (by omega) HSZZ14.out (fun v15 Z15 hown hgrow => ?_)
                  rw [Nat.zero_add, List.nil_append] at hown
                  have HO15 := Lib.hid hown
                  have HW15 := Lib.hid (hHeld.grown hgrow (fun q hq => .inr (own_ge HO14.out q hq)))
                  obtain ⟨vo15, vc15, rfl⟩ := owns_form hown
                  have HR15 := Lib.hid (grown_blk HR14.out hgrow HO14.out (by decide))
                  clear hown hgrow
                  refine hK.out _ _ HW15.out (fun hHeld => ?_)
                  clear hK K
                  try simp only [Act.put, List.setIfInBounds_toArray, List.set_cons_zero, List.set_cons_succ, List.getElem_toArray, List.getElem_cons_succ, List.getElem_cons_zero]
                  have HSZZ15 : Hid (V.heap.size ≤ Z15.heap.size) := Lib.hid hHeld.size
                  refine wpAnyH_ready (rs := [8]) (by kernel_rfl) (by simp) (AllReadyH.cons rfl (fun K hK => ?_) AllReadyH.nil)
                  go_simp
                  refine (moved_spec _ ys dd w1.heap.size co n cp HDD (Lib.hid (HQV.out.keep (kp_i _) hHeld (TyB.nil _ _ _))) (Lib.hid (by rw [HYL.out]; exact hn2)) HMY).mono ?_
                  rintro e Z16 ⟨mo16, mk, mc16, rfl, hml, hmc⟩
                  obtain ⟨xo, xc, hxx⟩ := hml.form
                  simp only [List.length_map, HYL.out, Value.slice.injEq] at hxx
                  have hxx2 := hxx.2.1.symm
                  subst hxx2
                  clear hxx
                  have hge := Nat.le_trans HBL.out HSZZ15.out
                  have HM16 := Lib.hid (hml.mono hge (mono_i hge))
                  have HO16 := Lib.hid (ownsRow_chg HO15.out hmc (TyB.nil _ _ _))
                  have HR16 := Lib.hid (hmc.blk HR15.out (by simp))
                  have HW16 := Lib.hid (hHeld.trans hmc (by simp))
                  clear hml hmc hge
                  refine hK.out _ _ HW16.out (fun hHeld => ?_)
                  clear hK K
                  try simp only [Act.put, List.setIfInBounds_toArray, List.set_cons_zero, List.set_cons_succ, List.getElem_toArray, List.getElem_cons_succ, List.getElem_cons_zero]
                  have HSZZ16 : Hid (V.heap.size ≤ Z16.heap.size) := Lib.hid hHeld.size
                  refine wpAnyH_take (i := 9) (v := ?vo0_12_3_8_9) rfl (by kernel_rfl) (by kernel_rfl) (by kernel_rfl) (fun _ _ _ h => h) (Or.inl ⟨by kernel_rfl, ?hyo0_12_3_8_9⟩) (by assumption) ?rso0_12_3_8_9
                  case hyo0_12_3_8_9 => (intro w9 hSw; have hf := rul0 (.slice mo16 n mc16) w9; go_simp; try with_reducible rfl)
                  try simp only [Act.put, List.setIfInBounds_toArray, List.set_cons_zero, List.set_cons_succ, List.getElem_toArray, List.getElem_cons_succ, List.getElem_cons_zero]
                  refine wpAnyH_ready (rs := [10]) (by kernel_rfl) (by simp) (AllReadyH.cons rfl (fun K hK => ?_) AllReadyH.nil)
                  obtain ⟨ds17, hels, hflat, hrow⟩ := HM16.out.rowv
                  rw [List.length_map, HYL.out] at hrow hflat
                  refine step_app_any rfl (.tmp 92) (.tmp 98) rfl V.heap.size (.slice vo15 k vc15) k css.flatten rfl HO16.out n ds17.flatten (.slice mo16 n mc16) rfl (hrow _ (Chg.refl [] _)) (by rw [hflat]) hels.one (by omega) HSZZ16.out (fun v17 Z17 hown hgrow => ?_)
                  have HO17 := Lib.hid hown
                  have HW17 := Lib.hid (hHeld.grown hgrow (fun q hq => .inr (own_ge HO16.out q hq)))
                  obtain ⟨vo17, vc17, rfl⟩ := owns_form hown
                  have HE17 := Lib.hid (hels.grown (kp_i _) hgrow HO16.out (by decide))
                  clear hels hflat hrow
                  have HR17 := Lib.hid (grown_blk HR16.out hgrow HO16.out (by decide))
                  clear hown hgrow
                  refine hK.out _ _ HW17.out (fun hHeld => ?_)
                  clear hK K
                  try simp only [Act.put, List.setIfInBounds_toArray, List.set_cons_zero, List.set_cons_succ, List.getElem_toArray, List.getElem_cons_succ, List.getElem_cons_zero]
                  have HSZZ17 : Hid (V.heap.size ≤ Z17.heap.size) := Lib.hid hHeld.size
                  refine wpAnyH_take (i := 11) (v := ?vo0_12_3_8_10_11) rfl (by kernel_rfl) (by kernel_rfl) (by kernel_rfl) (fun _ _ _ h => h) (Or.inl ⟨by kernel_rfl, ?hyo0_12_3_8_10_11⟩) (by assumption) ?rso0_12_3_8_10_11
                  case hyo0_12_3_8_10_11 => (intro w9 hSw; skip; go_simp; try with_reducible rfl)
                  try simp only [Act.put, List.setIfInBounds_toArray, List.set_cons_zero, List.set_cons_succ, List.getElem_toArray, List.getElem_cons_succ, List.getElem_cons_zero]
                  refine wpAnyH_ready (rs := [13]) (by kernel_rfl) (by simp) (AllReadyH.cons rfl (fun K hK => ?_) AllReadyH.nil)
                  have d := HR17.out.cell (i := 0) rfl
                  have f := HR17.out.free 0
                  go_simp
                  refine hK.out _ _ (hHeld.setCell ⟨b14, 0, none⟩ (.slice vo17 (k + n) vc17) (.inr Hb14.out)) (fun hHeld => ?_)
                  clear hK K d f
                  try simp only [Act.put, List.setIfInBounds_toArray, List.set_cons_zero, List.set_cons_succ, List.getElem_toArray, List.getElem_cons_succ, List.getElem_cons_zero]
                  obtain ⟨Z18, hZ18⟩ : ∃ Z, Z = Z17.setCell ⟨b14, 0, none⟩ (.slice vo17 (k + n) vc17) := ⟨_, rfl⟩
                  rw [← hZ18] at hHeld ⊢
                  have HR18 : Hid (Blk Z18 b14 [(.slice vo17 (k + n) vc17)] 25) := Lib.hid (by rw [hZ18]; exact HR17.out.set 0 (.slice vo17 (k + n) vc17))
                  have HO18 := Lib.hid (row_store (u := (.slice vo17 (k + n) vc17)) HO17.out HR17.out (by decide))
                  have HE18 := Lib.hid (HE17.out.store (kp_i _) HR17.out 0 (.slice vo17 (k + n) vc17) (by decide))
                  rw [← hZ18] at HO18 HE18
                  clear hZ18
                  refine wpAnyH_done (by kernel_rfl) ?_ _
                  try simp only [Act.put, List.setIfInBounds_toArray, List.set_cons_zero, List.set_cons_succ, List.getElem_toArray, List.getElem_cons_succ, List.getElem_cons_zero]
                  have HLF : Hid (ListS w1.heap.size 42 9 (Ci w1.heap.size) (xs ++ ys.map (Rl.renI (· + dd))) (.slice vo17 (k + n) vc17) Z18) := Lib.hid (ListS.of_row ((HELS.out.chg (kp_i _) hHeld).append HE18.out) (by rw [List.flatten_append]; exact HO18.out) (by rw [List.length_append, List.length_map, HXL.out, HYL.out]) HBL.out)
                  have d1 := cell_quiet hHeld (HB2.out.cell (i := 0) rfl) (by simp)
                  have d2 := HR18.out.cell (i := 0) rfl
                  have HHELD := Lib.hid hHeld
                  clear hHeld
                  go_wp2_with fail
                  refine (same_rules _ _ _ true (Lib.hid (SimL.refl _)) _ _ _ _ (Lib.hid (HRV.out.keep (kp_i _) HHELD.out (TyB.nil _ _ _))) HLF).mono ?_
                  rintro e w9 ⟨rfl, hc9⟩
                  have HC9 := Lib.hid ((HCWV.out.trans HHELD.out (by simp)).trans hc9 (by simp))
                  clear hc9
                  go_wp2_with fail
                  go_ret
                  exact ⟨rfl, HC9.out⟩
              · go_simp
                refine hK.out _ _ (hHeld.alloc _) (fun hHeld => ?_)
                clear hK K
                try simp only [Act.put, List.setIfInBounds_toArray, List.set_cons_zero, List.set_cons_succ, List.getElem_toArray, List.getElem_cons_succ, List.getElem_cons_zero]
                obtain ⟨Z19, hZ19⟩ : ∃ Z, Z = Z0.alloc (.cells #[.slice none 0 0] 25) := ⟨_, rfl⟩
                obtain ⟨b19, hb19⟩ : ∃ b, b = Z0.heap.size := ⟨_, rfl⟩
                rw [← hZ19] at hHeld ⊢
                rw [← hb19]
                have Hb19 : Hid (V.heap.size ≤ b19) := Lib.hid (by rw [hb19]; exact HSZZ0.out)
                have HR19 : Hid (Blk Z19 b19 [.slice none 0 0] 25) := Lib.hid (by rw [hZ19, hb19]; exact Blk.new _ [.slice none 0 0] 25)
                have HSZZ19 : Hid (V.heap.size ≤ Z19.heap.size) := Lib.hid hHeld.size
                clear hZ19 hb19
                refine wpAnyH_ready (rs := [0]) (by kernel_rfl) (by simp) (AllReadyH.cons rfl (fun K hK => ?_) AllReadyH.nil)
                go_simp
                refine hK.out _ _ (hHeld.alloc _) (fun hHeld => ?_)
                clear hK K
                try simp only [Act.put, List.setIfInBounds_toArray, List.set_cons_zero, List.set_cons_succ, List.getElem_toArray, List.getElem_cons_succ, List.getElem_cons_zero]
                obtain ⟨Z20, hZ20⟩ : ∃ Z, Z = Z19.alloc (.cells #[] 42) := ⟨_, rfl⟩
                obtain ⟨b20, hb20⟩ : ∃ b, b = Z19.heap.size := ⟨_, rfl⟩
                rw [← hZ20] at hHeld ⊢
                rw [← hb20]
                have Hb20 : Hid (V.heap.size ≤ b20) := Lib.hid (by rw [hb20]; exact HSZZ19.out)
                have HO20 : Hid (Z20.ownsRow V.heap.size 42 9 (.slice (some ⟨b20, 0, none⟩) 0 0) 0 []) := Lib.hid ⟨rfl, .inr ⟨b20, 0, #[], rfl, Hb20.out, by rw [hZ20, hb20]; exact World.alloc_heap_new _ _, Nat.le_refl _, Nat.zero_le _, rfl, rfl⟩⟩
                have HR20 := Lib.hid (HR19.out.alloc ((.cells #[] 42) : Obj))
                rw [← hZ20] at HR20
                have HSZZ20 : Hid (V.heap.size ≤ Z20.heap.size) := Lib.hid hHeld.size
                clear hZ20 hb20
                refine wpAnyH_ready (rs := [3]) (by kernel_rfl) (by simp) (AllReadyH.cons rfl (fun K hK => ?_) AllReadyH.nil)
                refine step_app_any rfl (.tmp 89) (.tmp 91) rfl V.heap.size (.slice (some ⟨b20, 0, none⟩) 0 0) 0 [] rfl HO20.out k css.flatten (.slice bo k bp) rfl (HROW.out _ hHeld) (by rw [HFLAT.out]) HELS.out.one (by omega) HSZZ20.out (fun v21 Z21 hown hgrow => ?_)
                rw [Nat.zero_add, List.nil_append] at hown
                have HO21 := Lib.hid hown
                have HW21 := Lib.hid (hHeld.grown hgrow (fun q hq => .inr (own_ge HO20.out q hq)))
                obtain ⟨vo21, vc21, rfl⟩ := owns_form hown
                have HR21 := Lib.hid (grown_blk HR20.out hgrow HO20.out (by decide))
                clear hown hgrow
                refine hK.out _ _ HW21.out (fun hHeld => ?_)
                clear hK K
                try simp only [Act.put, List.setIfInBounds_toArray, List.set_cons_zero, List.set_cons_succ, List.getElem_toArray, List.getElem_cons_succ, List.getElem_cons_zero]
                have HSZZ21 : Hid (V.heap.size ≤ Z21.heap.size) := Lib.hid hHeld.size
                refine wpAnyH_ready (rs := [8]) (by kernel_rfl) (by simp) (AllReadyH.cons rfl (fun K hK => ?_) AllReadyH.nil)
                go_simp
                refine (moved_spec _ ys dd w1.heap.size co n cp HDD (Lib.hid (HQV.out.keep (kp_i _) hHeld (TyB.nil _ _ _))) (Lib.hid (by rw [HYL.out]; exact hn2)) HMY).mono ?_
                rintro e Z22 ⟨mo22, mk, mc22, rfl, hml, hmc⟩
                obtain ⟨xo, xc, hxx⟩ := hml.form
                simp only [List.length_map, HYL.out, Value.slice.injEq] at hxx
                have hxx2 := hxx.2.1.symm
                subst hxx2
                clear hxx
                have hge := Nat.le_trans HBL.out HSZZ21.out
                have HM22 := Lib.hid (hml.mono hge (mono_i hge))
                have HO22 := Lib.hid (ownsRow_chg HO21.out hmc (TyB.nil _ _ _))
                have HR22 := Lib.hid (hmc.blk HR21.out (by simp))
                have HW22 := Lib.hid (hHeld.trans hmc (by simp))
                clear hml hmc hge
                refine hK.out _ _ HW22.out (fun hHeld => ?_)
                clear hK K
                try simp only [Act.put, List.setIfInBounds_toArray, List.set_cons_zero, List.set_cons_succ, List.getElem_toArray, List.getElem_cons_succ, List.getElem_cons_zero]
                have HSZZ22 : Hid (V.heap.size ≤ Z22.heap.size) := Lib.hid hHeld.size
                refine wpAnyH_take (i := 9) (v := ?vo12_0_3_8_9) rfl (by kernel_rfl) (by kernel_rfl) (by kernel_rfl) (fun _ _ _ h => h) (Or.inl ⟨by kernel_rfl, ?hyo12_0_3_8_9⟩) (by assumption) ?rso12_0_3_8_9
                case hyo12_0_3_8_9 => (intro w9 hSw; have hf := rul0 (.slice mo22 n mc22) w9; go_simp; try with_reducible rfl)
                try simp only [Act.put, List.setIfInBounds_toArray, List.set_cons_zero, List.set_cons_succ, List.getElem_toArray, List.getElem_cons_succ, List.getElem_cons_zero]
                refine wpAnyH_ready (rs := [10]) (by kernel_rfl) (by simp) (AllReadyH.cons rfl (fun K hK => ?_) AllReadyH.nil)
                obtain ⟨ds23, hels, hflat, hrow⟩ := HM22.out.rowv
                rw [List.length_map, HYL.out] at hrow hflat
                refine step_app_any rfl (.tmp 92) (.tmp 98) rfl V.heap.size (.slice vo21 k vc21) k css.flatten rfl HO22.out n ds23.flatten (.slice mo22 n mc22) rfl (hrow _ (Chg.refl [] _)) (by rw [hflat]) hels.one (by omega) HSZZ22.out (fun v23 Z23 hown hgrow => ?_)
                have HO23 := Lib.hid hown
                have HW23 := Lib.hid (hHeld.grown hgrow (fun q hq => .inr (own_ge HO22.out q hq)))
                obtain ⟨vo23, vc23, rfl⟩ := owns_form hown
                have HE23 := Lib.hid (hels.grown (kp_i _) hgrow HO22.out (by decide))
                clear hels hflat hrow
                have HR23 := Lib.hid (grown_blk HR22.out hgrow HO22.out (by decide))
                clear hown hgrow
                refine hK.out _ _ HW23.out (fun hHeld => ?_)
                clear hK K
                try simp only [Act.put, List.setIfInBounds_toArray, List.set_cons_zero, List.set_cons_succ, List.getElem_toArray, List.getElem_cons_succ, List.getElem_cons_zero]
                have HSZZ23 : Hid (V.heap.size ≤ Z23.heap.size) := Lib.hid hHeld.size
                refine wpAnyH_take (i := 11) (v := ?vo12_0_3_8_10_11) rfl (by kernel_rfl) (by kernel_rfl) (by kernel_rfl) (fun _ _ _ h => h) (Or.inl ⟨by kernel_rfl, ?hyo12_0_3_8_10_11⟩) (by assumption) ?rso12_0_3_8_10_11
                case hyo12_0_3_8_10_11 => (intro w9 hSw; skip; go_simp; try with_reducible rfl)
                try simp only [Act.put, List.setIfInBounds_toArray, List.set_cons_zero, List.set_cons_succ, List.getElem_toArray, List.getElem_cons_succ, List.getElem_cons_zero]
                refine wpAnyH_ready (rs := [13]) (by kernel_rfl) (by simp) (AllReadyH.cons rfl (fun K hK => ?_) AllReadyH.nil)
                have d := HR23.out.cell (i := 0) rfl
                have f := HR23.out.free 0
                go_simp
                refine hK.out _ _ (hHeld.setCell ⟨b19, 0, none⟩ (.slice vo23 (k + n) vc23) (.inr Hb19.out)) (fun hHeld => ?_)
                clear hK K d f
                try simp only [Act.put, List.setIfInBounds_toArray, List.set_cons_zero, List.set_cons_succ, List.getElem_toArray, List.getElem_cons_succ, List.getElem_cons_zero]
                obtain ⟨Z24, hZ24⟩ : ∃ Z, Z = Z23.setCell ⟨b19, 0, none⟩ (.slice vo23 (k + n) vc23) := ⟨_, rfl⟩
                rw [← hZ24] at hHeld ⊢
                have HR24 : Hid (Blk Z24 b19 [(.slice vo23 (k + n) vc23)] 25) := Lib.hid (by rw [hZ24]; exact HR23.out.set 0 (.slice vo23 (k + n) vc23))
                have HO24 := Lib.hid (row_store (u := (.slice vo23 (k + n) vc23)) HO23.out HR23.out (by decide))
                have HE24 := Lib.hid (HE23.out.store (kp_i _) HR23.out 0 (.slice vo23 (k + n) vc23) (by decide))
                rw [← hZ24] at HO24 HE24
                clear hZ24
                refine wpAnyH_done (by kernel_rfl) ?_ _
                try simp only [Act.put, List.setIfInBounds_toArray, List.set_cons_zero, List.set_cons_succ, List.getElem_toArray, List.getElem_cons_succ, List.getElem_cons_zero]
                have HLF : Hid (ListS w1.heap.size 42 9 (Ci w1.heap.size) (xs ++ ys.map (Rl.renI (· + dd))) (.slice vo23 (k + n) vc23) Z24) := Lib.hid (ListS.of_row ((HELS.out.chg (kp_i _) hHeld).append HE24.out) (by rw [List.flatten_append]; exact HO24.out) (by rw [List.length_append, List.length_map, HXL.out, HYL.out]) HBL.out)
                have d1 := cell_quiet hHeld (HB2.out.cell (i := 0) rfl) (by simp)
                have d2 := HR24.out.cell (i := 0) rfl
                have HHELD := Lib.hid hHeld
                clear hHeld
                go_wp2_with fail
                refine (same_rules _ _ _ true (Lib.hid (SimL.refl _)) _ _ _ _ (Lib.hid (HRV.out.keep (kp_i _) HHELD.out (TyB.nil _ _ _))) HLF).mono ?_
                rintro e w9 ⟨rfl, hc9⟩
                have HC9 := Lib.hid ((HCWV.out.trans HHELD.out (by simp)).trans hc9 (by simp))
                clear hc9
                go_wp2_with fail
                go_ret
                exact ⟨rfl, HC9.out⟩
            · have n4 : ((E3 : Int) != 0) = true := bne_iff_ne.2 (by omega)
              have hnz : (Lx.lex (s ++ 10 :: m)).2.1 ≠ 0 := by rw [HE3.out.2.1]; exact e3
              have hpe : (Rl.parse (s ++ 10 :: m)).2.1 = (Lx.lex (s ++ 10 :: m)).2.1 := by
                unfold Rl.parse
                rw [if_pos hnz]
              have m1 : ((E4 : Int) == (E3 : Int)) = true := by
                rw [HE4.out.2.1, HE3.out.2.1] at hpe
                rw [hpe]
                exact beq_self_eq_true _
              have m2 : ((j2 : Int) == 0) = true := by
                have h := HE3.out.1
                rw [Lx.lex_nonzero hnz] at h
                rw [← h]
                rfl
              clear e3 hnz hpe
              go_wp2_with fail
              go_ret
              exact ⟨rfl, (HC13.out.trans HA5.out (by simp)).alloc _⟩
          · have n3 : (200 : Int) < (k : Int) + (n : Int) := by omega
            go_wp2_with fail
            go_ret
            exact ⟨rfl, HC13.out.alloc _⟩
        · have n2 : ((E2 : Int) != 0) = true := bne_iff_ne.2 (by omega)
          clear e1 e2
          go_wp2_with fail
          go_ret
          exact ⟨rfl, HC13.out.alloc _⟩
      · have n1 : ((E1 : Int) != 0) = true := bne_iff_ne.2 (by omega)
        clear e1
        go_wp2_with fail
        go_ret
        exact ⟨rfl, HC13.out.alloc _⟩
    · have q2 : (4000 : Int) < (mb.size : Int) := by rw [HMZ.out]; omega
      go_wp2_with fail
      go_ret
      exact ⟨rfl, HC1.out⟩
  · have q1 : (4000 : Int) < (sb.size : Int) := by rw [HSZ.out]; omega
    go_wp2_with fail
    go_ret
    exact ⟨rfl, HC1.out⟩
end Go.Proofs.YtmfjebpefneboaaDoor
