/-
  Plan, the law PlanOffsets: the walk.
-/
import Derived.Test.YtocadlcglgpdcaaDoorPnY
namespace Go.Proofs.YtocadlcglgpdcaaDoor
set_option linter.unusedVariables false
set_option linter.unusedSimpArgs false
open Go Go.RowKit Go.Shelf
open Lx (Tk)
attribute [local go_sem ↓] Go.wp_at_zero Go.wp_at_succ
theorem drop_cons {α : Type} {l : List α} {i : Nat} {a : α} (h : l[i]? = some a) : l.drop i = a :: l.drop (i + 1) := by
  obtain ⟨hi, h⟩ := List.getElem?_eq_some_iff.1 h
  rw [← h]
  exact List.drop_eq_getElem_cons hi
theorem ListS.len_le' {α : Type} {w : World} {B : Nat} {E : TypeId} {size : Nat} {C : α → List Value → World → Prop} {l : List α} {ao : Option Addr} {n c : Nat} (h : ListS B E size C l (.slice ao n c) w) : n = l.length := by
  obtain ⟨ao', cap, e⟩ := h.form
  cases e
  rfl
def intN : Value → Nat
  | .int _ n => n.toNat
  | _ => 0
theorem parse_hl {w : World} {s : Bytes} {sb : ByteArray} (hs : s.length ≤ 1000000) (HS : Hid (sb = ⟨s.toArray⟩)) {R : Ending → World → Prop}
    (h : ∀ (h : Pn.Hl) (er : Nat) (at_ : Int) (ao : Option Addr) (n cap : Nat) (w' : World), Hid (Pn.parse s = (h, er, at_)) → Hid (n = h.levels.length) → Hid (ListS w.heap.size 47 8 (Clv w.heap.size) h.levels (.slice ao n cap) w') → Hid (Chg [] w w') →
      R (.returned (.tuple #[.agg #[.string ⟨h.name.toArray⟩, .int .i64 (h.sx : Nat), .int .i64 (h.sy : Nat), .slice ao n cap], .int .i64 (er : Nat), .int .i64 at_])) w') :
    Calls Tryd.prog 10 #[.string sb] w R := by
  rw [HS.out]
  refine (parse_spec w s hs).mono ?_
  intro e w' hp
  obtain ⟨ao, cap, rfl, hl, hc⟩ := hall_form hp
  exact h _ _ _ ao _ cap w' (Lib.hid rfl) (Lib.hid rfl) (Lib.hid hl) (Lib.hid hc)
set_option maxHeartbeats 4000000 in
set_option maxRecDepth 100000 in
theorem planOffsets_walk (w : World) (s : Bytes) (hs0 : s.length ≤ 9223372036854775807) :
    Calls Tryd.prog 6 #[.string ⟨s.toArray⟩] w fun e w' => e = .returned (.bool true) ∧ Chg [] w w' := by
  obtain ⟨sb, hsb⟩ : ∃ sb : ByteArray, sb = ⟨s.toArray⟩ := ⟨_, rfl⟩
  rw [← hsb]
  have HSB := Lib.hid hsb
  have hsz : (sb.size : Int) = (s.length : Int) := by rw [hsb]; show ((s.toArray.size : Nat) : Int) = _; simp
  clear hsb
  go_enter Tryd.func6, Tryd.ntmps6
  go_wp2_with fail
  refine (head_spec06 _).mono ?_
  rintro e w1 ⟨rfl, hc1⟩
  have HC1 := Lib.hid hc1
  clear hc1
  by_cases hl : s.length ≤ 8000
  · have q1 : ¬ (8000 : Int) < (sb.size : Int) := by rw [hsz]; omega
    have HL := Lib.hid hl
    clear hl hs0 hsz
    go_wp2_with fail
    refine parse_hl (by have := HL.out; omega) HSB (fun h er at_ ao n cap w2 HPA HNL HL2 HC2 => ?_)
    clear q1
    go_upto_region 5 with fail
    obtain ⟨W, hW⟩ : ∃ W, W = w2.alloc (.cells #[.string ⟨h.name.toArray⟩, .int .i64 (h.sx : Nat), .int .i64 (h.sy : Nat), .slice ao n cap] 27) := ⟨_, rfl⟩
    rw [← hW]
    obtain ⟨H, hH⟩ : ∃ H, H = w2.heap.size := ⟨_, rfl⟩
    rw [← hH]
    have HHB : Hid (Blk W H [.string ⟨h.name.toArray⟩, .int .i64 (h.sx : Nat), .int .i64 (h.sy : Nat), .slice ao n cap] 27) := Lib.hid (by rw [hW, hH]; exact Blk.new w2 _ _)
    have HLW : Hid (ListS w1.heap.size 47 8 (Clv w1.heap.size) h.levels (.slice ao n cap) W) := Lib.hid (HL2.out.keep (kp_lv _) (by rw [hW]; exact (Chg.refl [] w2).alloc _) (TyB.nil _ _ _))
    have HCW : Hid (Chg [] w W) := Lib.hid ((HC1.out.trans HC2.out (by simp)).trans (by rw [hW]; exact (Chg.refl [] w2).alloc _) (by simp))
    have v3 := HHB.out.cell (i := 3) rfl
    clear hW hH
    by_cases he : er = 0
    · have n0 : ((er : Int) != 0) = false := by subst he; rfl
      obtain ⟨M, hM⟩ := Pn.offsets_law (s := s) (by rw [HPA.out]; exact he)
      rw [HPA.out] at hM
      have HKL := Lib.hid hM
      clear hM he
      go_wp2_with fail
      clear v3
      go_loopw [7, 8, 9, 10, 11, 12, 13, 14, 15, 16] (fun la i _ _ _ _ _ _ _ _ wr => ∃ (q j : Nat), la = .int .i64 (q : Int) ∧ i = .int .i64 (j : Int) ∧ j ≤ n ∧ Hid (Chg [] W wr) ∧ Hid (Pn.chkL s q (h.levels.drop j) M)) (fun _ i _ _ _ _ _ _ _ _ _ => n - (intN i))
      case atStart => exact ⟨0, 0, rfl, rfl, Nat.zero_le _, Lib.hid (Chg.refl _ _), HKL⟩
      case round =>
        obtain ⟨q, j, rfl, rfl, hj, HCR, HKJ⟩ := hrel
        have v3 := (HCR.out.blk HHB.out (by simp)).cell (i := 3) rfl
        by_cases hlt : j < n
        · obtain ⟨x, hx⟩ : ∃ x, h.levels[j]? = some x := ⟨h.levels[j]'(by rw [← HNL.out]; exact hlt), by simp⟩
          have hk := HKJ.out
          rw [drop_cons hx] at hk
          obtain ⟨hst, K1, K2, hB, hA, hLr⟩ := hk
          have HST := Lib.hid hst
          have HKB := Lib.hid hB
          have HKA := Lib.hid hA
          have HKR := Lib.hid hLr
          obtain ⟨g, cap', a1, c1, a2, c2, a3, c3, a4, c4, a5, c5, e1, e2, l1, l2, -, -, -, m0, m1, m2, m3, m4, m5, m6, m7⟩ := lev_get (HLW.out.keep (kp_lv _) HCR.out (TyB.nil _ _ _)) hx
          rw [← HNL.out] at e1 e2
          simp only [Value.slice.injEq, true_and] at e1
          obtain ⟨rfl, rfl⟩ := e1
          obtain ⟨at7, hat⟩ : ∃ a, x.at_ = a := ⟨_, rfl⟩
          obtain ⟨nb, hnb⟩ : ∃ a, x.blocks.length = a := ⟨_, rfl⟩
          obtain ⟨na, hna⟩ : ∃ a, x.areas.length = a := ⟨_, rfl⟩
          rw [hnb] at m2 l1
          rw [hna] at m3 l2
          rw [hat] at m7
          rw [hat] at HST HKB HKA
          have HNB := Lib.hid hnb
          have HNA := Lib.hid hna
          have HLB := Lib.hid l1
          have HLA := Lib.hid l2
          have q0 : (0 : Int) ≤ (j : Int) := by omega
          have q1 : (j : Int) < (n : Int) := by omega
          have q2 : (j : Int) ≤ (cap : Int) := by omega
          have qj : ((j : Int)).toNat = j := by omega
          clear hx hst hB hA hLr hnb hna hat l1 l2 e2
          go_upto_region 12 with fail
          obtain ⟨LC, hLC⟩ : ∃ LC : List Value, LC = [.string ⟨x.name.toArray⟩, .int .i64 (x.height : Nat), .slice a1 nb c1, .slice a2 na c2, .slice a3 x.aisles.length c3, .slice a4 x.pillars.length c4, .slice a5 x.doors.length c5, .int .i64 (at7 : Nat)] := ⟨_, rfl⟩
          obtain ⟨V, hV⟩ : ∃ V, V = wr.alloc (.cells #[.string ⟨x.name.toArray⟩, .int .i64 (x.height : Nat), .slice a1 nb c1, .slice a2 na c2, .slice a3 x.aisles.length c3, .slice a4 x.pillars.length c4, .slice a5 x.doors.length c5, .int .i64 (at7 : Nat)] 47) := ⟨_, rfl⟩
          rw [← hV]
          obtain ⟨X, hX⟩ : ∃ X, X = wr.heap.size := ⟨_, rfl⟩
          rw [← hX]
          have HXB : Hid (Blk V X LC 47) := Lib.hid (by rw [hV, hX, hLC]; exact Blk.new wr _ _)
          have hcv : Chg [] wr V := by rw [hV]; exact (Chg.refl [] wr).alloc _
          have HCV : Hid (Chg [] W V) := Lib.hid (HCR.out.trans hcv (by simp))
          have HLBV := Lib.hid (HLB.out.keep (kp_bk _) hcv (TyB.nil _ _ _))
          have HLAV := Lib.hid (HLA.out.keep (kp_ar _) hcv (TyB.nil _ _ _))
          have x7 := HXB.out.cell (i := 7) (v := .int .i64 (at7 : Nat)) (by rw [hLC]; rfl)
          have HX2 : Hid (∀ W', Chg [] V W' → W'.cell? ⟨X, 2, none⟩ = some (.slice a1 nb c1)) := Lib.hid (fun W' hc => (hc.blk HXB.out (by simp)).cell (i := 2) (by rw [hLC]; rfl))
          have HX3 : Hid (∀ W', Chg [] V W' → W'.cell? ⟨X, 3, none⟩ = some (.slice a2 na c2)) := Lib.hid (fun W' hc => (hc.blk HXB.out (by simp)).cell (i := 3) (by rw [hLC]; rfl))
          clear hV hX hLC hcv m0 m1 m2 m3 m4 m5 m6 m7 v3
          go_wp2_with fail
          refine stands_r (x := Pn.wLevel) HSB (by have := HL.out; omega) (by decide) HST ?_
          have hat8 : at7 ≤ 1000000 := by have h1 := HST.out.2.1; have h2 := HL.out; omega
          have hw1 : IntKind.i64.wrap ((at7 : Int) + 1) = ((at7 + 1 : Nat) : Int) := by rw [IntWalk.i64_in _ (by omega)]; omega
          go_upto_region 14 with fail
          go_quiet (fail)
          obtain ⟨V2, hV2⟩ : ∃ V2, V2 = V.drewN nq := ⟨_, rfl⟩
          rw [← hV2]
          have HC2V : Hid (Chg [] V V2) := Lib.hid (by rw [hV2]; exact chg_drewN _ _)
          clear hV2 x7 hw1
          go_wp2_with fail
          go_loopw [10, 12, 13, 14, 15] (fun la i _ _ _ wr2 => ∃ (q7 y : Nat), la = .int .i64 (q7 : Int) ∧ i = .int .i64 (y : Int) ∧ y ≤ nb ∧ Hid (Chg [] V wr2) ∧ Hid (Pn.chkB s q7 (x.blocks.drop y) K1)) (fun _ i _ _ _ _ => nb - (intN i))
          case atStart => exact ⟨at7 + 1, 0, vintP (by omega), rfl, Nat.zero_le _, HC2V, HKB⟩
          case round =>
            obtain ⟨q7, y, rfl, rfl, hy, HCR2, HKJ2⟩ := hrel
            have x2 := HX2.out _ HCR2.out
            by_cases hlt2 : y < nb
            · obtain ⟨bk, hbk⟩ : ∃ bk, x.blocks[y]? = some bk := ⟨x.blocks[y]'(by rw [HNB.out]; exact hlt2), by simp⟩
              have hk := HKJ2.out
              rw [drop_cons hbk] at hk
              obtain ⟨hst, K3, hR, hBr⟩ := hk
              have HST2 := Lib.hid hst
              have HKR2 := Lib.hid hR
              have HKB2 := Lib.hid hBr
              obtain ⟨g2, cap2, a6, c6, e1, e2, l1, b0, b1, b2⟩ := blk_get (HLBV.out.keep (kp_bk _) HCR2.out (TyB.nil _ _ _)) hbk
              rw [HNB.out] at e1 e2
              simp only [Value.slice.injEq, true_and] at e1
              obtain ⟨rfl, rfl⟩ := e1
              obtain ⟨at8, hat⟩ : ∃ a, bk.at_ = a := ⟨_, rfl⟩
              obtain ⟨nr, hnr⟩ : ∃ a, bk.rows.length = a := ⟨_, rfl⟩
              rw [hnr] at b1 l1
              rw [hat] at b2
              rw [hat] at HST2 HKR2
              have HNR := Lib.hid hnr
              have HLR := Lib.hid l1
              have q0 : (0 : Int) ≤ (y : Int) := by omega
              have q1 : (y : Int) < (nb : Int) := by omega
              have q2 : (y : Int) ≤ (c1 : Int) := by omega
              have qj : ((y : Int)).toNat = y := by omega
              clear hbk hst hR hBr hnr hat l1 e2
              go_upto_region 19 with fail
              obtain ⟨U, hU⟩ : ∃ U, U = wr.alloc (.cells #[.string ⟨bk.name.toArray⟩, .slice a6 nr c6, .int .i64 (at8 : Nat)] 51) := ⟨_, rfl⟩
              rw [← hU]
              obtain ⟨Y, hY⟩ : ∃ Y, Y = wr.heap.size := ⟨_, rfl⟩
              rw [← hY]
              have HYB : Hid (Blk U Y [.string ⟨bk.name.toArray⟩, .slice a6 nr c6, .int .i64 (at8 : Nat)] 51) := Lib.hid (by rw [hU, hY]; exact Blk.new wr _ _)
              have hcu : Chg [] wr U := by rw [hU]; exact (Chg.refl [] wr).alloc _
              have HCU : Hid (Chg [] V U) := Lib.hid (HCR2.out.trans hcu (by simp))
              have HLRU := Lib.hid (HLR.out.keep (kp_rw _) hcu (TyB.nil _ _ _))
              have y2 := HYB.out.cell (i := 2) rfl
              clear hU hY hcu b0 b1 b2 x2
              have hat9 : at8 ≤ 1000000 := by have h1 := HST2.out.2.1; have h2 := HL.out; omega
              have hw1 : IntKind.i64.wrap ((at8 : Int) + 1) = ((at8 + 1 : Nat) : Int) := by rw [IntWalk.i64_in _ (by omega)]; omega
              go_wp2_with fail
              refine stands_r (x := Pn.wBlock) HSB (by have := HL.out; omega) (by decide) HST2 ?_
              go_wp2_with fail
              clear y2 hw1
              go_loopw [14, 15] (fun la i wr3 => ∃ (q9 z : Nat), la = .int .i64 (q9 : Int) ∧ i = .int .i64 (z : Int) ∧ z ≤ nr ∧ Hid (Chg [] U wr3) ∧ Hid (Pn.chkR s q9 (bk.rows.drop z) K3)) (fun _ i _ => nr - (intN i))
              case atStart => exact ⟨at8 + 1, 0, vintP (by omega), rfl, Nat.zero_le _, Lib.hid (Chg.refl _ _), HKR2⟩
              case round =>
                obtain ⟨q9, z, rfl, rfl, hz, HCR3, HKJ3⟩ := hrel
                have y1 := (HCR3.out.blk HYB.out (by simp)).cell (i := 1) rfl
                by_cases hlt3 : z < nr
                · obtain ⟨rw9, hrw⟩ : ∃ x, bk.rows[z]? = some x := ⟨bk.rows[z]'(by rw [HNR.out]; exact hlt3), by simp⟩
                  have hk := HKJ3.out
                  rw [drop_cons hrw] at hk
                  obtain ⟨hst, hRr⟩ := hk
                  have HST3 := Lib.hid hst
                  have HKR3 := Lib.hid hRr
                  obtain ⟨g3, cap3, a7, c7, e1, e2, -, -, -, -, -, -, -, -, r7⟩ := row_get (HLRU.out.keep (kp_rw _) HCR3.out (TyB.nil _ _ _)) hrw
                  rw [HNR.out] at e1 e2
                  simp only [Value.slice.injEq, true_and] at e1
                  obtain ⟨rfl, rfl⟩ := e1
                  obtain ⟨at6, hat⟩ : ∃ a, rw9.at_ = a := ⟨_, rfl⟩
                  rw [hat] at r7
                  rw [hat] at HST3 HKR3
                  have q0 : (0 : Int) ≤ (z : Int) := by omega
                  have q1 : (z : Int) < (nr : Int) := by omega
                  have q2 : (z : Int) ≤ (c6 : Int) := by omega
                  have qj : ((z : Int)).toNat = z := by omega
                  have hat5 : at6 ≤ 1000000 := by have h1 := HST3.out.2.1; have h2 := HL.out; omega
                  have hw1 : IntKind.i64.wrap ((at6 : Int) + 1) = ((at6 + 1 : Nat) : Int) := by rw [IntWalk.i64_in _ (by omega)]; omega
                  have hw2 : IntKind.i64.wrap ((z : Int) + 1) = ((z + 1 : Nat) : Int) := by rw [IntWalk.i64_in _ (by have := HLRU.out.len_le; rw [HNR.out] at this; omega)]; omega
                  clear hrw hst hRr hat e2
                  go_wp2_with fail
                  refine stands_r (x := Pn.wRow) HSB (by have := HL.out; omega) (by decide) HST3 ?_
                  go_wp2_with fail
                  refine ⟨?_, by simp [intN]; omega⟩
                  first | exact ⟨at6 + 1, z + 1, vintP (by omega), vintP (by omega), by omega, HCR3, HKR3⟩ | ((repeat apply Exists.intro); exact ⟨⟨at6 + 1, z + 1, vintP (by omega), vintP (by omega), by omega, HCR3, HKR3⟩, rfl⟩)
                · have q1 : ¬ (z : Int) < (nr : Int) := by omega
                  have hdr : bk.rows.drop z = [] := List.drop_of_length_le (by rw [HNR.out]; omega)
                  have hk := HKJ3.out
                  rw [hdr] at hk
                  have HK3 : Hid (Pn.chkB s q9 (x.blocks.drop (y + 1)) K1) := Lib.hid (by rw [show q9 = K3 from Eq.symm hk]; exact HKB2.out)
                  have HC5 : Hid (Chg [] V wr) := Lib.hid (HCU.out.trans HCR3.out (by simp))
                  have hw2 : IntKind.i64.wrap ((y : Int) + 1) = ((y + 1 : Nat) : Int) := by rw [IntWalk.i64_in _ (by have := HLBV.out.len_le; rw [HNB.out] at this; omega)]; omega
                  clear hk hdr
                  go_wp2_with fail
                  refine ⟨?_, by simp [intN]; omega⟩
                  first | exact ⟨q9, y + 1, rfl, vintP (by omega), by omega, HC5, HK3⟩ | ((repeat apply Exists.intro); exact ⟨⟨q9, y + 1, rfl, vintP (by omega), by omega, HC5, HK3⟩, rfl⟩)
            · have q1 : ¬ (y : Int) < (nb : Int) := by omega
              have hdr : x.blocks.drop y = [] := List.drop_of_length_le (by rw [HNB.out]; omega)
              have hk := HKJ2.out
              rw [hdr] at hk
              have HQ1 : Hid (K1 = q7) := Lib.hid hk
              clear hk hdr
              go_wp2_with fail
              clear x2
              go_loopw [11, 16] (fun la i wr4 => ∃ (q8 y2 : Nat), la = .int .i64 (q8 : Int) ∧ i = .int .i64 (y2 : Int) ∧ y2 ≤ na ∧ Hid (Chg [] V wr4) ∧ Hid (Pn.chkA s q8 (x.areas.drop y2) K2)) (fun _ i _ => na - (intN i))
              case atStart => exact ⟨at7 + 1, 0, vintP (by omega), rfl, Nat.zero_le _, HCR2, HKA⟩
              case round =>
                obtain ⟨q8, y2, rfl, rfl, hy2, HCR4, HKJ4⟩ := hrel
                have x3 := HX3.out _ HCR4.out
                by_cases hlt4 : y2 < na
                · obtain ⟨ar, har⟩ : ∃ z, x.areas[y2]? = some z := ⟨x.areas[y2]'(by rw [HNA.out]; exact hlt4), by simp⟩
                  have hk := HKJ4.out
                  rw [drop_cons har] at hk
                  obtain ⟨hst, hAr⟩ := hk
                  have HST4 := Lib.hid hst
                  have HKA4 := Lib.hid hAr
                  obtain ⟨g4, cap4, e1, e2, -, -, -, -, -, -, r7⟩ := are_get (HLAV.out.keep (kp_ar _) HCR4.out (TyB.nil _ _ _)) har
                  rw [HNA.out] at e1 e2
                  simp only [Value.slice.injEq, true_and] at e1
                  obtain ⟨rfl, rfl⟩ := e1
                  obtain ⟨at6, hat⟩ : ∃ a, ar.at_ = a := ⟨_, rfl⟩
                  rw [hat] at r7
                  rw [hat] at HST4 HKA4
                  have q0 : (0 : Int) ≤ (y2 : Int) := by omega
                  have q1 : (y2 : Int) < (na : Int) := by omega
                  have q2 : (y2 : Int) ≤ (c2 : Int) := by omega
                  have qj : ((y2 : Int)).toNat = y2 := by omega
                  have hat5 : at6 ≤ 1000000 := by have h1 := HST4.out.2.1; have h2 := HL.out; omega
                  have hw1 : IntKind.i64.wrap ((at6 : Int) + 1) = ((at6 + 1 : Nat) : Int) := by rw [IntWalk.i64_in _ (by omega)]; omega
                  have hw2 : IntKind.i64.wrap ((y2 : Int) + 1) = ((y2 + 1 : Nat) : Int) := by rw [IntWalk.i64_in _ (by have := HLAV.out.len_le; rw [HNA.out] at this; omega)]; omega
                  clear har hst hAr hat e2
                  go_wp2_with fail
                  refine stands_r (x := Pn.wArea) HSB (by have := HL.out; omega) (by decide) HST4 ?_
                  go_wp2_with fail
                  refine ⟨?_, by simp [intN]; omega⟩
                  first | exact ⟨at6 + 1, y2 + 1, vintP (by omega), vintP (by omega), by omega, HCR4, HKA4⟩ | ((repeat apply Exists.intro); exact ⟨⟨at6 + 1, y2 + 1, vintP (by omega), vintP (by omega), by omega, HCR4, HKA4⟩, rfl⟩)
                · have q1 : ¬ (y2 : Int) < (na : Int) := by omega
                  have hdr : x.areas.drop y2 = [] := List.drop_of_length_le (by rw [HNA.out]; omega)
                  have hk := HKJ4.out
                  rw [hdr] at hk
                  have HK4 : Hid (Pn.chkL s (max q7 q8) (h.levels.drop (j + 1)) M) := Lib.hid (by rw [show q8 = K2 from Eq.symm hk, ← HQ1.out]; exact HKR.out)
                  have HC5 : Hid (Chg [] W wr) := Lib.hid (HCV.out.trans HCR4.out (by simp))
                  have hw2 : IntKind.i64.wrap ((j : Int) + 1) = ((j + 1 : Nat) : Int) := by rw [IntWalk.i64_in _ (by have := HLW.out.len_le; rw [← HNL.out] at this; omega)]; omega
                  clear hk hdr
                  go_wp2_with fail
                  refine ⟨?_, by simp [intN]; omega⟩
                  first | exact ⟨max q7 q8, j + 1, vintP (by omega), vintP (by omega), by omega, HC5, HK4⟩ | ((repeat apply Exists.intro); exact ⟨⟨max q7 q8, j + 1, vintP (by omega), vintP (by omega), by omega, HC5, HK4⟩, rfl⟩)
        · have q1 : ¬ (j : Int) < (n : Int) := by omega
          go_wp2_with fail
          go_ret
          exact ⟨rfl, HCW.out.trans HCR.out (by simp)⟩
    · have n0 : ((er : Int) != 0) = true := bne_iff_ne.2 (by omega)
      have hn0 : n = 0 := by
        have h1 : (Pn.parse s).1 = Pn.hl0 := Pn.parse_nonzero (by rw [HPA.out]; exact he)
        rw [HPA.out] at h1
        rw [HNL.out, show h = Pn.hl0 from h1]
        rfl
      subst hn0
      clear he
      go_wp2_with fail
      go_ret
      exact ⟨rfl, HCW.out⟩
  · have q1 : (8000 : Int) < (sb.size : Int) := by rw [hsz]; omega
    go_wp2_with fail
    go_ret
    exact ⟨rfl, HC1.out⟩
end Go.Proofs.YtocadlcglgpdcaaDoor
