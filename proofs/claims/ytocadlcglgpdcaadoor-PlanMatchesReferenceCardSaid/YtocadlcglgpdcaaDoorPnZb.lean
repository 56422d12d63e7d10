/-
 Plan, layer 24: Same, SameLevel, where the two are alike. Printed by gensame06.py.
-/
import Derived.Test.YtocadlcglgpdcaaDoorPnZ
namespace Go.Proofs.YtocadlcglgpdcaaDoor
set_option linter.unusedVariables false
set_option linter.unusedSimpArgs false
open Go Go.RowKit Go.Shelf
open Lx (Tk)
attribute [local go_sem ↓] Go.wp_at_zero Go.wp_at_succ

set_option maxHeartbeats 40000000 in
set_option maxRecDepth 100000 in
theorem samelevel_in (w : World) (b : Bool) (nm : Bytes) (h u v : Nat) (HA : Hid (b = true → u = v)) (bs qs : List Pn.Bl) (HSB : Hid (SimL (SimB b) bs qs)) (as1 as2 : List Pn.Ar) (HSA : Hid (SimL (SimA b) as1 as2)) (ai pi : List Pn.Bx) (ds : List (Nat × Nat)) (n1 n2 n3 n4 n5 : Nat)
 (HN1 : Hid (bs.length = n1)) (HN2 : Hid (as1.length = n2)) (HN3 : Hid (ai.length = n3)) (HN4 : Hid (pi.length = n4)) (HN5 : Hid (ds.length = n5)) (a1 a2 a3 a4 a5 b1 b2 b3 b4 b5 : Option Addr) (c1 c2 c3 c4 c5 d1 d2 d3 d4 d5 B1 B2 : Nat)
 (L1 : Hid (ListS B1 51 3 (Cbk B1) bs (.slice a1 n1 c1) w)) (L2 : Hid (ListS B1 58 7 Car as1 (.slice a2 n2 c2) w)) (L3 : Hid (ListS B1 56 4 Cbx ai (.slice a3 n3 c3) w)) (L4 : Hid (ListS B1 56 4 Cbx pi (.slice a4 n4 c4) w)) (L5 : Hid (ListS B1 24 2 Cpt ds (.slice a5 n5 c5) w))
 (M1 : Hid (ListS B2 51 3 (Cbk B2) qs (.slice b1 n1 d1) w)) (M2 : Hid (ListS B2 58 7 Car as2 (.slice b2 n2 d2) w)) (M3 : Hid (ListS B2 56 4 Cbx ai (.slice b3 n3 d3) w)) (M4 : Hid (ListS B2 56 4 Cbx pi (.slice b4 n4 d4) w)) (M5 : Hid (ListS B2 24 2 Cpt ds (.slice b5 n5 d5) w)) :
 Calls Tryd.prog 16 #[.agg #[.string ⟨nm.toArray⟩, .int .i64 (h : Nat), .slice a1 n1 c1, .slice a2 n2 c2, .slice a3 n3 c3, .slice a4 n4 c4, .slice a5 n5 c5, .int .i64 (u : Nat)], .agg #[.string ⟨nm.toArray⟩, .int .i64 (h : Nat), .slice b1 n1 d1, .slice b2 n2 d2, .slice b3 n3 d3, .slice b4 n4 d4, .slice b5 n5 d5, .int .i64 (v : Nat)], .bool b] w fun e w' => e = .returned (.bool true) ∧ Chg [] w w' := by
 go_enter Tryd.func16, Tryd.ntmps16
 go_upto_region 1 with fail
 obtain ⟨W, hW⟩ : ∃ W, W = (w.alloc (.cells #[.string ⟨nm.toArray⟩, .int .i64 (h : Nat), .slice a1 n1 c1, .slice a2 n2 c2, .slice a3 n3 c3, .slice a4 n4 c4, .slice a5 n5 c5, .int .i64 (u : Nat)] 47)).alloc (.cells #[.string ⟨nm.toArray⟩, .int .i64 (h : Nat), .slice b1 n1 d1, .slice b2 n2 d2, .slice b3 n3 d3, .slice b4 n4 d4, .slice b5 n5 d5, .int .i64 (v : Nat)] 47) := ⟨_, rfl⟩
 rw [← hW]
 obtain ⟨Y, hY⟩ : ∃ Y, Y = w.heap.size + 1 := ⟨_, rfl⟩
 rw [← hY]
 obtain ⟨X, hX⟩ : ∃ X, X = w.heap.size := ⟨_, rfl⟩
 rw [← hX]
 have HX : Hid (Blk W X [.string ⟨nm.toArray⟩, .int .i64 (h : Nat), .slice a1 n1 c1, .slice a2 n2 c2, .slice a3 n3 c3, .slice a4 n4 c4, .slice a5 n5 c5, .int .i64 (u : Nat)] 47) := hd (by rw [hW, hX]; exact (Blk.new w _ _).alloc _)
 have HY : Hid (Blk W Y [.string ⟨nm.toArray⟩, .int .i64 (h : Nat), .slice b1 n1 d1, .slice b2 n2 d2, .slice b3 n3 d3, .slice b4 n4 d4, .slice b5 n5 d5, .int .i64 (v : Nat)] 47) := hd (by rw [hW, hY]; have := Blk.new (w.alloc (.cells #[.string ⟨nm.toArray⟩, .int .i64 (h : Nat), .slice a1 n1 c1, .slice a2 n2 c2, .slice a3 n3 c3, .slice a4 n4 c4, .slice a5 n5 c5, .int .i64 (u : Nat)] 47)) [.string ⟨nm.toArray⟩, .int .i64 (h : Nat), .slice b1 n1 d1, .slice b2 n2 d2, .slice b3 n3 d3, .slice b4 n4 d4, .slice b5 n5 d5, .int .i64 (v : Nat)] 47; simpa using this)
 have HCW : Hid (Chg [] w W) := hd (by rw [hW]; exact ((Chg.refl _ _).alloc _).alloc _)
 clear hW hX hY
 obtain ⟨x0, x1, x2, x3, x4, x5, x6, x7⟩ := HX.out.c8
 obtain ⟨y0, y1, y2, y3, y4, y5, y6, y7⟩ := HY.out.c8
 have HL1 := hd (L1.out.keep (kp_bk _) HCW.out (TyB.nil _ _ _))
 have HM1 := hd (M1.out.keep (kp_bk _) HCW.out (TyB.nil _ _ _))
 have HL2 := hd (L2.out.keep (kp_ar _) HCW.out (TyB.nil _ _ _))
 have HM2 := hd (M2.out.keep (kp_ar _) HCW.out (TyB.nil _ _ _))
 have HL3 := hd (L3.out.keep (kp_bx _) HCW.out (TyB.nil _ _ _))
 have HM3 := hd (M3.out.keep (kp_bx _) HCW.out (TyB.nil _ _ _))
 have HL4 := hd (L4.out.keep (kp_bx _) HCW.out (TyB.nil _ _ _))
 have HM4 := hd (M4.out.keep (kp_bx _) HCW.out (TyB.nil _ _ _))
 have HL5 := hd (L5.out.keep (kp_pt _) HCW.out (TyB.nil _ _ _))
 have HM5 := hd (M5.out.keep (kp_pt _) HCW.out (TyB.nil _ _ _))
 cases b with
 | false =>
  clear HA
  go_wp2_with fail
  clear x0 y0 x1 y1 x2 y2 x3 y3 x4 y4 x5 y5 x6 y6 x7 y7
  go_loopw [7] (fun i0 wr => ∃ j : Nat, i0 = .int .i64 (j : Int) ∧ j ≤ n1 ∧ Hid (Chg [] W wr)) (fun i0 _ => n1 - intN i0)
  case atStart => exact ⟨0, rfl, Nat.zero_le _, hd (Chg.refl _ _)⟩
  case round =>
   obtain ⟨j, rfl, hj, HCR⟩ := hrel
   have x2 := (HCR.out.blk HX.out (by simp)).cell (i := 2) rfl
   have y2 := (HCR.out.blk HY.out (by simp)).cell (i := 2) rfl
   by_cases hlt : j < n1
   · have q0 : (0 : Int) ≤ (j : Int) := by omega
     have q1 : (j : Int) < (n1 : Int) := by omega
     have qj : ((j : Int)).toNat = j := by omega
     obtain ⟨p, q, hp, hq, hsim⟩ := HSB.out.at (i := j) (by rw [HN1.out]; exact hlt)
     have HSI := hd hsim
     obtain ⟨g1, e1', a6, c6, e1, e2, t1, k0, k1, k2⟩ := blk_get (HL1.out.keep (kp_bk _) HCR.out (TyB.nil _ _ _)) hp
     obtain ⟨g2, e2', a7, c7, e3, e4, t2, l0, l1, l2⟩ := blk_get (HM1.out.keep (kp_bk _) HCR.out (TyB.nil _ _ _)) hq
     rw [HN1.out] at e1 e2
     rw [← HSB.out.1, HN1.out] at e3 e4
     simp only [Value.slice.injEq, true_and] at e1 e3
     obtain ⟨rfl, rfl⟩ := e1
     obtain ⟨rfl, rfl⟩ := e3
     have q2 : (j : Int) ≤ (c1 : Int) := by omega
     have q3 : (j : Int) ≤ (d1 : Int) := by omega
     have hw2 : IntKind.i64.wrap ((j : Int) + 1) = ((j + 1 : Nat) : Int) := by rw [IntWalk.i64_in _ (by have h1 := L1.out.len_le; rw [HN1.out] at h1; omega)]; omega
     have T1 := hd t1
     have T2 := hd t2
     have Kk0 := hd k0
     have Kl0 := hd l0
     have Kk1 := hd k1
     have Kl1 := hd l1
     have Kk2 := hd k2
     have Kl2 := hd l2
     have Kx := hd x2
     have Ky := hd y2
     clear hp hq hsim e2 e4 t1 t2 k0 l0 k1 l1 k2 l2
     go_upto_region 6 with fail
     clear x2 y2
     refine wp_region_held_drew (S := fun W' => Chg [] wr W') (by kernel_rfl) (Chg.refl _ _).drew (fun hHeld => ?_)
     refine tk 0 (v := ?vh0) rfl (by kernel_rfl) (fun _ _ _ h => h) ?hyh0 (by assumption) ?rsh0
     case hyh0 => (intro w9 hSw; go_simp; try with_reducible rfl)
     try simp only [qq]
     refine tk 1 (v := ?vh1) rfl (by kernel_rfl) (fun _ _ _ h => h) ?hyh1 (by assumption) ?rsh1
     case hyh1 => (intro w9 hSw; have d0 := cell_quiet hSw Kx.out (by simp); go_simp; try with_reducible rfl)
     try simp only [qq]
     refine tk 2 (v := ?vh2) rfl (by kernel_rfl) (fun _ _ _ h => h) ?hyh2 (by assumption) ?rsh2
     case hyh2 => (intro w9 hSw; go_simp; try with_reducible rfl)
     try simp only [qq]
     refine tk 3 (v := ?vh3) rfl (by kernel_rfl) (fun _ _ _ h => h) ?hyh3 (by assumption) ?rsh3
     case hyh3 => (intro w9 hSw; go_simp; try with_reducible rfl)
     try simp only [qq]
     refine tk 4 (v := ?vh4) rfl (by kernel_rfl) (fun _ _ _ h => h) ?hyh4 (by assumption) ?rsh4
     case hyh4 => (intro w9 hSw; have d0 := cell_quiet hSw Kk0.out (by simp); have d1 := cell_quiet hSw Kk1.out (by simp); have d2 := cell_quiet hSw Kk2.out (by simp); go_simp; try with_reducible rfl)
     try simp only [qq]
     refine tk 5 (v := ?vh5) rfl (by kernel_rfl) (fun _ _ _ h => h) ?hyh5 (by assumption) ?rsh5
     case hyh5 => (intro w9 hSw; go_simp; try with_reducible rfl)
     try simp only [qq]
     refine tk 6 (v := ?vh6) rfl (by kernel_rfl) (fun _ _ _ h => h) ?hyh6 (by assumption) ?rsh6
     case hyh6 => (intro w9 hSw; have d0 := cell_quiet hSw Ky.out (by simp); go_simp; try with_reducible rfl)
     try simp only [qq]
     refine tk 7 (v := ?vh7) rfl (by kernel_rfl) (fun _ _ _ h => h) ?hyh7 (by assumption) ?rsh7
     case hyh7 => (intro w9 hSw; go_simp; try with_reducible rfl)
     try simp only [qq]
     refine tk 8 (v := ?vh8) rfl (by kernel_rfl) (fun _ _ _ h => h) ?hyh8 (by assumption) ?rsh8
     case hyh8 => (intro w9 hSw; go_simp; try with_reducible rfl)
     try simp only [qq]
     refine tk 9 (v := ?vh9) rfl (by kernel_rfl) (fun _ _ _ h => h) ?hyh9 (by assumption) ?rsh9
     case hyh9 => (intro w9 hSw; have d0 := cell_quiet hSw Kl0.out (by simp); have d1 := cell_quiet hSw Kl1.out (by simp); have d2 := cell_quiet hSw Kl2.out (by simp); go_simp; try with_reducible rfl)
     try simp only [qq]
     refine tk 10 (v := ?vh10) rfl (by kernel_rfl) (fun _ _ _ h => h) ?hyh10 (by assumption) ?rsh10
     case hyh10 => (intro w9 hSw; go_simp; try with_reducible rfl)
     try simp only [qq]
     refine rd1 11 (by kernel_rfl) rfl (fun K hK => ?_)
     go_simp
     refine sameblock_r HSI (hd (T1.out.keep (kp_rw _) hHeld (TyB.nil _ _ _))) (hd (T2.out.keep (kp_rw _) hHeld (TyB.nil _ _ _))) (fun w9 hcx => ?_)
     refine hK.out _ _ (hHeld.trans hcx (by simp)) (fun hHeld => ?_)
     clear hK K
     try simp only [qq]
     refine tk 12 (v := ?vh12) rfl (by kernel_rfl) (fun _ _ _ h => h) ?hyh12 (by assumption) ?rsh12
     case hyh12 => (intro w9 hSw; go_simp; try with_reducible rfl)
     try simp only [qq]
     refine wpAnyH_done (by kernel_rfl) ?_ _
     try simp only [qq]
     have HH := hd hHeld
     clear hHeld hcx
     have HC2 := hd (HCR.out.trans HH.out (by simp))
     go_wp2_with fail
     refine ⟨?_, by simp [intN]; omega⟩
     first | exact ⟨j + 1, vintP (by omega), by omega, HC2⟩ | ((repeat apply Exists.intro); exact ⟨⟨j + 1, vintP (by omega), by omega, HC2⟩, rfl⟩)
   · have q1 : ¬ (j : Int) < (n1 : Int) := by omega
     go_wp2_with fail
     clear x2 y2 q1
     go_loopw [8, 9, 10] (fun i0 _ _ wr => ∃ j : Nat, i0 = .int .i64 (j : Int) ∧ j ≤ n2 ∧ Hid (Chg [] W wr)) (fun i0 _ _ _ => n2 - intN i0)
     case atStart => exact ⟨0, rfl, Nat.zero_le _, HCR⟩
     case round =>
      obtain ⟨j, rfl, hj, HCR⟩ := hrel
      have x3 := (HCR.out.blk HX.out (by simp)).cell (i := 3) rfl
      have y3 := (HCR.out.blk HY.out (by simp)).cell (i := 3) rfl
      by_cases hlt : j < n2
      · have q0 : (0 : Int) ≤ (j : Int) := by omega
        have q1 : (j : Int) < (n2 : Int) := by omega
        have qj : ((j : Int)).toNat = j := by omega
        obtain ⟨p, q, hp, hq, hsim⟩ := HSA.out.at (i := j) (by rw [HN2.out]; exact hlt)
        obtain ⟨g1, e1', e1, e2, k0, k1, k2, k3, k4, k5, k6⟩ := are_get (HL2.out.keep (kp_ar _) HCR.out (TyB.nil _ _ _)) hp
        obtain ⟨g2, e2', e3, e4, l0, l1, l2, l3, l4, l5, l6⟩ := are_get (HM2.out.keep (kp_ar _) HCR.out (TyB.nil _ _ _)) hq
        rw [HN2.out] at e1 e2
        rw [← HSA.out.1, HN2.out] at e3 e4
        simp only [Value.slice.injEq, true_and] at e1 e3
        obtain ⟨rfl, rfl⟩ := e1
        obtain ⟨rfl, rfl⟩ := e3
        have q2 : (j : Int) ≤ (c2 : Int) := by omega
        have q3 : (j : Int) ≤ (d2 : Int) := by omega
        have hw2 : IntKind.i64.wrap ((j : Int) + 1) = ((j + 1 : Nat) : Int) := by rw [IntWalk.i64_in _ (by have h1 := L2.out.len_le; rw [HN2.out] at h1; omega)]; omega
        have Kk0 := hd k0
        have Kl0 := hd l0
        have Kk1 := hd k1
        have Kl1 := hd l1
        have Kk2 := hd k2
        have Kl2 := hd l2
        have Kk3 := hd k3
        have Kl3 := hd l3
        have Kk4 := hd k4
        have Kl4 := hd l4
        have Kk5 := hd k5
        have Kl5 := hd l5
        have Kk6 := hd k6
        have Kl6 := hd l6
        have Kx := hd x3
        have Ky := hd y3
        have HSI := hd hsim
        clear hp hq hsim e2 e4 k0 l0 k1 l1 k2 l2 k3 l3 k4 l4 k5 l5 k6 l6
        go_upto_region 11 with fail
        clear x3 y3
        refine wp_region_held_drew (S := fun W' => Chg [] wr W') (by kernel_rfl) (Chg.refl _ _).drew (fun hHeld => ?_)
        obtain ⟨wd, hwd⟩ : ∃ x, x = wr.drew := ⟨_, rfl⟩
        rw [← hwd] at hHeld ⊢
        clear hwd
        refine tk 0 (v := ?vp0) rfl (by kernel_rfl) (fun _ _ _ h => h) ?hyp0 (by assumption) ?rsp0
        case hyp0 => (intro w9 hSw; go_simp; try with_reducible rfl)
        try simp only [qq]
        refine tk 1 (v := ?vp1) rfl (by kernel_rfl) (fun _ _ _ h => h) ?hyp1 (by assumption) ?rsp1
        case hyp1 => (intro w9 hSw; have d0 := cell_quiet hSw Kx.out (by simp); go_simp; try with_reducible rfl)
        try simp only [qq]
        refine tk 2 (v := ?vp2) rfl (by kernel_rfl) (fun _ _ _ h => h) ?hyp2 (by assumption) ?rsp2
        case hyp2 => (intro w9 hSw; go_simp; try with_reducible rfl)
        try simp only [qq]
        refine tk 3 (v := ?vp3) rfl (by kernel_rfl) (fun _ _ _ h => h) ?hyp3 (by assumption) ?rsp3
        case hyp3 => (intro w9 hSw; go_simp; try with_reducible rfl)
        try simp only [qq]
        refine tk 4 (v := ?vp4) rfl (by kernel_rfl) (fun _ _ _ h => h) ?hyp4 (by assumption) ?rsp4
        case hyp4 => (intro w9 hSw; have d0 := cell_quiet hSw Kk0.out (by simp); have d1 := cell_quiet hSw Kk1.out (by simp); have d2 := cell_quiet hSw Kk2.out (by simp); have d3 := cell_quiet hSw Kk3.out (by simp); have d4 := cell_quiet hSw Kk4.out (by simp); have d5 := cell_quiet hSw Kk5.out (by simp); have d6 := cell_quiet hSw Kk6.out (by simp); go_simp; try with_reducible rfl)
        try simp only [qq]
        refine tk 5 (v := ?vp5) rfl (by kernel_rfl) (fun _ _ _ h => h) ?hyp5 (by assumption) ?rsp5
        case hyp5 => (intro w9 hSw; go_simp; try with_reducible rfl)
        try simp only [qq]
        refine tk 6 (v := ?vp6) rfl (by kernel_rfl) (fun _ _ _ h => h) ?hyp6 (by assumption) ?rsp6
        case hyp6 => (intro w9 hSw; have d0 := cell_quiet hSw Ky.out (by simp); go_simp; try with_reducible rfl)
        try simp only [qq]
        refine tk 7 (v := ?vp7) rfl (by kernel_rfl) (fun _ _ _ h => h) ?hyp7 (by assumption) ?rsp7
        case hyp7 => (intro w9 hSw; go_simp; try with_reducible rfl)
        try simp only [qq]
        refine tk 8 (v := ?vp8) rfl (by kernel_rfl) (fun _ _ _ h => h) ?hyp8 (by assumption) ?rsp8
        case hyp8 => (intro w9 hSw; go_simp; try with_reducible rfl)
        try simp only [qq]
        refine tk 9 (v := ?vp9) rfl (by kernel_rfl) (fun _ _ _ h => h) ?hyp9 (by assumption) ?rsp9
        case hyp9 => (intro w9 hSw; have d0 := cell_quiet hSw Kl0.out (by simp); have d1 := cell_quiet hSw Kl1.out (by simp); have d2 := cell_quiet hSw Kl2.out (by simp); have d3 := cell_quiet hSw Kl3.out (by simp); have d4 := cell_quiet hSw Kl4.out (by simp); have d5 := cell_quiet hSw Kl5.out (by simp); have d6 := cell_quiet hSw Kl6.out (by simp); go_simp; try with_reducible rfl)
        try simp only [qq]
        refine rd2 10 11 (by kernel_rfl) rfl rfl (fun K hK => ?_) (fun K hK => ?_)
        · skip
          go_simp
          obtain ⟨va, hv⟩ : ∃ x, x = wd.alloc (.cells #[.string ⟨#[]⟩, .int .i64 0, .int .i64 0, .int .i64 0, .int .i64 0, .int .i64 0, .int .i64 0] 58) := ⟨_, rfl⟩
          rw [← hv]
          obtain ⟨T9, hT⟩ : ∃ T, T = wd.heap.size := ⟨_, rfl⟩
          rw [← hT]
          have HT9 : Hid (Blk va T9 [.string ⟨#[]⟩, .int .i64 0, .int .i64 0, .int .i64 0, .int .i64 0, .int .i64 0, .int .i64 0] 58) := hd (by rw [hv, hT]; exact Blk.new wd _ _)
          have HGT9 : Hid (wr.heap.size ≤ T9) := hd (by rw [hT]; exact hHeld.size)
          refine hK.out _ _ (by rw [hv]; exact hHeld.alloc _) (fun hHeld => ?_)
          clear hK K hv hT
          try simp only [qq]
          refine rd1 11 (by kernel_rfl) rfl (fun K hK => ?_)
          go_simp
          obtain ⟨vb, hv⟩ : ∃ x, x = va.alloc (.cells #[.string ⟨#[]⟩, .int .i64 0, .int .i64 0, .int .i64 0, .int .i64 0, .int .i64 0, .int .i64 0] 58) := ⟨_, rfl⟩
          rw [← hv]
          obtain ⟨T10, hT⟩ : ∃ T, T = va.heap.size := ⟨_, rfl⟩
          rw [← hT]
          have HT10 : Hid (Blk vb T10 [.string ⟨#[]⟩, .int .i64 0, .int .i64 0, .int .i64 0, .int .i64 0, .int .i64 0, .int .i64 0] 58) := hd (by rw [hv, hT]; exact Blk.new va _ _)
          have HGT10 : Hid (wr.heap.size ≤ T10) := hd (by rw [hT]; exact hHeld.size)
          have HBT9 := hd (HT9.out.alE hv)
          have N1 : ¬ T10 = T9 := by have := HT9.out.lt; omega
          have N2 : ¬ T9 = T10 := by omega
          have HBT10 := HT10
          refine hK.out _ _ (by rw [hv]; exact hHeld.alloc _) (fun hHeld => ?_)
          clear hK K hv hT HT9 HT10
          try simp only [qq]
          refine rd1 12 (by kernel_rfl) rfl (fun K hK => ?_)
          obtain ⟨z0, z1, z2, z3, z4, z5, z6⟩ := HBT9.out.c7
          obtain ⟨f0, f1, f2, f3, f4, f5, f6⟩ := HBT9.out.f7
          go_simp
          obtain ⟨vc, hv⟩ : ∃ x, x = (((((((vb.setCell ⟨T9, 0, none⟩ (.string ⟨p.name.toArray⟩)).setCell ⟨T9, 1, none⟩ (.int .i64 (p.box.x : Nat))).setCell ⟨T9, 2, none⟩ (.int .i64 (p.box.y : Nat))).setCell ⟨T9, 3, none⟩ (.int .i64 (p.box.x2 : Nat))).setCell ⟨T9, 4, none⟩ (.int .i64 (p.box.y2 : Nat))).setCell ⟨T9, 5, none⟩ (.int .i64 (p.holds : Nat))).setCell ⟨T9, 6, none⟩ (.int .i64 (p.at_ : Nat))) := ⟨_, rfl⟩
          rw [← hv]
          have HBnT9 : Hid (Blk vc T9 [.string ⟨p.name.toArray⟩, .int .i64 (p.box.x : Nat), .int .i64 (p.box.y : Nat), .int .i64 (p.box.x2 : Nat), .int .i64 (p.box.y2 : Nat), .int .i64 (p.holds : Nat), .int .i64 (p.at_ : Nat)] 58) := hd (by rw [hv]; exact (((((((HBT9.out.set 0 _).set 1 _).set 2 _).set 3 _).set 4 _).set 5 _).set 6 _))
          have HBnT10 : Hid (Blk vc T10 [.string ⟨#[]⟩, .int .i64 0, .int .i64 0, .int .i64 0, .int .i64 0, .int .i64 0, .int .i64 0] 58) := hd (by rw [hv]; exact (((((((HBT10.out.other ⟨T9, 0, none⟩ _ N1).other ⟨T9, 1, none⟩ _ N1).other ⟨T9, 2, none⟩ _ N1).other ⟨T9, 3, none⟩ _ N1).other ⟨T9, 4, none⟩ _ N1).other ⟨T9, 5, none⟩ _ N1).other ⟨T9, 6, none⟩ _ N1))
          clear HBT9 HBT10 z0 f0 z1 f1 z2 f2 z3 f3 z4 f4 z5 f5 z6 f6
          have HBT9 := HBnT9
          have HBT10 := HBnT10
          clear HBnT9 HBnT10
          refine hK.out _ _ (by rw [hv]; exact (((((((hHeld.setCell _ _ (.inr (by show _ ≤ T9; exact HGT9.out))).setCell _ _ (.inr (by show _ ≤ T9; exact HGT9.out))).setCell _ _ (.inr (by show _ ≤ T9; exact HGT9.out))).setCell _ _ (.inr (by show _ ≤ T9; exact HGT9.out))).setCell _ _ (.inr (by show _ ≤ T9; exact HGT9.out))).setCell _ _ (.inr (by show _ ≤ T9; exact HGT9.out))).setCell _ _ (.inr (by show _ ≤ T9; exact HGT9.out)))) (fun hHeld => ?_)
          clear hK K hv
          try simp only [qq]
          refine rd1 13 (by kernel_rfl) rfl (fun K hK => ?_)
          obtain ⟨z0, z1, z2, z3, z4, z5, z6⟩ := HBT10.out.c7
          obtain ⟨f0, f1, f2, f3, f4, f5, f6⟩ := HBT10.out.f7
          go_simp
          obtain ⟨vd, hv⟩ : ∃ x, x = (((((((vc.setCell ⟨T10, 0, none⟩ (.string ⟨q.name.toArray⟩)).setCell ⟨T10, 1, none⟩ (.int .i64 (q.box.x : Nat))).setCell ⟨T10, 2, none⟩ (.int .i64 (q.box.y : Nat))).setCell ⟨T10, 3, none⟩ (.int .i64 (q.box.x2 : Nat))).setCell ⟨T10, 4, none⟩ (.int .i64 (q.box.y2 : Nat))).setCell ⟨T10, 5, none⟩ (.int .i64 (q.holds : Nat))).setCell ⟨T10, 6, none⟩ (.int .i64 (q.at_ : Nat))) := ⟨_, rfl⟩
          rw [← hv]
          have HBnT10 : Hid (Blk vd T10 [.string ⟨q.name.toArray⟩, .int .i64 (q.box.x : Nat), .int .i64 (q.box.y : Nat), .int .i64 (q.box.x2 : Nat), .int .i64 (q.box.y2 : Nat), .int .i64 (q.holds : Nat), .int .i64 (q.at_ : Nat)] 58) := hd (by rw [hv]; exact (((((((HBT10.out.set 0 _).set 1 _).set 2 _).set 3 _).set 4 _).set 5 _).set 6 _))
          have HBnT9 : Hid (Blk vd T9 [.string ⟨p.name.toArray⟩, .int .i64 (p.box.x : Nat), .int .i64 (p.box.y : Nat), .int .i64 (p.box.x2 : Nat), .int .i64 (p.box.y2 : Nat), .int .i64 (p.holds : Nat), .int .i64 (p.at_ : Nat)] 58) := hd (by rw [hv]; exact (((((((HBT9.out.other ⟨T10, 0, none⟩ _ N2).other ⟨T10, 1, none⟩ _ N2).other ⟨T10, 2, none⟩ _ N2).other ⟨T10, 3, none⟩ _ N2).other ⟨T10, 4, none⟩ _ N2).other ⟨T10, 5, none⟩ _ N2).other ⟨T10, 6, none⟩ _ N2))
          clear HBT9 HBT10 z0 f0 z1 f1 z2 f2 z3 f3 z4 f4 z5 f5 z6 f6
          have HBT9 := HBnT9
          have HBT10 := HBnT10
          clear HBnT9 HBnT10
          refine hK.out _ _ (by rw [hv]; exact (((((((hHeld.setCell _ _ (.inr (by show _ ≤ T10; exact HGT10.out))).setCell _ _ (.inr (by show _ ≤ T10; exact HGT10.out))).setCell _ _ (.inr (by show _ ≤ T10; exact HGT10.out))).setCell _ _ (.inr (by show _ ≤ T10; exact HGT10.out))).setCell _ _ (.inr (by show _ ≤ T10; exact HGT10.out))).setCell _ _ (.inr (by show _ ≤ T10; exact HGT10.out))).setCell _ _ (.inr (by show _ ≤ T10; exact HGT10.out)))) (fun hHeld => ?_)
          clear hK K hv
          try simp only [qq]
          refine wpAnyH_done (by kernel_rfl) ?_ _
          try simp only [qq]
          have HH := hd hHeld
          clear hHeld
          have HBq : Hid (Blk vd T10 [.string ⟨q.name.toArray⟩, .int .i64 (q.box.x : Nat), .int .i64 (q.box.y : Nat), .int .i64 (q.box.x2 : Nat), .int .i64 (q.box.y2 : Nat), .int .i64 (q.holds : Nat), .int .i64 (q.at_ : Nat)] 58) := HBT10
          obtain ⟨⟨s1, s2, s3⟩, s4⟩ := HSI.out
          rw [← s1, ← s2, ← s3] at HBq
          obtain ⟨u0, u1, u2, u3, u4, u5, u6⟩ := HBT9.out.c7
          obtain ⟨t0, t1, t2, t3, t4, t5, t6⟩ := HBq.out.c7
          have HC2 := hd (HCR.out.trans HH.out (by simp))
          clear s1 s2 s3 s4 N1 N2
          go_wp2_with fail
          refine ⟨?_, by simp [intN]; omega⟩
          first | exact ⟨j + 1, vintP (by omega), by omega, HC2⟩ | ((repeat apply Exists.intro); exact ⟨⟨j + 1, vintP (by omega), by omega, HC2⟩, rfl⟩)
        · skip
          go_simp
          obtain ⟨va, hv⟩ : ∃ x, x = wd.alloc (.cells #[.string ⟨#[]⟩, .int .i64 0, .int .i64 0, .int .i64 0, .int .i64 0, .int .i64 0, .int .i64 0] 58) := ⟨_, rfl⟩
          rw [← hv]
          obtain ⟨T10, hT⟩ : ∃ T, T = wd.heap.size := ⟨_, rfl⟩
          rw [← hT]
          have HT10 : Hid (Blk va T10 [.string ⟨#[]⟩, .int .i64 0, .int .i64 0, .int .i64 0, .int .i64 0, .int .i64 0, .int .i64 0] 58) := hd (by rw [hv, hT]; exact Blk.new wd _ _)
          have HGT10 : Hid (wr.heap.size ≤ T10) := hd (by rw [hT]; exact hHeld.size)
          refine hK.out _ _ (by rw [hv]; exact hHeld.alloc _) (fun hHeld => ?_)
          clear hK K hv hT
          try simp only [qq]
          refine rd1 10 (by kernel_rfl) rfl (fun K hK => ?_)
          go_simp
          obtain ⟨vb, hv⟩ : ∃ x, x = va.alloc (.cells #[.string ⟨#[]⟩, .int .i64 0, .int .i64 0, .int .i64 0, .int .i64 0, .int .i64 0, .int .i64 0] 58) := ⟨_, rfl⟩
          rw [← hv]
          obtain ⟨T9, hT⟩ : ∃ T, T = va.heap.size := ⟨_, rfl⟩
          rw [← hT]
          have HT9 : Hid (Blk vb T9 [.string ⟨#[]⟩, .int .i64 0, .int .i64 0, .int .i64 0, .int .i64 0, .int .i64 0, .int .i64 0] 58) := hd (by rw [hv, hT]; exact Blk.new va _ _)
          have HGT9 : Hid (wr.heap.size ≤ T9) := hd (by rw [hT]; exact hHeld.size)
          have HBT10 := hd (HT10.out.alE hv)
          have N1 : ¬ T9 = T10 := by have := HT10.out.lt; omega
          have N2 : ¬ T10 = T9 := by omega
          have HBT9 := HT9
          refine hK.out _ _ (by rw [hv]; exact hHeld.alloc _) (fun hHeld => ?_)
          clear hK K hv hT HT9 HT10
          try simp only [qq]
          refine rd1 12 (by kernel_rfl) rfl (fun K hK => ?_)
          obtain ⟨z0, z1, z2, z3, z4, z5, z6⟩ := HBT9.out.c7
          obtain ⟨f0, f1, f2, f3, f4, f5, f6⟩ := HBT9.out.f7
          go_simp
          obtain ⟨vc, hv⟩ : ∃ x, x = (((((((vb.setCell ⟨T9, 0, none⟩ (.string ⟨p.name.toArray⟩)).setCell ⟨T9, 1, none⟩ (.int .i64 (p.box.x : Nat))).setCell ⟨T9, 2, none⟩ (.int .i64 (p.box.y : Nat))).setCell ⟨T9, 3, none⟩ (.int .i64 (p.box.x2 : Nat))).setCell ⟨T9, 4, none⟩ (.int .i64 (p.box.y2 : Nat))).setCell ⟨T9, 5, none⟩ (.int .i64 (p.holds : Nat))).setCell ⟨T9, 6, none⟩ (.int .i64 (p.at_ : Nat))) := ⟨_, rfl⟩
          rw [← hv]
          have HBnT9 : Hid (Blk vc T9 [.string ⟨p.name.toArray⟩, .int .i64 (p.box.x : Nat), .int .i64 (p.box.y : Nat), .int .i64 (p.box.x2 : Nat), .int .i64 (p.box.y2 : Nat), .int .i64 (p.holds : Nat), .int .i64 (p.at_ : Nat)] 58) := hd (by rw [hv]; exact (((((((HBT9.out.set 0 _).set 1 _).set 2 _).set 3 _).set 4 _).set 5 _).set 6 _))
          have HBnT10 := hd (HBT10.out.o7 hv N2)
          clear HBT9 HBT10 z0 f0 z1 f1 z2 f2 z3 f3 z4 f4 z5 f5 z6 f6
          have HBT9 := HBnT9
          have HBT10 := HBnT10
          clear HBnT9 HBnT10
          refine hK.out _ _ (by rw [hv]; exact (((((((hHeld.setCell _ _ (.inr (by show _ ≤ T9; exact HGT9.out))).setCell _ _ (.inr (by show _ ≤ T9; exact HGT9.out))).setCell _ _ (.inr (by show _ ≤ T9; exact HGT9.out))).setCell _ _ (.inr (by show _ ≤ T9; exact HGT9.out))).setCell _ _ (.inr (by show _ ≤ T9; exact HGT9.out))).setCell _ _ (.inr (by show _ ≤ T9; exact HGT9.out))).setCell _ _ (.inr (by show _ ≤ T9; exact HGT9.out)))) (fun hHeld => ?_)
          clear hK K hv
          try simp only [qq]
          refine rd1 13 (by kernel_rfl) rfl (fun K hK => ?_)
          obtain ⟨z0, z1, z2, z3, z4, z5, z6⟩ := HBT10.out.c7
          obtain ⟨f0, f1, f2, f3, f4, f5, f6⟩ := HBT10.out.f7
          go_simp
          obtain ⟨vd, hv⟩ : ∃ x, x = (((((((vc.setCell ⟨T10, 0, none⟩ (.string ⟨q.name.toArray⟩)).setCell ⟨T10, 1, none⟩ (.int .i64 (q.box.x : Nat))).setCell ⟨T10, 2, none⟩ (.int .i64 (q.box.y : Nat))).setCell ⟨T10, 3, none⟩ (.int .i64 (q.box.x2 : Nat))).setCell ⟨T10, 4, none⟩ (.int .i64 (q.box.y2 : Nat))).setCell ⟨T10, 5, none⟩ (.int .i64 (q.holds : Nat))).setCell ⟨T10, 6, none⟩ (.int .i64 (q.at_ : Nat))) := ⟨_, rfl⟩
          rw [← hv]
          have HBnT10 : Hid (Blk vd T10 [.string ⟨q.name.toArray⟩, .int .i64 (q.box.x : Nat), .int .i64 (q.box.y : Nat), .int .i64 (q.box.x2 : Nat), .int .i64 (q.box.y2 : Nat), .int .i64 (q.holds : Nat), .int .i64 (q.at_ : Nat)] 58) := hd (by rw [hv]; exact (((((((HBT10.out.set 0 _).set 1 _).set 2 _).set 3 _).set 4 _).set 5 _).set 6 _))
          have HBnT9 : Hid (Blk vd T9 [.string ⟨p.name.toArray⟩, .int .i64 (p.box.x : Nat), .int .i64 (p.box.y : Nat), .int .i64 (p.box.x2 : Nat), .int .i64 (p.box.y2 : Nat), .int .i64 (p.holds : Nat), .int .i64 (p.at_ : Nat)] 58) := hd (by rw [hv]; exact (((((((HBT9.out.other ⟨T10, 0, none⟩ _ N1).other ⟨T10, 1, none⟩ _ N1).other ⟨T10, 2, none⟩ _ N1).other ⟨T10, 3, none⟩ _ N1).other ⟨T10, 4, none⟩ _ N1).other ⟨T10, 5, none⟩ _ N1).other ⟨T10, 6, none⟩ _ N1))
          clear HBT9 HBT10 z0 f0 z1 f1 z2 f2 z3 f3 z4 f4 z5 f5 z6 f6
          have HBT9 := HBnT9
          have HBT10 := HBnT10
          clear HBnT9 HBnT10
          refine hK.out _ _ (by rw [hv]; exact (((((((hHeld.setCell _ _ (.inr (by show _ ≤ T10; exact HGT10.out))).setCell _ _ (.inr (by show _ ≤ T10; exact HGT10.out))).setCell _ _ (.inr (by show _ ≤ T10; exact HGT10.out))).setCell _ _ (.inr (by show _ ≤ T10; exact HGT10.out))).setCell _ _ (.inr (by show _ ≤ T10; exact HGT10.out))).setCell _ _ (.inr (by show _ ≤ T10; exact HGT10.out))).setCell _ _ (.inr (by show _ ≤ T10; exact HGT10.out)))) (fun hHeld => ?_)
          clear hK K hv
          try simp only [qq]
          refine wpAnyH_done (by kernel_rfl) ?_ _
          try simp only [qq]
          have HH := hd hHeld
          clear hHeld
          have HBq : Hid (Blk vd T10 [.string ⟨q.name.toArray⟩, .int .i64 (q.box.x : Nat), .int .i64 (q.box.y : Nat), .int .i64 (q.box.x2 : Nat), .int .i64 (q.box.y2 : Nat), .int .i64 (q.holds : Nat), .int .i64 (q.at_ : Nat)] 58) := HBT10
          obtain ⟨⟨s1, s2, s3⟩, s4⟩ := HSI.out
          rw [← s1, ← s2, ← s3] at HBq
          obtain ⟨u0, u1, u2, u3, u4, u5, u6⟩ := HBT9.out.c7
          obtain ⟨t0, t1, t2, t3, t4, t5, t6⟩ := HBq.out.c7
          have HC2 := hd (HCR.out.trans HH.out (by simp))
          clear s1 s2 s3 s4 N1 N2
          go_wp2_with fail
          refine ⟨?_, by simp [intN]; omega⟩
          first | exact ⟨j + 1, vintP (by omega), by omega, HC2⟩ | ((repeat apply Exists.intro); exact ⟨⟨j + 1, vintP (by omega), by omega, HC2⟩, rfl⟩)
      · have q1 : ¬ (j : Int) < (n2 : Int) := by omega
        go_wp2_with fail
        clear x3 y3 q1
        go_loopw [11] (fun i0 wr => ∃ j : Nat, i0 = .int .i64 (j : Int) ∧ j ≤ n5 ∧ Hid (Chg [] W wr)) (fun i0 _ => n5 - intN i0)
        case atStart => exact ⟨0, rfl, Nat.zero_le _, HCR⟩
        case round =>
         obtain ⟨j, rfl, hj, HCR⟩ := hrel
         have x6 := (HCR.out.blk HX.out (by simp)).cell (i := 6) rfl
         have y6 := (HCR.out.blk HY.out (by simp)).cell (i := 6) rfl
         by_cases hlt : j < n5
         · have q0 : (0 : Int) ≤ (j : Int) := by omega
           have q1 : (j : Int) < (n5 : Int) := by omega
           have qj : ((j : Int)).toNat = j := by omega
           obtain ⟨m, hm⟩ : ∃ m, ds[j]? = some m := ⟨ds[j]'(by rw [HN5.out]; exact hlt), by simp⟩
           obtain ⟨g1, e1', e1, e2, k0, k1⟩ := pnt_get (HL5.out.keep (kp_pt _) HCR.out (TyB.nil _ _ _)) hm
           obtain ⟨g2, e2', e3, e4, l0, l1⟩ := pnt_get (HM5.out.keep (kp_pt _) HCR.out (TyB.nil _ _ _)) hm
           rw [HN5.out] at e1 e2 e3 e4
           simp only [Value.slice.injEq, true_and] at e1 e3
           obtain ⟨rfl, rfl⟩ := e1
           obtain ⟨rfl, rfl⟩ := e3
           have q2 : (j : Int) ≤ (c5 : Int) := by omega
           have q3 : (j : Int) ≤ (d5 : Int) := by omega
           have hw2 : IntKind.i64.wrap ((j : Int) + 1) = ((j + 1 : Nat) : Int) := by rw [IntWalk.i64_in _ (by have h1 := L5.out.len_le; rw [HN5.out] at h1; omega)]; omega
           clear hm e2 e4
           go_upto_region 17 with fail
           go_quiet (fail)
           obtain ⟨V2, hV2⟩ : ∃ V2, V2 = wr.drewN nq := ⟨_, rfl⟩
           rw [← hV2]
           have HC2 : Hid (Chg [] W V2) := hd (HCR.out.trans (by rw [hV2]; exact chg_drewN _ _) (by simp))
           clear hV2
           clear x6 y6 k0 k1 l0 l1
           go_wp2_with fail
           refine ⟨?_, by simp [intN]; omega⟩
           first | exact ⟨j + 1, vintP (by omega), by omega, HC2⟩ | ((repeat apply Exists.intro); exact ⟨⟨j + 1, vintP (by omega), by omega, HC2⟩, rfl⟩)
         · have q1 : ¬ (j : Int) < (n5 : Int) := by omega
           have x4 := (HCR.out.blk HX.out (by simp)).cell (i := 4) rfl
           have y4 := (HCR.out.blk HY.out (by simp)).cell (i := 4) rfl
           have x5 := (HCR.out.blk HX.out (by simp)).cell (i := 5) rfl
           have y5 := (HCR.out.blk HY.out (by simp)).cell (i := 5) rfl
           go_wp2_with fail
           refine (boxes_in _ ai n3 HN3 a3 b3 c3 d3 B1 B2 (hd (HL3.out.keep (kp_bx _) HCR.out (TyB.nil _ _ _))) (hd (HM3.out.keep (kp_bx _) HCR.out (TyB.nil _ _ _)))).mono ?_
           rintro e9 w9 ⟨rfl, hc9⟩
           have HC9 := hd (HCR.out.trans hc9 (by simp))
           have x5 := cell_quiet hc9 x5 (by simp)
           have y5 := cell_quiet hc9 y5 (by simp)
           clear hc9 x4 y4
           go_wp2_with fail
           refine (boxes_in _ pi n4 HN4 a4 b4 c4 d4 B1 B2 (hd (HL4.out.keep (kp_bx _) HC9.out (TyB.nil _ _ _))) (hd (HM4.out.keep (kp_bx _) HC9.out (TyB.nil _ _ _)))).mono ?_
           rintro e8 w8 ⟨rfl, hc8⟩
           have HC8 := hd (HC9.out.trans hc8 (by simp))
           clear hc8
           go_wp2_with fail
           go_ret
           exact ⟨rfl, HCW.out.trans HC8.out (by simp)⟩
 | true =>
  have huv : u = v := HA.out rfl
  subst huv
  clear HA
  go_wp2_with fail
  clear x0 y0 x1 y1 x2 y2 x3 y3 x4 y4 x5 y5 x6 y6 x7 y7
  go_loopw [7] (fun i0 wr => ∃ j : Nat, i0 = .int .i64 (j : Int) ∧ j ≤ n1 ∧ Hid (Chg [] W wr)) (fun i0 _ => n1 - intN i0)
  case atStart => exact ⟨0, rfl, Nat.zero_le _, hd (Chg.refl _ _)⟩
  case round =>
   obtain ⟨j, rfl, hj, HCR⟩ := hrel
   have x2 := (HCR.out.blk HX.out (by simp)).cell (i := 2) rfl
   have y2 := (HCR.out.blk HY.out (by simp)).cell (i := 2) rfl
   by_cases hlt : j < n1
   · have q0 : (0 : Int) ≤ (j : Int) := by omega
     have q1 : (j : Int) < (n1 : Int) := by omega
     have qj : ((j : Int)).toNat = j := by omega
     obtain ⟨p, q, hp, hq, hsim⟩ := HSB.out.at (i := j) (by rw [HN1.out]; exact hlt)
     have HSI := hd hsim
     obtain ⟨g1, e1', a6, c6, e1, e2, t1, k0, k1, k2⟩ := blk_get (HL1.out.keep (kp_bk _) HCR.out (TyB.nil _ _ _)) hp
     obtain ⟨g2, e2', a7, c7, e3, e4, t2, l0, l1, l2⟩ := blk_get (HM1.out.keep (kp_bk _) HCR.out (TyB.nil _ _ _)) hq
     rw [HN1.out] at e1 e2
     rw [← HSB.out.1, HN1.out] at e3 e4
     simp only [Value.slice.injEq, true_and] at e1 e3
     obtain ⟨rfl, rfl⟩ := e1
     obtain ⟨rfl, rfl⟩ := e3
     have q2 : (j : Int) ≤ (c1 : Int) := by omega
     have q3 : (j : Int) ≤ (d1 : Int) := by omega
     have hw2 : IntKind.i64.wrap ((j : Int) + 1) = ((j + 1 : Nat) : Int) := by rw [IntWalk.i64_in _ (by have h1 := L1.out.len_le; rw [HN1.out] at h1; omega)]; omega
     have T1 := hd t1
     have T2 := hd t2
     have Kk0 := hd k0
     have Kl0 := hd l0
     have Kk1 := hd k1
     have Kl1 := hd l1
     have Kk2 := hd k2
     have Kl2 := hd l2
     have Kx := hd x2
     have Ky := hd y2
     clear hp hq hsim e2 e4 t1 t2 k0 l0 k1 l1 k2 l2
     go_upto_region 6 with fail
     clear x2 y2
     refine wp_region_held_drew (S := fun W' => Chg [] wr W') (by kernel_rfl) (Chg.refl _ _).drew (fun hHeld => ?_)
     refine tk 0 (v := ?vg0) rfl (by kernel_rfl) (fun _ _ _ h => h) ?hyg0 (by assumption) ?rsg0
     case hyg0 => (intro w9 hSw; go_simp; try with_reducible rfl)
     try simp only [qq]
     refine tk 1 (v := ?vg1) rfl (by kernel_rfl) (fun _ _ _ h => h) ?hyg1 (by assumption) ?rsg1
     case hyg1 => (intro w9 hSw; have d0 := cell_quiet hSw Kx.out (by simp); go_simp; try with_reducible rfl)
     try simp only [qq]
     refine tk 2 (v := ?vg2) rfl (by kernel_rfl) (fun _ _ _ h => h) ?hyg2 (by assumption) ?rsg2
     case hyg2 => (intro w9 hSw; go_simp; try with_reducible rfl)
     try simp only [qq]
     refine tk 3 (v := ?vg3) rfl (by kernel_rfl) (fun _ _ _ h => h) ?hyg3 (by assumption) ?rsg3
     case hyg3 => (intro w9 hSw; go_simp; try with_reducible rfl)
     try simp only [qq]
     refine tk 4 (v := ?vg4) rfl (by kernel_rfl) (fun _ _ _ h => h) ?hyg4 (by assumption) ?rsg4
     case hyg4 => (intro w9 hSw; have d0 := cell_quiet hSw Kk0.out (by simp); have d1 := cell_quiet hSw Kk1.out (by simp); have d2 := cell_quiet hSw Kk2.out (by simp); go_simp; try with_reducible rfl)
     try simp only [qq]
     refine tk 5 (v := ?vg5) rfl (by kernel_rfl) (fun _ _ _ h => h) ?hyg5 (by assumption) ?rsg5
     case hyg5 => (intro w9 hSw; go_simp; try with_reducible rfl)
     try simp only [qq]
     refine tk 6 (v := ?vg6) rfl (by kernel_rfl) (fun _ _ _ h => h) ?hyg6 (by assumption) ?rsg6
     case hyg6 => (intro w9 hSw; have d0 := cell_quiet hSw Ky.out (by simp); go_simp; try with_reducible rfl)
     try simp only [qq]
     refine tk 7 (v := ?vg7) rfl (by kernel_rfl) (fun _ _ _ h => h) ?hyg7 (by assumption) ?rsg7
     case hyg7 => (intro w9 hSw; go_simp; try with_reducible rfl)
     try simp only [qq]
     refine tk 8 (v := ?vg8) rfl (by kernel_rfl) (fun _ _ _ h => h) ?hyg8 (by assumption) ?rsg8
     case hyg8 => (intro w9 hSw; go_simp; try with_reducible rfl)
     try simp only [qq]
     refine tk 9 (v := ?vg9) rfl (by kernel_rfl) (fun _ _ _ h => h) ?hyg9 (by assumption) ?rsg9
     case hyg9 => (intro w9 hSw; have d0 := cell_quiet hSw Kl0.out (by simp); have d1 := cell_quiet hSw Kl1.out (by simp); have d2 := cell_quiet hSw Kl2.out (by simp); go_simp; try with_reducible rfl)
     try simp only [qq]
     refine tk 10 (v := ?vg10) rfl (by kernel_rfl) (fun _ _ _ h => h) ?hyg10 (by assumption) ?rsg10
     case hyg10 => (intro w9 hSw; go_simp; try with_reducible rfl)
     try simp only [qq]
     refine rd1 11 (by kernel_rfl) rfl (fun K hK => ?_)
     go_simp
     refine sameblock_r HSI (hd (T1.out.keep (kp_rw _) hHeld (TyB.nil _ _ _))) (hd (T2.out.keep (kp_rw _) hHeld (TyB.nil _ _ _))) (fun w9 hcx => ?_)
     refine hK.out _ _ (hHeld.trans hcx (by simp)) (fun hHeld => ?_)
     clear hK K
     try simp only [qq]
     refine tk 12 (v := ?vg12) rfl (by kernel_rfl) (fun _ _ _ h => h) ?hyg12 (by assumption) ?rsg12
     case hyg12 => (intro w9 hSw; go_simp; try with_reducible rfl)
     try simp only [qq]
     refine wpAnyH_done (by kernel_rfl) ?_ _
     try simp only [qq]
     have HH := hd hHeld
     clear hHeld hcx
     have HC2 := hd (HCR.out.trans HH.out (by simp))
     go_wp2_with fail
     refine ⟨?_, by simp [intN]; omega⟩
     first | exact ⟨j + 1, vintP (by omega), by omega, HC2⟩ | ((repeat apply Exists.intro); exact ⟨⟨j + 1, vintP (by omega), by omega, HC2⟩, rfl⟩)
   · have q1 : ¬ (j : Int) < (n1 : Int) := by omega
     go_wp2_with fail
     clear x2 y2 q1
     go_loopw [8, 9, 10] (fun i0 _ _ wr => ∃ j : Nat, i0 = .int .i64 (j : Int) ∧ j ≤ n2 ∧ Hid (Chg [] W wr)) (fun i0 _ _ _ => n2 - intN i0)
     case atStart => exact ⟨0, rfl, Nat.zero_le _, HCR⟩
     case round =>
      obtain ⟨j, rfl, hj, HCR⟩ := hrel
      have x3 := (HCR.out.blk HX.out (by simp)).cell (i := 3) rfl
      have y3 := (HCR.out.blk HY.out (by simp)).cell (i := 3) rfl
      by_cases hlt : j < n2
      · have q0 : (0 : Int) ≤ (j : Int) := by omega
        have q1 : (j : Int) < (n2 : Int) := by omega
        have qj : ((j : Int)).toNat = j := by omega
        obtain ⟨p, q, hp, hq, hsim⟩ := HSA.out.at (i := j) (by rw [HN2.out]; exact hlt)
        obtain ⟨g1, e1', e1, e2, k0, k1, k2, k3, k4, k5, k6⟩ := are_get (HL2.out.keep (kp_ar _) HCR.out (TyB.nil _ _ _)) hp
        obtain ⟨g2, e2', e3, e4, l0, l1, l2, l3, l4, l5, l6⟩ := are_get (HM2.out.keep (kp_ar _) HCR.out (TyB.nil _ _ _)) hq
        rw [HN2.out] at e1 e2
        rw [← HSA.out.1, HN2.out] at e3 e4
        simp only [Value.slice.injEq, true_and] at e1 e3
        obtain ⟨rfl, rfl⟩ := e1
        obtain ⟨rfl, rfl⟩ := e3
        have q2 : (j : Int) ≤ (c2 : Int) := by omega
        have q3 : (j : Int) ≤ (d2 : Int) := by omega
        have hw2 : IntKind.i64.wrap ((j : Int) + 1) = ((j + 1 : Nat) : Int) := by rw [IntWalk.i64_in _ (by have h1 := L2.out.len_le; rw [HN2.out] at h1; omega)]; omega
        have Kk0 := hd k0
        have Kl0 := hd l0
        have Kk1 := hd k1
        have Kl1 := hd l1
        have Kk2 := hd k2
        have Kl2 := hd l2
        have Kk3 := hd k3
        have Kl3 := hd l3
        have Kk4 := hd k4
        have Kl4 := hd l4
        have Kk5 := hd k5
        have Kl5 := hd l5
        have Kk6 := hd k6
        have Kl6 := hd l6
        have Kx := hd x3
        have Ky := hd y3
        have HSI := hd hsim
        clear hp hq hsim e2 e4 k0 l0 k1 l1 k2 l2 k3 l3 k4 l4 k5 l5 k6 l6
        go_upto_region 11 with fail
        clear x3 y3
        refine wp_region_held_drew (S := fun W' => Chg [] wr W') (by kernel_rfl) (Chg.refl _ _).drew (fun hHeld => ?_)
        obtain ⟨wd, hwd⟩ : ∃ x, x = wr.drew := ⟨_, rfl⟩
        rw [← hwd] at hHeld ⊢
        clear hwd
        refine tk 0 (v := ?vs0) rfl (by kernel_rfl) (fun _ _ _ h => h) ?hys0 (by assumption) ?rss0
        case hys0 => (intro w9 hSw; go_simp; try with_reducible rfl)
        try simp only [qq]
        refine tk 1 (v := ?vs1) rfl (by kernel_rfl) (fun _ _ _ h => h) ?hys1 (by assumption) ?rss1
        case hys1 => (intro w9 hSw; have d0 := cell_quiet hSw Kx.out (by simp); go_simp; try with_reducible rfl)
        try simp only [qq]
        refine tk 2 (v := ?vs2) rfl (by kernel_rfl) (fun _ _ _ h => h) ?hys2 (by assumption) ?rss2
        case hys2 => (intro w9 hSw; go_simp; try with_reducible rfl)
        try simp only [qq]
        refine tk 3 (v := ?vs3) rfl (by kernel_rfl) (fun _ _ _ h => h) ?hys3 (by assumption) ?rss3
        case hys3 => (intro w9 hSw; go_simp; try with_reducible rfl)
        try simp only [qq]
        refine tk 4 (v := ?vs4) rfl (by kernel_rfl) (fun _ _ _ h => h) ?hys4 (by assumption) ?rss4
        case hys4 => (intro w9 hSw; have d0 := cell_quiet hSw Kk0.out (by simp); have d1 := cell_quiet hSw Kk1.out (by simp); have d2 := cell_quiet hSw Kk2.out (by simp); have d3 := cell_quiet hSw Kk3.out (by simp); have d4 := cell_quiet hSw Kk4.out (by simp); have d5 := cell_quiet hSw Kk5.out (by simp); have d6 := cell_quiet hSw Kk6.out (by simp); go_simp; try with_reducible rfl)
        try simp only [qq]
        refine tk 5 (v := ?vs5) rfl (by kernel_rfl) (fun _ _ _ h => h) ?hys5 (by assumption) ?rss5
        case hys5 => (intro w9 hSw; go_simp; try with_reducible rfl)
        try simp only [qq]
        refine tk 6 (v := ?vs6) rfl (by kernel_rfl) (fun _ _ _ h => h) ?hys6 (by assumption) ?rss6
        case hys6 => (intro w9 hSw; have d0 := cell_quiet hSw Ky.out (by simp); go_simp; try with_reducible rfl)
        try simp only [qq]
        refine tk 7 (v := ?vs7) rfl (by kernel_rfl) (fun _ _ _ h => h) ?hys7 (by assumption) ?rss7
        case hys7 => (intro w9 hSw; go_simp; try with_reducible rfl)
        try simp only [qq]
        refine tk 8 (v := ?vs8) rfl (by kernel_rfl) (fun _ _ _ h => h) ?hys8 (by assumption) ?rss8
        case hys8 => (intro w9 hSw; go_simp; try with_reducible rfl)
        try simp only [qq]
        refine tk 9 (v := ?vs9) rfl (by kernel_rfl) (fun _ _ _ h => h) ?hys9 (by assumption) ?rss9
        case hys9 => (intro w9 hSw; have d0 := cell_quiet hSw Kl0.out (by simp); have d1 := cell_quiet hSw Kl1.out (by simp); have d2 := cell_quiet hSw Kl2.out (by simp); have d3 := cell_quiet hSw Kl3.out (by simp); have d4 := cell_quiet hSw Kl4.out (by simp); have d5 := cell_quiet hSw Kl5.out (by simp); have d6 := cell_quiet hSw Kl6.out (by simp); go_simp; try with_reducible rfl)
        try simp only [qq]
        refine rd2 10 11 (by kernel_rfl) rfl rfl (fun K hK => ?_) (fun K hK => ?_)
        · skip
          go_simp
          obtain ⟨va, hv⟩ : ∃ x, x = wd.alloc (.cells #[.string ⟨#[]⟩, .int .i64 0, .int .i64 0, .int .i64 0, .int .i64 0, .int .i64 0, .int .i64 0] 58) := ⟨_, rfl⟩
          rw [← hv]
          obtain ⟨T9, hT⟩ : ∃ T, T = wd.heap.size := ⟨_, rfl⟩
          rw [← hT]
          have HT9 : Hid (Blk va T9 [.string ⟨#[]⟩, .int .i64 0, .int .i64 0, .int .i64 0, .int .i64 0, .int .i64 0, .int .i64 0] 58) := hd (by rw [hv, hT]; exact Blk.new wd _ _)
          have HGT9 : Hid (wr.heap.size ≤ T9) := hd (by rw [hT]; exact hHeld.size)
          refine hK.out _ _ (by rw [hv]; exact hHeld.alloc _) (fun hHeld => ?_)
          clear hK K hv hT
          try simp only [qq]
          refine rd1 11 (by kernel_rfl) rfl (fun K hK => ?_)
          go_simp
          obtain ⟨vb, hv⟩ : ∃ x, x = va.alloc (.cells #[.string ⟨#[]⟩, .int .i64 0, .int .i64 0, .int .i64 0, .int .i64 0, .int .i64 0, .int .i64 0] 58) := ⟨_, rfl⟩
          rw [← hv]
          obtain ⟨T10, hT⟩ : ∃ T, T = va.heap.size := ⟨_, rfl⟩
          rw [← hT]
          have HT10 : Hid (Blk vb T10 [.string ⟨#[]⟩, .int .i64 0, .int .i64 0, .int .i64 0, .int .i64 0, .int .i64 0, .int .i64 0] 58) := hd (by rw [hv, hT]; exact Blk.new va _ _)
          have HGT10 : Hid (wr.heap.size ≤ T10) := hd (by rw [hT]; exact hHeld.size)
          have HBT9 := hd (HT9.out.alE hv)
          have N1 : ¬ T10 = T9 := by have := HT9.out.lt; omega
          have N2 : ¬ T9 = T10 := by omega
          have HBT10 := HT10
          refine hK.out _ _ (by rw [hv]; exact hHeld.alloc _) (fun hHeld => ?_)
          clear hK K hv hT HT9 HT10
          try simp only [qq]
          refine rd1 12 (by kernel_rfl) rfl (fun K hK => ?_)
          obtain ⟨z0, z1, z2, z3, z4, z5, z6⟩ := HBT9.out.c7
          obtain ⟨f0, f1, f2, f3, f4, f5, f6⟩ := HBT9.out.f7
          go_simp
          obtain ⟨vc, hv⟩ : ∃ x, x = (((((((vb.setCell ⟨T9, 0, none⟩ (.string ⟨p.name.toArray⟩)).setCell ⟨T9, 1, none⟩ (.int .i64 (p.box.x : Nat))).setCell ⟨T9, 2, none⟩ (.int .i64 (p.box.y : Nat))).setCell ⟨T9, 3, none⟩ (.int .i64 (p.box.x2 : Nat))).setCell ⟨T9, 4, none⟩ (.int .i64 (p.box.y2 : Nat))).setCell ⟨T9, 5, none⟩ (.int .i64 (p.holds : Nat))).setCell ⟨T9, 6, none⟩ (.int .i64 (p.at_ : Nat))) := ⟨_, rfl⟩
          rw [← hv]
          have HBnT9 : Hid (Blk vc T9 [.string ⟨p.name.toArray⟩, .int .i64 (p.box.x : Nat), .int .i64 (p.box.y : Nat), .int .i64 (p.box.x2 : Nat), .int .i64 (p.box.y2 : Nat), .int .i64 (p.holds : Nat), .int .i64 (p.at_ : Nat)] 58) := hd (by rw [hv]; exact (((((((HBT9.out.set 0 _).set 1 _).set 2 _).set 3 _).set 4 _).set 5 _).set 6 _))
          have HBnT10 := hd (HBT10.out.o7 hv N1)
          clear HBT9 HBT10 z0 f0 z1 f1 z2 f2 z3 f3 z4 f4 z5 f5 z6 f6
          have HBT9 := HBnT9
          have HBT10 := HBnT10
          clear HBnT9 HBnT10
          refine hK.out _ _ (by rw [hv]; exact (((((((hHeld.setCell _ _ (.inr (by show _ ≤ T9; exact HGT9.out))).setCell _ _ (.inr (by show _ ≤ T9; exact HGT9.out))).setCell _ _ (.inr (by show _ ≤ T9; exact HGT9.out))).setCell _ _ (.inr (by show _ ≤ T9; exact HGT9.out))).setCell _ _ (.inr (by show _ ≤ T9; exact HGT9.out))).setCell _ _ (.inr (by show _ ≤ T9; exact HGT9.out))).setCell _ _ (.inr (by show _ ≤ T9; exact HGT9.out)))) (fun hHeld => ?_)
          clear hK K hv
          try simp only [qq]
          refine rd1 13 (by kernel_rfl) rfl (fun K hK => ?_)
          obtain ⟨z0, z1, z2, z3, z4, z5, z6⟩ := HBT10.out.c7
          obtain ⟨f0, f1, f2, f3, f4, f5, f6⟩ := HBT10.out.f7
          go_simp
          obtain ⟨vd, hv⟩ : ∃ x, x = (((((((vc.setCell ⟨T10, 0, none⟩ (.string ⟨q.name.toArray⟩)).setCell ⟨T10, 1, none⟩ (.int .i64 (q.box.x : Nat))).setCell ⟨T10, 2, none⟩ (.int .i64 (q.box.y : Nat))).setCell ⟨T10, 3, none⟩ (.int .i64 (q.box.x2 : Nat))).setCell ⟨T10, 4, none⟩ (.int .i64 (q.box.y2 : Nat))).setCell ⟨T10, 5, none⟩ (.int .i64 (q.holds : Nat))).setCell ⟨T10, 6, none⟩ (.int .i64 (q.at_ : Nat))) := ⟨_, rfl⟩
          rw [← hv]
          have HBnT10 : Hid (Blk vd T10 [.string ⟨q.name.toArray⟩, .int .i64 (q.box.x : Nat), .int .i64 (q.box.y : Nat), .int .i64 (q.box.x2 : Nat), .int .i64 (q.box.y2 : Nat), .int .i64 (q.holds : Nat), .int .i64 (q.at_ : Nat)] 58) := hd (by rw [hv]; exact (((((((HBT10.out.set 0 _).set 1 _).set 2 _).set 3 _).set 4 _).set 5 _).set 6 _))
          have HBnT9 : Hid (Blk vd T9 [.string ⟨p.name.toArray⟩, .int .i64 (p.box.x : Nat), .int .i64 (p.box.y : Nat), .int .i64 (p.box.x2 : Nat), .int .i64 (p.box.y2 : Nat), .int .i64 (p.holds : Nat), .int .i64 (p.at_ : Nat)] 58) := hd (by rw [hv]; exact (((((((HBT9.out.other ⟨T10, 0, none⟩ _ N2).other ⟨T10, 1, none⟩ _ N2).other ⟨T10, 2, none⟩ _ N2).other ⟨T10, 3, none⟩ _ N2).other ⟨T10, 4, none⟩ _ N2).other ⟨T10, 5, none⟩ _ N2).other ⟨T10, 6, none⟩ _ N2))
          clear HBT9 HBT10 z0 f0 z1 f1 z2 f2 z3 f3 z4 f4 z5 f5 z6 f6
          have HBT9 := HBnT9
          have HBT10 := HBnT10
          clear HBnT9 HBnT10
          refine hK.out _ _ (by rw [hv]; exact (((((((hHeld.setCell _ _ (.inr (by show _ ≤ T10; exact HGT10.out))).setCell _ _ (.inr (by show _ ≤ T10; exact HGT10.out))).setCell _ _ (.inr (by show _ ≤ T10; exact HGT10.out))).setCell _ _ (.inr (by show _ ≤ T10; exact HGT10.out))).setCell _ _ (.inr (by show _ ≤ T10; exact HGT10.out))).setCell _ _ (.inr (by show _ ≤ T10; exact HGT10.out))).setCell _ _ (.inr (by show _ ≤ T10; exact HGT10.out)))) (fun hHeld => ?_)
          clear hK K hv
          try simp only [qq]
          refine wpAnyH_done (by kernel_rfl) ?_ _
          try simp only [qq]
          have HH := hd hHeld
          clear hHeld
          have HBq : Hid (Blk vd T10 [.string ⟨q.name.toArray⟩, .int .i64 (q.box.x : Nat), .int .i64 (q.box.y : Nat), .int .i64 (q.box.x2 : Nat), .int .i64 (q.box.y2 : Nat), .int .i64 (q.holds : Nat), .int .i64 (q.at_ : Nat)] 58) := HBT10
          obtain ⟨⟨s1, s2, s3⟩, s4⟩ := HSI.out
          rw [← s1, ← s2, ← s3] at HBq
          have s5 : p.at_ = q.at_ := s4 rfl
          rw [← s5] at HBq
          obtain ⟨u0, u1, u2, u3, u4, u5, u6⟩ := HBT9.out.c7
          obtain ⟨t0, t1, t2, t3, t4, t5, t6⟩ := HBq.out.c7
          have HC2 := hd (HCR.out.trans HH.out (by simp))
          clear s1 s2 s3 s4 s5 N1 N2
          go_wp2_with fail
          refine ⟨?_, by simp [intN]; omega⟩
          first | exact ⟨j + 1, vintP (by omega), by omega, HC2⟩ | ((repeat apply Exists.intro); exact ⟨⟨j + 1, vintP (by omega), by omega, HC2⟩, rfl⟩)
        · skip
          go_simp
          obtain ⟨va, hv⟩ : ∃ x, x = wd.alloc (.cells #[.string ⟨#[]⟩, .int .i64 0, .int .i64 0, .int .i64 0, .int .i64 0, .int .i64 0, .int .i64 0] 58) := ⟨_, rfl⟩
          rw [← hv]
          obtain ⟨T10, hT⟩ : ∃ T, T = wd.heap.size := ⟨_, rfl⟩
          rw [← hT]
          have HT10 : Hid (Blk va T10 [.string ⟨#[]⟩, .int .i64 0, .int .i64 0, .int .i64 0, .int .i64 0, .int .i64 0, .int .i64 0] 58) := hd (by rw [hv, hT]; exact Blk.new wd _ _)
          have HGT10 : Hid (wr.heap.size ≤ T10) := hd (by rw [hT]; exact hHeld.size)
          refine hK.out _ _ (by rw [hv]; exact hHeld.alloc _) (fun hHeld => ?_)
          clear hK K hv hT
          try simp only [qq]
          refine rd1 10 (by kernel_rfl) rfl (fun K hK => ?_)
          go_simp
          obtain ⟨vb, hv⟩ : ∃ x, x = va.alloc (.cells #[.string ⟨#[]⟩, .int .i64 0, .int .i64 0, .int .i64 0, .int .i64 0, .int .i64 0, .int .i64 0] 58) := ⟨_, rfl⟩
          rw [← hv]
          obtain ⟨T9, hT⟩ : ∃ T, T = va.heap.size := ⟨_, rfl⟩
          rw [← hT]
          have HT9 : Hid (Blk vb T9 [.string ⟨#[]⟩, .int .i64 0, .int .i64 0, .int .i64 0, .int .i64 0, .int .i64 0, .int .i64 0] 58) := hd (by rw [hv, hT]; exact Blk.new va _ _)
          have HGT9 : Hid (wr.heap.size ≤ T9) := hd (by rw [hT]; exact hHeld.size)
          have HBT10 := hd (HT10.out.alE hv)
          have N1 : ¬ T9 = T10 := by have := HT10.out.lt; omega
          have N2 : ¬ T10 = T9 := by omega
          have HBT9 := HT9
          refine hK.out _ _ (by rw [hv]; exact hHeld.alloc _) (fun hHeld => ?_)
          clear hK K hv hT HT9 HT10
          try simp only [qq]
          refine rd1 12 (by kernel_rfl) rfl (fun K hK => ?_)
          obtain ⟨z0, z1, z2, z3, z4, z5, z6⟩ := HBT9.out.c7
          obtain ⟨f0, f1, f2, f3, f4, f5, f6⟩ := HBT9.out.f7
          go_simp
          obtain ⟨vc, hv⟩ : ∃ x, x = (((((((vb.setCell ⟨T9, 0, none⟩ (.string ⟨p.name.toArray⟩)).setCell ⟨T9, 1, none⟩ (.int .i64 (p.box.x : Nat))).setCell ⟨T9, 2, none⟩ (.int .i64 (p.box.y : Nat))).setCell ⟨T9, 3, none⟩ (.int .i64 (p.box.x2 : Nat))).setCell ⟨T9, 4, none⟩ (.int .i64 (p.box.y2 : Nat))).setCell ⟨T9, 5, none⟩ (.int .i64 (p.holds : Nat))).setCell ⟨T9, 6, none⟩ (.int .i64 (p.at_ : Nat))) := ⟨_, rfl⟩
          rw [← hv]
          have HBnT9 : Hid (Blk vc T9 [.string ⟨p.name.toArray⟩, .int .i64 (p.box.x : Nat), .int .i64 (p.box.y : Nat), .int .i64 (p.box.x2 : Nat), .int .i64 (p.box.y2 : Nat), .int .i64 (p.holds : Nat), .int .i64 (p.at_ : Nat)] 58) := hd (by rw [hv]; exact (((((((HBT9.out.set 0 _).set 1 _).set 2 _).set 3 _).set 4 _).set 5 _).set 6 _))
          have HBnT10 := hd (HBT10.out.o7 hv N2)
          clear HBT9 HBT10 z0 f0 z1 f1 z2 f2 z3 f3 z4 f4 z5 f5 z6 f6
          have HBT9 := HBnT9
          have HBT10 := HBnT10
          clear HBnT9 HBnT10
          refine hK.out _ _ (by rw [hv]; exact (((((((hHeld.setCell _ _ (.inr (by show _ ≤ T9; exact HGT9.out))).setCell _ _ (.inr (by show _ ≤ T9; exact HGT9.out))).setCell _ _ (.inr (by show _ ≤ T9; exact HGT9.out))).setCell _ _ (.inr (by show _ ≤ T9; exact HGT9.out))).setCell _ _ (.inr (by show _ ≤ T9; exact HGT9.out))).setCell _ _ (.inr (by show _ ≤ T9; exact HGT9.out))).setCell _ _ (.inr (by show _ ≤ T9; exact HGT9.out)))) (fun hHeld => ?_)
          clear hK K hv
          try simp only [qq]
          refine rd1 13 (by kernel_rfl) rfl (fun K hK => ?_)
          obtain ⟨z0, z1, z2, z3, z4, z5, z6⟩ := HBT10.out.c7
          obtain ⟨f0, f1, f2, f3, f4, f5, f6⟩ := HBT10.out.f7
          go_simp
          obtain ⟨vd, hv⟩ : ∃ x, x = (((((((vc.setCell ⟨T10, 0, none⟩ (.string ⟨q.name.toArray⟩)).setCell ⟨T10, 1, none⟩ (.int .i64 (q.box.x : Nat))).setCell ⟨T10, 2, none⟩ (.int .i64 (q.box.y : Nat))).setCell ⟨T10, 3, none⟩ (.int .i64 (q.box.x2 : Nat))).setCell ⟨T10, 4, none⟩ (.int .i64 (q.box.y2 : Nat))).setCell ⟨T10, 5, none⟩ (.int .i64 (q.holds : Nat))).setCell ⟨T10, 6, none⟩ (.int .i64 (q.at_ : Nat))) := ⟨_, rfl⟩
          rw [← hv]
          have HBnT10 : Hid (Blk vd T10 [.string ⟨q.name.toArray⟩, .int .i64 (q.box.x : Nat), .int .i64 (q.box.y : Nat), .int .i64 (q.box.x2 : Nat), .int .i64 (q.box.y2 : Nat), .int .i64 (q.holds : Nat), .int .i64 (q.at_ : Nat)] 58) := hd (by rw [hv]; exact (((((((HBT10.out.set 0 _).set 1 _).set 2 _).set 3 _).set 4 _).set 5 _).set 6 _))
          have HBnT9 : Hid (Blk vd T9 [.string ⟨p.name.toArray⟩, .int .i64 (p.box.x : Nat), .int .i64 (p.box.y : Nat), .int .i64 (p.box.x2 : Nat), .int .i64 (p.box.y2 : Nat), .int .i64 (p.holds : Nat), .int .i64 (p.at_ : Nat)] 58) := hd (by rw [hv]; exact (((((((HBT9.out.other ⟨T10, 0, none⟩ _ N1).other ⟨T10, 1, none⟩ _ N1).other ⟨T10, 2, none⟩ _ N1).other ⟨T10, 3, none⟩ _ N1).other ⟨T10, 4, none⟩ _ N1).other ⟨T10, 5, none⟩ _ N1).other ⟨T10, 6, none⟩ _ N1))
          clear HBT9 HBT10 z0 f0 z1 f1 z2 f2 z3 f3 z4 f4 z5 f5 z6 f6
          have HBT9 := HBnT9
          have HBT10 := HBnT10
          clear HBnT9 HBnT10
          refine hK.out _ _ (by rw [hv]; exact (((((((hHeld.setCell _ _ (.inr (by show _ ≤ T10; exact HGT10.out))).setCell _ _ (.inr (by show _ ≤ T10; exact HGT10.out))).setCell _ _ (.inr (by show _ ≤ T10; exact HGT10.out))).setCell _ _ (.inr (by show _ ≤ T10; exact HGT10.out))).setCell _ _ (.inr (by show _ ≤ T10; exact HGT10.out))).setCell _ _ (.inr (by show _ ≤ T10; exact HGT10.out))).setCell _ _ (.inr (by show _ ≤ T10; exact HGT10.out)))) (fun hHeld => ?_)
          clear hK K hv
          try simp only [qq]
          refine wpAnyH_done (by kernel_rfl) ?_ _
          try simp only [qq]
          have HH := hd hHeld
          clear hHeld
          have HBq : Hid (Blk vd T10 [.string ⟨q.name.toArray⟩, .int .i64 (q.box.x : Nat), .int .i64 (q.box.y : Nat), .int .i64 (q.box.x2 : Nat), .int .i64 (q.box.y2 : Nat), .int .i64 (q.holds : Nat), .int .i64 (q.at_ : Nat)] 58) := HBT10
          obtain ⟨⟨s1, s2, s3⟩, s4⟩ := HSI.out
          rw [← s1, ← s2, ← s3] at HBq
          have s5 : p.at_ = q.at_ := s4 rfl
          rw [← s5] at HBq
          obtain ⟨u0, u1, u2, u3, u4, u5, u6⟩ := HBT9.out.c7
          obtain ⟨t0, t1, t2, t3, t4, t5, t6⟩ := HBq.out.c7
          have HC2 := hd (HCR.out.trans HH.out (by simp))
          clear s1 s2 s3 s4 s5 N1 N2
          go_wp2_with fail
          refine ⟨?_, by simp [intN]; omega⟩
          first | exact ⟨j + 1, vintP (by omega), by omega, HC2⟩ | ((repeat apply Exists.intro); exact ⟨⟨j + 1, vintP (by omega), by omega, HC2⟩, rfl⟩)
      · have q1 : ¬ (j : Int) < (n2 : Int) := by omega
        go_wp2_with fail
        clear x3 y3 q1
        go_loopw [11] (fun i0 wr => ∃ j : Nat, i0 = .int .i64 (j : Int) ∧ j ≤ n5 ∧ Hid (Chg [] W wr)) (fun i0 _ => n5 - intN i0)
        case atStart => exact ⟨0, rfl, Nat.zero_le _, HCR⟩
        case round =>
         obtain ⟨j, rfl, hj, HCR⟩ := hrel
         have x6 := (HCR.out.blk HX.out (by simp)).cell (i := 6) rfl
         have y6 := (HCR.out.blk HY.out (by simp)).cell (i := 6) rfl
         by_cases hlt : j < n5
         · have q0 : (0 : Int) ≤ (j : Int) := by omega
           have q1 : (j : Int) < (n5 : Int) := by omega
           have qj : ((j : Int)).toNat = j := by omega
           obtain ⟨m, hm⟩ : ∃ m, ds[j]? = some m := ⟨ds[j]'(by rw [HN5.out]; exact hlt), by simp⟩
           obtain ⟨g1, e1', e1, e2, k0, k1⟩ := pnt_get (HL5.out.keep (kp_pt _) HCR.out (TyB.nil _ _ _)) hm
           obtain ⟨g2, e2', e3, e4, l0, l1⟩ := pnt_get (HM5.out.keep (kp_pt _) HCR.out (TyB.nil _ _ _)) hm
           rw [HN5.out] at e1 e2 e3 e4
           simp only [Value.slice.injEq, true_and] at e1 e3
           obtain ⟨rfl, rfl⟩ := e1
           obtain ⟨rfl, rfl⟩ := e3
           have q2 : (j : Int) ≤ (c5 : Int) := by omega
           have q3 : (j : Int) ≤ (d5 : Int) := by omega
           have hw2 : IntKind.i64.wrap ((j : Int) + 1) = ((j + 1 : Nat) : Int) := by rw [IntWalk.i64_in _ (by have h1 := L5.out.len_le; rw [HN5.out] at h1; omega)]; omega
           clear hm e2 e4
           go_upto_region 17 with fail
           go_quiet (fail)
           obtain ⟨V2, hV2⟩ : ∃ V2, V2 = wr.drewN nq := ⟨_, rfl⟩
           rw [← hV2]
           have HC2 : Hid (Chg [] W V2) := hd (HCR.out.trans (by rw [hV2]; exact chg_drewN _ _) (by simp))
           clear hV2
           clear x6 y6 k0 k1 l0 l1
           go_wp2_with fail
           refine ⟨?_, by simp [intN]; omega⟩
           first | exact ⟨j + 1, vintP (by omega), by omega, HC2⟩ | ((repeat apply Exists.intro); exact ⟨⟨j + 1, vintP (by omega), by omega, HC2⟩, rfl⟩)
         · have q1 : ¬ (j : Int) < (n5 : Int) := by omega
           have x4 := (HCR.out.blk HX.out (by simp)).cell (i := 4) rfl
           have y4 := (HCR.out.blk HY.out (by simp)).cell (i := 4) rfl
           have x5 := (HCR.out.blk HX.out (by simp)).cell (i := 5) rfl
           have y5 := (HCR.out.blk HY.out (by simp)).cell (i := 5) rfl
           go_wp2_with fail
           refine (boxes_in _ ai n3 HN3 a3 b3 c3 d3 B1 B2 (hd (HL3.out.keep (kp_bx _) HCR.out (TyB.nil _ _ _))) (hd (HM3.out.keep (kp_bx _) HCR.out (TyB.nil _ _ _)))).mono ?_
           rintro e9 w9 ⟨rfl, hc9⟩
           have HC9 := hd (HCR.out.trans hc9 (by simp))
           have x5 := cell_quiet hc9 x5 (by simp)
           have y5 := cell_quiet hc9 y5 (by simp)
           clear hc9 x4 y4
           go_wp2_with fail
           refine (boxes_in _ pi n4 HN4 a4 b4 c4 d4 B1 B2 (hd (HL4.out.keep (kp_bx _) HC9.out (TyB.nil _ _ _))) (hd (HM4.out.keep (kp_bx _) HC9.out (TyB.nil _ _ _)))).mono ?_
           rintro e8 w8 ⟨rfl, hc8⟩
           have HC8 := hd (HC9.out.trans hc8 (by simp))
           clear hc8
           go_wp2_with fail
           go_ret
           exact ⟨rfl, HCW.out.trans HC8.out (by simp)⟩
theorem samelevel_r {w : World} {b : Bool} {p q : Pn.Lv} (HS : Hid (SimV b p q)) {a1 a2 a3 a4 a5 b1 b2 b3 b4 b5 : Option Addr} {c1 c2 c3 c4 c5 d1 d2 d3 d4 d5 B1 B2 : Nat} (H1 : Hid (LvL B1 p (.slice a1 p.blocks.length c1) (.slice a2 p.areas.length c2) (.slice a3 p.aisles.length c3) (.slice a4 p.pillars.length c4) (.slice a5 p.doors.length c5) w)) (H2 : Hid (LvL B2 q (.slice b1 q.blocks.length d1) (.slice b2 q.areas.length d2) (.slice b3 q.aisles.length d3) (.slice b4 q.pillars.length d4) (.slice b5 q.doors.length d5) w)) {R : Ending → World → Prop} (h : ∀ w', Chg [] w w' → R (.returned (.bool true)) w') :
 Calls Tryd.prog 16 #[.agg #[.string ⟨p.name.toArray⟩, .int .i64 (p.height : Nat), .slice a1 p.blocks.length c1, .slice a2 p.areas.length c2, .slice a3 p.aisles.length c3, .slice a4 p.pillars.length c4, .slice a5 p.doors.length c5, .int .i64 (p.at_ : Nat)], .agg #[.string ⟨q.name.toArray⟩, .int .i64 (q.height : Nat), .slice b1 q.blocks.length d1, .slice b2 q.areas.length d2, .slice b3 q.aisles.length d3, .slice b4 q.pillars.length d4, .slice b5 q.doors.length d5, .int .i64 (q.at_ : Nat)], .bool b] w R := by
 obtain ⟨⟨h1, h2, h3, h4, h5, h6, h7⟩, h8⟩ := HS.out
 obtain ⟨u1, u2, u3, u4, u5⟩ := H1.out
 obtain ⟨v1, v2, v3, v4, v5⟩ := H2.out
 rw [← h3.1] at v1
 rw [← h4.1] at v2
 rw [← h5] at v3
 rw [← h6] at v4
 rw [← h7] at v5
 rw [← h1, ← h2, ← h3.1, ← h4.1, ← h5, ← h6, ← h7]
 refine (samelevel_in w b p.name p.height p.at_ q.at_ (hd h8) p.blocks q.blocks (hd h3) p.areas q.areas (hd h4) p.aisles p.pillars p.doors _ _ _ _ _ (hd rfl) (hd rfl) (hd rfl) (hd rfl) (hd rfl) a1 a2 a3 a4 a5 b1 b2 b3 b4 b5 c1 c2 c3 c4 c5 d1 d2 d3 d4 d5 B1 B2 (hd u1) (hd u2) (hd u3) (hd u4) (hd u5) (hd v1) (hd v2) (hd v3) (hd v4) (hd v5)).mono ?_
 rintro e w' ⟨rfl, hc⟩
 exact h w' hc
set_option maxHeartbeats 4000000 in
set_option maxRecDepth 100000 in
theorem same_in (w : World) (b : Bool) (nm : Bytes) (sx sy : Nat) (ls ms : List Pn.Lv) (HS : Hid (SimL (SimV b) ls ms)) (n : Nat) (HN : Hid (ls.length = n)) (a1 a2 : Option Addr) (c1 c2 B1 B2 : Nat) (H1 : Hid (ListS B1 47 8 (Clv B1) ls (.slice a1 n c1) w)) (H2 : Hid (ListS B2 47 8 (Clv B2) ms (.slice a2 n c2) w)) :
 Calls Tryd.prog 12 #[.agg #[.string ⟨nm.toArray⟩, .int .i64 (sx : Nat), .int .i64 (sy : Nat), .slice a1 n c1], .agg #[.string ⟨nm.toArray⟩, .int .i64 (sx : Nat), .int .i64 (sy : Nat), .slice a2 n c2], .bool b] w fun e w' => e = .returned (.bool true) ∧ Chg [] w w' := by
 go_enter Tryd.func12, Tryd.ntmps12
 go_upto_region 1 with fail
 obtain ⟨W, hW⟩ : ∃ W, W = (w.alloc (.cells #[.string ⟨nm.toArray⟩, .int .i64 (sx : Nat), .int .i64 (sy : Nat), .slice a1 n c1] 27)).alloc (.cells #[.string ⟨nm.toArray⟩, .int .i64 (sx : Nat), .int .i64 (sy : Nat), .slice a2 n c2] 27) := ⟨_, rfl⟩
 rw [← hW]
 obtain ⟨Y, hY⟩ : ∃ Y, Y = w.heap.size + 1 := ⟨_, rfl⟩
 rw [← hY]
 obtain ⟨X, hX⟩ : ∃ X, X = w.heap.size := ⟨_, rfl⟩
 rw [← hX]
 have HX : Hid (Blk W X [.string ⟨nm.toArray⟩, .int .i64 (sx : Nat), .int .i64 (sy : Nat), .slice a1 n c1] 27) := hd (by rw [hW, hX]; exact (Blk.new w _ _).alloc _)
 have HY : Hid (Blk W Y [.string ⟨nm.toArray⟩, .int .i64 (sx : Nat), .int .i64 (sy : Nat), .slice a2 n c2] 27) := hd (by rw [hW, hY]; have := Blk.new (w.alloc (.cells #[.string ⟨nm.toArray⟩, .int .i64 (sx : Nat), .int .i64 (sy : Nat), .slice a1 n c1] 27)) [.string ⟨nm.toArray⟩, .int .i64 (sx : Nat), .int .i64 (sy : Nat), .slice a2 n c2] 27; simpa using this)
 have HCW : Hid (Chg [] w W) := hd (by rw [hW]; exact ((Chg.refl _ _).alloc _).alloc _)
 clear hW hX hY
 obtain ⟨x0, x1, x2, x3⟩ := HX.out.c4
 obtain ⟨y0, y1, y2, y3⟩ := HY.out.c4
 have HL1 := hd (H1.out.keep (kp_lv _) HCW.out (TyB.nil _ _ _))
 have HL2 := hd (H2.out.keep (kp_lv _) HCW.out (TyB.nil _ _ _))
 go_wp2_with fail
 clear x0 x1 x2 x3 y0 y1 y2 y3
 go_loopw [7] (fun i0 wr => ∃ j : Nat, i0 = .int .i64 (j : Int) ∧ j ≤ n ∧ Hid (Chg [] W wr)) (fun i0 _ => n - intN i0)
 case atStart => exact ⟨0, rfl, Nat.zero_le _, hd (Chg.refl _ _)⟩
 case round =>
  obtain ⟨j, rfl, hj, HCR⟩ := hrel
  have x3 := (HCR.out.blk HX.out (by simp)).cell (i := 3) rfl
  have y3 := (HCR.out.blk HY.out (by simp)).cell (i := 3) rfl
  by_cases hlt : j < n
  · have q0 : (0 : Int) ≤ (j : Int) := by omega
    have q1 : (j : Int) < (n : Int) := by omega
    have qj : ((j : Int)).toNat = j := by omega
    obtain ⟨p, q, hp, hq, hsim⟩ := HS.out.at (i := j) (by rw [HN.out]; exact hlt)
    have HSI := hd hsim
    obtain ⟨g1, e1', p1, s1, p2, s2, p3, s3, p4, s4, p5, s5, e1, e2, t1, t2, t3, t4, t5, k0, k1, k2, k3, k4, k5, k6, k7⟩ := lev_get (HL1.out.keep (kp_lv _) HCR.out (TyB.nil _ _ _)) hp
    obtain ⟨g2, e2', p6, s6, p7, s7, p8, s8, p9, s9, p0, s0, e3, e4, r1, r2, r3, r4, r5, l0, l1, l2, l3, l4, l5, l6, l7⟩ := lev_get (HL2.out.keep (kp_lv _) HCR.out (TyB.nil _ _ _)) hq
    rw [HN.out] at e1 e2
    rw [← HS.out.1, HN.out] at e3 e4
    simp only [Value.slice.injEq, true_and] at e1 e3
    obtain ⟨rfl, rfl⟩ := e1
    obtain ⟨rfl, rfl⟩ := e3
    have q2 : (j : Int) ≤ (c1 : Int) := by omega
    have q3 : (j : Int) ≤ (c2 : Int) := by omega
    have hw2 : IntKind.i64.wrap ((j : Int) + 1) = ((j + 1 : Nat) : Int) := by rw [IntWalk.i64_in _ (by have h1 := H1.out.len_le; rw [HN.out] at h1; omega)]; omega
    have T1 : Hid (LvL B1 p (.slice p1 p.blocks.length s1) (.slice p2 p.areas.length s2) (.slice p3 p.aisles.length s3) (.slice p4 p.pillars.length s4) (.slice p5 p.doors.length s5) wr) := hd ⟨t1, t2, t3, t4, t5⟩
    have T2 : Hid (LvL B2 q (.slice p6 q.blocks.length s6) (.slice p7 q.areas.length s7) (.slice p8 q.aisles.length s8) (.slice p9 q.pillars.length s9) (.slice p0 q.doors.length s0) wr) := hd ⟨r1, r2, r3, r4, r5⟩
    have Kk0 := hd k0
    have Kl0 := hd l0
    have Kk1 := hd k1
    have Kl1 := hd l1
    have Kk2 := hd k2
    have Kl2 := hd l2
    have Kk3 := hd k3
    have Kl3 := hd l3
    have Kk4 := hd k4
    have Kl4 := hd l4
    have Kk5 := hd k5
    have Kl5 := hd l5
    have Kk6 := hd k6
    have Kl6 := hd l6
    have Kk7 := hd k7
    have Kl7 := hd l7
    have Kx := hd x3
    have Ky := hd y3
    clear hp hq hsim e2 e4 t1 t2 t3 t4 t5 r1 r2 r3 r4 r5 k0 l0 k1 l1 k2 l2 k3 l3 k4 l4 k5 l5 k6 l6 k7 l7
    go_upto_region 6 with fail
    clear x3 y3
    refine wp_region_held_drew (S := fun W' => Chg [] wr W') (by kernel_rfl) (Chg.refl _ _).drew (fun hHeld => ?_)
    refine tk 0 (v := ?vh0) rfl (by kernel_rfl) (fun _ _ _ h => h) ?hyh0 (by assumption) ?rsh0
    case hyh0 => (intro w9 hSw; go_simp; try with_reducible rfl)
    try simp only [qq]
    refine tk 1 (v := ?vh1) rfl (by kernel_rfl) (fun _ _ _ h => h) ?hyh1 (by assumption) ?rsh1
    case hyh1 => (intro w9 hSw; have d0 := cell_quiet hSw Kx.out (by simp); go_simp; try with_reducible rfl)
    try simp only [qq]
    refine tk 2 (v := ?vh2) rfl (by kernel_rfl) (fun _ _ _ h => h) ?hyh2 (by assumption) ?rsh2
    case hyh2 => (intro w9 hSw; go_simp; try with_reducible rfl)
    try simp only [qq]
    refine tk 3 (v := ?vh3) rfl (by kernel_rfl) (fun _ _ _ h => h) ?hyh3 (by assumption) ?rsh3
    case hyh3 => (intro w9 hSw; go_simp; try with_reducible rfl)
    try simp only [qq]
    refine tk 4 (v := ?vh4) rfl (by kernel_rfl) (fun _ _ _ h => h) ?hyh4 (by assumption) ?rsh4
    case hyh4 => (intro w9 hSw; have d0 := cell_quiet hSw Kk0.out (by simp); have d1 := cell_quiet hSw Kk1.out (by simp); have d2 := cell_quiet hSw Kk2.out (by simp); have d3 := cell_quiet hSw Kk3.out (by simp); have d4 := cell_quiet hSw Kk4.out (by simp); have d5 := cell_quiet hSw Kk5.out (by simp); have d6 := cell_quiet hSw Kk6.out (by simp); have d7 := cell_quiet hSw Kk7.out (by simp); go_simp; try with_reducible rfl)
    try simp only [qq]
    refine tk 5 (v := ?vh5) rfl (by kernel_rfl) (fun _ _ _ h => h) ?hyh5 (by assumption) ?rsh5
    case hyh5 => (intro w9 hSw; go_simp; try with_reducible rfl)
    try simp only [qq]
    refine tk 6 (v := ?vh6) rfl (by kernel_rfl) (fun _ _ _ h => h) ?hyh6 (by assumption) ?rsh6
    case hyh6 => (intro w9 hSw; have d0 := cell_quiet hSw Ky.out (by simp); go_simp; try with_reducible rfl)
    try simp only [qq]
    refine tk 7 (v := ?vh7) rfl (by kernel_rfl) (fun _ _ _ h => h) ?hyh7 (by assumption) ?rsh7
    case hyh7 => (intro w9 hSw; go_simp; try with_reducible rfl)
    try simp only [qq]
    refine tk 8 (v := ?vh8) rfl (by kernel_rfl) (fun _ _ _ h => h) ?hyh8 (by assumption) ?rsh8
    case hyh8 => (intro w9 hSw; go_simp; try with_reducible rfl)
    try simp only [qq]
    refine tk 9 (v := ?vh9) rfl (by kernel_rfl) (fun _ _ _ h => h) ?hyh9 (by assumption) ?rsh9
    case hyh9 => (intro w9 hSw; have d0 := cell_quiet hSw Kl0.out (by simp); have d1 := cell_quiet hSw Kl1.out (by simp); have d2 := cell_quiet hSw Kl2.out (by simp); have d3 := cell_quiet hSw Kl3.out (by simp); have d4 := cell_quiet hSw Kl4.out (by simp); have d5 := cell_quiet hSw Kl5.out (by simp); have d6 := cell_quiet hSw Kl6.out (by simp); have d7 := cell_quiet hSw Kl7.out (by simp); go_simp; try with_reducible rfl)
    try simp only [qq]
    refine tk 10 (v := ?vh10) rfl (by kernel_rfl) (fun _ _ _ h => h) ?hyh10 (by assumption) ?rsh10
    case hyh10 => (intro w9 hSw; go_simp; try with_reducible rfl)
    try simp only [qq]
    refine rd1 11 (by kernel_rfl) rfl (fun K hK => ?_)
    go_simp
    refine samelevel_r HSI (hd (T1.out.keep hHeld (TyB.nil _ _ _))) (hd (T2.out.keep hHeld (TyB.nil _ _ _))) (fun w9 hcx => ?_)
    refine hK.out _ _ (hHeld.trans hcx (by simp)) (fun hHeld => ?_)
    clear hK K
    try simp only [qq]
    refine tk 12 (v := ?vh12) rfl (by kernel_rfl) (fun _ _ _ h => h) ?hyh12 (by assumption) ?rsh12
    case hyh12 => (intro w9 hSw; go_simp; try with_reducible rfl)
    try simp only [qq]
    refine wpAnyH_done (by kernel_rfl) ?_ _
    try simp only [qq]
    have HH := hd hHeld
    clear hHeld hcx
    have HC2 := hd (HCR.out.trans HH.out (by simp))
    go_wp2_with fail
    refine ⟨?_, by simp [intN]; omega⟩
    first | exact ⟨j + 1, vintP (by omega), by omega, HC2⟩ | ((repeat apply Exists.intro); exact ⟨⟨j + 1, vintP (by omega), by omega, HC2⟩, rfl⟩)
  · have q1 : ¬ (j : Int) < (n : Int) := by omega
    go_wp2_with fail
    go_ret
    exact ⟨rfl, HCW.out.trans HCR.out (by simp)⟩
theorem same_r {w : World} {b : Bool} {p q : Pn.Hl} (HS : Hid (SimH b p q)) {a1 a2 : Option Addr} {n1 n2 c1 c2 B1 B2 : Nat} (HN1 : Hid (n1 = p.levels.length)) (HN2 : Hid (n2 = q.levels.length)) (H1 : Hid (ListS B1 47 8 (Clv B1) p.levels (.slice a1 n1 c1) w)) (H2 : Hid (ListS B2 47 8 (Clv B2) q.levels (.slice a2 n2 c2) w)) {R : Ending → World → Prop} (h : ∀ w', Chg [] w w' → R (.returned (.bool true)) w') :
 Calls Tryd.prog 12 #[.agg #[.string ⟨p.name.toArray⟩, .int .i64 (p.sx : Nat), .int .i64 (p.sy : Nat), .slice a1 n1 c1], .agg #[.string ⟨q.name.toArray⟩, .int .i64 (q.sx : Nat), .int .i64 (q.sy : Nat), .slice a2 n2 c2], .bool b] w R := by
 obtain ⟨h1, h2, h3, h4⟩ := HS.out
 have e2 : n2 = n1 := by rw [HN2.out, HN1.out, h4.1]
 subst e2
 rw [← h1, ← h2, ← h3]
 refine (same_in w b p.name p.sx p.sy p.levels q.levels (hd h4) n2 (hd HN1.out.symm) a1 a2 c1 c2 B1 B2 H1 H2).mono ?_
 rintro e w' ⟨rfl, hc⟩
 exact h w' hc
end Go.Proofs.YtocadlcglgpdcaaDoor
