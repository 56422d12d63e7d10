/-
 Plan, the reference, layer 2: token, name, number, at, box. Printed by genpqb06.py.
-/
import Derived.Test.YtocadlcglgpdcaaDoorPqA
namespace Go.Proofs.YtocadlcglgpdcaaDoor
set_option linter.unusedVariables false
set_option linter.unusedSimpArgs false
open Go Go.RowKit Go.Shelf
open Lx (Tk)
attribute [local go_sem ↓] Go.wp_at_zero Go.wp_at_succ
attribute [local irreducible] Go.wpStill
set_option maxHeartbeats 1000000 in
set_option maxRecDepth 100000 in
theorem rat_r {w : World} {b er a en : Nat} {q : List Tk} (HP : Hid (Rp w b q er a en)) {R : Ending → World → Prop}
 (h : ∀ (w' : World), Hid (Rp w' b q er a en) → Hid (Chg [] w w') → R (.returned (.int .i64 (Rl.place en q : Nat))) w') :
 Calls Tryd.prog 40 #[.pointer (some ⟨b, 0, none⟩)] w R := by
 refine (show Calls Tryd.prog 40 #[.pointer (some ⟨b, 0, none⟩)] w (fun e w' => e = .returned (.int .i64 (Rl.place en q : Nat)) ∧ Chg [] w w') from ?_).mono (fun e w' hx => by obtain ⟨rfl, h2⟩ := hx; exact h w' (hd (HP.out.quiet h2)) (hd h2))
 clear h
 cases q with
 | nil =>
  obtain ⟨n, ao, cap, hb⟩ := HP.out.nil
  have HB := hd hb
  have c0 := hb.cell (i := 0) rfl
  have c1 := hb.cell (i := 1) rfl
  have n0 : ¬ (n : Int) < (n : Int) := by omega
  clear hb
  go_enter Tryd.func40, Tryd.ntmps40
  go_upto_region 1 with fail
  go_quiet (fail)
  go_upto_region 3 with fail
  have c4 := ((chg_drewN w nq).blk HB.out (by simp)).cell (i := 4) rfl
  go_wp2_with fail
  go_ret
  exact ⟨rfl, chg_drewN _ _⟩
 | cons t r =>
  obtain ⟨n, i, g, off, cap, hi, hn, hb, hcap, hgb, ⟨k0, k1, k2, k3⟩, -⟩ := HP.out.cons
  have HB := hd hb
  have c0 := hb.cell (i := 0) rfl
  have c1 := hb.cell (i := 1) rfl
  have n0 : (i : Int) < (n : Int) := by omega
  have n1 : (0 : Int) ≤ (i : Int) := by omega
  have n2 : (i : Int) ≤ (cap : Int) := by omega
  have n3 : ((i : Int)).toNat = i := by omega
  have K3 := hd k3
  clear hb k0 k1 k2 k3
  go_enter Tryd.func40, Tryd.ntmps40
  go_upto_region 1 with fail
  go_quiet (fail)
  go_upto_region 2 with fail
  obtain ⟨V, hV⟩ : ∃ V, V = w.drewN nq := ⟨_, rfl⟩
  rw [← hV]
  have HCV : Hid (Chg [] w V) := hd (by rw [hV]; exact chg_drewN _ _)
  have c0 := (HCV.out.blk HB.out (by simp)).cell (i := 0) rfl
  have c1 := (HCV.out.blk HB.out (by simp)).cell (i := 1) rfl
  have k3 := cell_quiet HCV.out K3.out (by simp)
  clear hV n0
  go_quiet (fail)
  go_wp2_with fail
  go_ret
  exact ⟨rfl, HCV.out.trans (chg_drewN _ _) (by simp)⟩
/-- The reader's blocks lie below a new one. -/
theorem Rp.fresh {w : World} {b er a en : Nat} {q : List Tk} (h : Rp w b q er a en) (ob : Obj) : Rp (w.alloc ob) b q er a en := h.quiet ((Chg.refl [] w).alloc ob)
set_option maxHeartbeats 2000000 in
set_option maxRecDepth 100000 in
theorem rtoken_r {w : World} {b er a en : Nat} {q : List Tk} (HP : Hid (Rp w b q er a en)) (k : Nat) (hk9 : k ≤ 9) {R : Ending → World → Prop}
 (h : ∀ (t : Tk) (q' : List Tk) (er' a' : Nat) (w' : World), Hid (RR (Rl.nxt k none) en q er a t q' er' a') → Hid (Rp w' b q' er' a' en) → Hid (Chg [b] w w') → R (.returned (.agg #[.int .i64 (t.kind : Nat), .string ⟨t.text.toArray⟩, .int .i64 (t.n : Nat), .int .i64 (t.at_ : Nat)])) w') :
 Calls Tryd.prog 39 #[.pointer (some ⟨b, 0, none⟩), .int .i64 (k : Int)] w R := by
 refine (show Calls Tryd.prog 39 #[.pointer (some ⟨b, 0, none⟩), .int .i64 (k : Int)] w (fun e w' => ∃ t q' er' a', e = .returned (.agg #[.int .i64 (t.kind : Nat), .string ⟨t.text.toArray⟩, .int .i64 (t.n : Nat), .int .i64 (t.at_ : Nat)]) ∧ RR (Rl.nxt k none) en q er a t q' er' a' ∧ Rp w' b q' er' a' en ∧ Chg [b] w w') from ?_).mono (fun e w' hx => by obtain ⟨t, q', er', a', rfl, h1, h2, h3⟩ := hx; exact h t q' er' a' w' (hd h1) (hd h2) (hd h3))
 clear h
 have HBL : Hid (b < w.heap.size) := hd HP.out.lt
 go_enter Tryd.func39, Tryd.ntmps39
 go_upto_region 1 with fail
 obtain ⟨W, hW⟩ : ∃ W, W = w.alloc (.cells #[.int .i64 0, .string ⟨#[]⟩, .int .i64 0, .int .i64 0] 40) := ⟨_, rfl⟩
 rw [← hW]
 obtain ⟨T, hT⟩ : ∃ T, T = w.heap.size := ⟨_, rfl⟩
 rw [← hT]
 have HT : Hid (Blk W T [.int .i64 0, .string ⟨#[]⟩, .int .i64 0, .int .i64 0] 40) := hd (by rw [hW, hT]; exact Blk.new w _ _)
 have HCW : Hid (Chg [] w W) := hd (by rw [hW]; exact (Chg.refl [] w).alloc _)
 have HPW : Hid (Rp W b q er a en) := hd (HP.out.quiet HCW.out)
 have HTN : Hid (b < T ∧ w.heap.size ≤ T) := hd ⟨by rw [hT]; exact HBL.out, by rw [hT]; exact Nat.le_refl _⟩
 clear hW hT
 by_cases he : er = 0
 · have e0 : ((er : Int) != 0) = false := by rw [he]; rfl
   cases q with
   | nil =>
    obtain ⟨n, ao, cap, hb⟩ := HPW.out.nil
    have c0 := hb.cell (i := 0) rfl
    have c1 := hb.cell (i := 1) rfl
    have c2 := hb.cell (i := 2) rfl
    have n0 : (n : Int) ≤ (n : Int) := by omega
    clear hb he
    go_quiet (fail)
    go_upto_region 2 with fail
    obtain ⟨V, hV⟩ : ∃ V, V = W.drewN nq := ⟨_, rfl⟩
    rw [← hV]
    have HCV : Hid (Chg [] W V) := hd (by rw [hV]; exact chg_drewN _ _)
    clear hV
    go_wp2_with fail
    refine rfail_r (hd (HPW.out.quiet HCV.out)) (fun er' a' w2 HF HP2 HC2 => ?_)
    have HT2 := hd (HC2.out.blk (HCV.out.blk HT.out (by simp)) (by have := HTN.out; simp; omega))
    have HC2w : Hid (Chg [b] w w2) := hd (chg01 (HCW.out.trans HCV.out (by simp)) HC2.out)
    obtain ⟨t0, t1, t2, t3⟩ := HT2.out.c4
    obtain ⟨f0, f1, f2, f3⟩ := HT2.out.f4
    go_wp2_with fail
    obtain ⟨w3, hw3⟩ : ∃ w3, w3 = (((w2.setCell ⟨T, 0, none⟩ (.int .i64 0)).setCell ⟨T, 1, none⟩ (.string ⟨#[]⟩)).setCell ⟨T, 2, none⟩ (.int .i64 0)).setCell ⟨T, 3, none⟩ (.int .i64 0) := ⟨_, rfl⟩
    have HCt : Hid (Chg [T] w2 w3) := hd (by rw [hw3]; exact ((((Chg.refl _ _).setCell _ _ (.inl (by simp))).setCell _ _ (.inl (by simp))).setCell _ _ (.inl (by simp))).setCell _ _ (.inl (by simp)))
    have HT3 : Hid (Blk w3 T [.int .i64 0, .string ⟨#[]⟩, .int .i64 0, .int .i64 0] 40) := hd (by rw [hw3]; exact (((HT2.out.set 0 _).set 1 _).set 2 _).set 3 _)
    rw [← hw3]
    clear hw3 t0 t1 t2 t3 f0 f1 f2 f3
    obtain ⟨t0, t1, t2, t3⟩ := HT3.out.c4
    refine bodyPost_ret (v := .agg #[.int .i64 0, .string ⟨#[]⟩, .int .i64 0, .int .i64 0]) (by simp [results, Tryd.results39, go_sem, t0, t1, t2, t3]) rfl ⟨⟨0, [], 0, 0⟩, _, er', a', rfl, RR.fail HF.out (fun h0 => ?_) _ _, HP2.out.keep HCt.out (by have := HTN.out; simp; omega), HC2w.out.trans HCt.out (fun k hk => .inr (by simp at hk; rw [hk]; exact HTN.out.2))⟩
    rfl
   | cons t r =>
    obtain ⟨n, i, g, off, cap, hi, hn, hb, hcap, hgb, ⟨k0, k1, k2, k3⟩, -⟩ := HPW.out.cons
    have HB := hd hb
    have c0 := hb.cell (i := 0) rfl
    have c1 := hb.cell (i := 1) rfl
    have c2 := hb.cell (i := 2) rfl
    have n0 : ¬ (n : Int) ≤ (i : Int) := by omega
    have n1 : (0 : Int) ≤ (i : Int) := by omega
    have n2 : (i : Int) ≤ (cap : Int) := by omega
    have n3 : ((i : Int)).toNat = i := by omega
    have n4 : (i : Int) < (n : Int) := by omega
    have K0 := hd k0
    have K1 := hd k1
    have K2 := hd k2
    have K3 := hd k3
    have HGB := hd hgb
    have HE := hd he
    clear hb he k1 k2 k3 hgb
    by_cases hk : t.kind = k
    · have m0 : ((t.kind : Int) != (k : Int)) = false := by rw [hk]; simp
      have HK := hd hk
      clear hk
      go_quiet (fail)
      go_upto_region 4 with fail
      obtain ⟨V, hV⟩ : ∃ V, V = W.drewN nq := ⟨_, rfl⟩
      rw [← hV]
      have HCV : Hid (Chg [] W V) := hd (by rw [hV]; exact chg_drewN _ _)
      clear hV c0 c1 c2 n0 m0 k0
      have HPV := hd (HPW.out.quiet HCV.out)
      have HBV := hd (HCV.out.blk HB.out (by simp))
      have d1 := HBV.out.cell (i := 1) rfl
      have f1 := HBV.out.free 1
      have hw : IntKind.i64.wrap ((i : Int) + 1) = (i : Int) + 1 := IntWalk.i64_in _ (by omega)
      go_upto_region 5 with fail
      obtain ⟨U, hU⟩ : ∃ U, U = V.setCell ⟨b, 1, none⟩ (.int .i64 ((i : Int) + 1)) := ⟨_, rfl⟩
      rw [← hU]
      have HCU : Hid (Chg [b] V U) := hd (by rw [hU]; exact (Chg.refl _ _).setCell _ _ (.inl (by simp)))
      have HBU : Hid (Blk U b [.slice (some ⟨g, off, none⟩) n cap, .int .i64 ((i : Int) + 1), .int .i64 (er : Int), .int .i64 (a : Int), .int .i64 (en : Int)] 77) := hd (by rw [hU]; exact HBV.out.set 1 _)
      have HPU : Hid (Rp U b r er a en) := hd (by obtain ⟨n', i', g', off', cap', -, -, hb', -, -, -, hst⟩ := HPV.out.cons; exact hst U HCU.out (by unfold Blk at hb' ⊢; have h9 := HBV.out; unfold Blk at h9; rw [h9] at hb'; cases hb'; exact HBU.out))
      have HWU : Hid (Chg [b] W U) := hd (chg01 HCV.out HCU.out)
      have J0 : Hid (U.cell? ⟨g, off + i * 4, none⟩ = _) := hd ((World.cell?_of_block (HWU.out.block g (World.block_lt_of_cell? _ _ K0.out) (by have := HGB.out; simp; omega))).trans K0.out)
      have J1 : Hid (U.cell? ⟨g, off + i * 4 + 1, none⟩ = _) := hd ((World.cell?_of_block (HWU.out.block g (World.block_lt_of_cell? _ _ K1.out) (by have := HGB.out; simp; omega))).trans K1.out)
      have J2 : Hid (U.cell? ⟨g, off + i * 4 + 2, none⟩ = _) := hd ((World.cell?_of_block (HWU.out.block g (World.block_lt_of_cell? _ _ K2.out) (by have := HGB.out; simp; omega))).trans K2.out)
      have J3 : Hid (U.cell? ⟨g, off + i * 4 + 3, none⟩ = _) := hd ((World.cell?_of_block (HWU.out.block g (World.block_lt_of_cell? _ _ K3.out) (by have := HGB.out; simp; omega))).trans K3.out)
      have HTU : Hid (Blk U T [.int .i64 0, .string ⟨#[]⟩, .int .i64 0, .int .i64 0] 40) := hd (HWU.out.blk HT.out (by have := HTN.out; simp; omega))
      have hw2 : IntKind.i64.wrap ((i : Int) + 1 - 1) = (i : Int) := by rw [IntWalk.i64_in _ (by omega)]; omega
      have hw3 : IntKind.i64.wrap (i : Int) = (i : Int) := IntWalk.i64_in _ (by omega)
      clear hU d1 f1 hw
      refine wp_region_held_drew (S := fun W' => Chg [T] U W') (by kernel_rfl) (Chg.refl _ _).drew (fun hHeld => ?_)
      obtain ⟨ud, hud⟩ : ∃ x, x = U.drew := ⟨_, rfl⟩
      rw [← hud] at hHeld ⊢
      have HTD : Hid (Blk ud T [.int .i64 0, .string ⟨#[]⟩, .int .i64 0, .int .i64 0] 40) := hd (by rw [hud]; exact HTU.out.drew)
      clear hud
      refine tk 0 (v := ?va0) rfl (by kernel_rfl) (fun _ _ _ h => h) ?hya0 (by assumption) ?rsa0
      case hya0 => (intro w9 hSw; go_simp; try with_reducible rfl)
      try simp only [qq, qr]
      refine tk 1 (v := ?va1) rfl (by kernel_rfl) (fun _ _ _ h => h) ?hya1 (by assumption) ?rsa1
      case hya1 => (intro w9 hSw; go_simp; try with_reducible rfl)
      try simp only [qq, qr]
      refine tk 2 (v := ?va2) rfl (by kernel_rfl) (fun _ _ _ h => h) ?hya2 (by assumption) ?rsa2
      case hya2 => (intro w9 hSw; go_simp; try with_reducible rfl)
      try simp only [qq, qr]
      refine tk 3 (v := ?va3) rfl (by kernel_rfl) (fun _ _ _ h => h) ?hya3 (by assumption) ?rsa3
      case hya3 => (intro w9 hSw; have hBw := hSw.blk HBU.out (by have := HTN.out; simp; omega); have d0 := hBw.cell (i := 0) rfl; have d1 := hBw.cell (i := 1) rfl; go_simp; try with_reducible rfl)
      try simp only [qq, qr]
      refine tk 4 (v := ?va4) rfl (by kernel_rfl) (fun _ _ _ h => h) ?hya4 (by assumption) ?rsa4
      case hya4 => (intro w9 hSw; go_simp; try with_reducible rfl)
      try simp only [qq, qr]
      refine tk 5 (v := ?va5) rfl (by kernel_rfl) (fun _ _ _ h => h) ?hya5 (by assumption) ?rsa5
      case hya5 => (intro w9 hSw; go_simp; try with_reducible rfl)
      try simp only [qq, qr]
      refine tk 6 (v := ?va6) rfl (by kernel_rfl) (fun _ _ _ h => h) ?hya6 (by assumption) ?rsa6
      case hya6 => (intro w9 hSw; go_simp; try with_reducible rfl)
      try simp only [qq, qr]
      refine tk 7 (v := ?va7) rfl (by kernel_rfl) (fun _ _ _ h => h) ?hya7 (by assumption) ?rsa7
      case hya7 => (intro w9 hSw; have hBw := hSw.blk HBU.out (by have := HTN.out; simp; omega); have d0 := hBw.cell (i := 0) rfl; have d1 := hBw.cell (i := 1) rfl; go_simp; try with_reducible rfl)
      try simp only [qq, qr]
      refine tk 8 (v := ?va8) rfl (by kernel_rfl) (fun _ _ _ h => h) ?hya8 (by assumption) ?rsa8
      case hya8 => (intro w9 hSw; go_simp; try with_reducible rfl)
      try simp only [qq, qr]
      refine tk 9 (v := ?va9) rfl (by kernel_rfl) (fun _ _ _ h => h) ?hya9 (by assumption) ?rsa9
      case hya9 => (intro w9 hSw; go_simp; try with_reducible rfl)
      try simp only [qq, qr]
      refine tk 10 (v := ?va10) rfl (by kernel_rfl) (fun _ _ _ h => h) ?hya10 (by assumption) ?rsa10
      case hya10 => (intro w9 hSw; have j0 := (World.cell?_of_block (hSw.block g (World.block_lt_of_cell? _ _ J0.out) (by have h1 := HTN.out; have h2 := HGB.out; simp; omega))).trans J0.out; have j1 := (World.cell?_of_block (hSw.block g (World.block_lt_of_cell? _ _ J1.out) (by have h1 := HTN.out; have h2 := HGB.out; simp; omega))).trans J1.out; have j2 := (World.cell?_of_block (hSw.block g (World.block_lt_of_cell? _ _ J2.out) (by have h1 := HTN.out; have h2 := HGB.out; simp; omega))).trans J2.out; have j3 := (World.cell?_of_block (hSw.block g (World.block_lt_of_cell? _ _ J3.out) (by have h1 := HTN.out; have h2 := HGB.out; simp; omega))).trans J3.out; go_simp; try with_reducible rfl)
      try simp only [qq, qr]
      refine rd1 11 (by kernel_rfl) rfl (fun K hK => ?_)
      obtain ⟨t0, t1, t2, t3⟩ := HTD.out.c4
      obtain ⟨f0, f1, f2, f3⟩ := HTD.out.f4
      go_simp
      obtain ⟨ue, hue⟩ : ∃ x, x = ((((ud.setCell ⟨T, 0, none⟩ (.int .i64 (t.kind : Nat))).setCell ⟨T, 1, none⟩ (.string ⟨t.text.toArray⟩)).setCell ⟨T, 2, none⟩ (.int .i64 (t.n : Nat))).setCell ⟨T, 3, none⟩ (.int .i64 (t.at_ : Nat))) := ⟨_, rfl⟩
      rw [← hue]
      have HTE : Hid (Blk ue T [.int .i64 (t.kind : Nat), .string ⟨t.text.toArray⟩, .int .i64 (t.n : Nat), .int .i64 (t.at_ : Nat)] 40) := hd (by rw [hue]; exact (((HTD.out.set 0 _).set 1 _).set 2 _).set 3 _)
      have HCE : Chg [T] U ue := by rw [hue]; exact (((hHeld.setCell _ _ (.inl (by simp))).setCell _ _ (.inl (by simp))).setCell _ _ (.inl (by simp))).setCell _ _ (.inl (by simp))
      clear hue hHeld t0 t1 t2 t3 f0 f1 f2 f3
      refine hK.out _ _ HCE (fun _ => ?_)
      clear hK K
      try simp only [qq, qr]
      refine wpAnyH_done (by kernel_rfl) ?_ _
      try simp only [qq, qr]
      obtain ⟨t0, t1, t2, t3⟩ := HTE.out.c4
      go_wp2_with fail
      refine bodyPost_ret (v := .agg #[.int .i64 (t.kind : Nat), .string ⟨t.text.toArray⟩, .int .i64 (t.n : Nat), .int .i64 (t.at_ : Nat)]) (by simp [results, Tryd.results39, go_sem, t0, t1, t2, t3]) rfl ⟨t, r, er, a, rfl, ⟨fun h9 => ⟨rfl, rfl⟩, fun h9 => ?_⟩, HPU.out.keep HCE (by have := HTN.out; simp; omega), (HCW.out.mono (by simp) |>.trans HWU.out (fun k hk => .inl hk)).trans HCE (fun k hk => .inr (by simp at hk; rw [hk]; exact HTN.out.2))⟩
      rw [Rl.nxt_cons, if_pos (by simp [Rl.is, HK.out])]
      exact ⟨rfl, rfl, h9⟩
    · have m0 : ((t.kind : Int) != (k : Int)) = true := bne_iff_ne.2 (by omega)
      have HK := hd hk
      clear hk
      go_quiet (fail)
      go_upto_region 2 with fail
      obtain ⟨V, hV⟩ : ∃ V, V = W.drewN nq := ⟨_, rfl⟩
      rw [← hV]
      have HCV : Hid (Chg [] W V) := hd (by rw [hV]; exact chg_drewN _ _)
      clear hV
      go_wp2_with fail
      refine rfail_r (hd (HPW.out.quiet HCV.out)) (fun er' a' w2 HF HP2 HC2 => ?_)
      have HT2 := hd (HC2.out.blk (HCV.out.blk HT.out (by simp)) (by have := HTN.out; simp; omega))
      have HC2w : Hid (Chg [b] w w2) := hd (chg01 (HCW.out.trans HCV.out (by simp)) HC2.out)
      obtain ⟨t0, t1, t2, t3⟩ := HT2.out.c4
      obtain ⟨f0, f1, f2, f3⟩ := HT2.out.f4
      go_wp2_with fail
      obtain ⟨w3, hw3⟩ : ∃ w3, w3 = (((w2.setCell ⟨T, 0, none⟩ (.int .i64 0)).setCell ⟨T, 1, none⟩ (.string ⟨#[]⟩)).setCell ⟨T, 2, none⟩ (.int .i64 0)).setCell ⟨T, 3, none⟩ (.int .i64 0) := ⟨_, rfl⟩
      have HCt : Hid (Chg [T] w2 w3) := hd (by rw [hw3]; exact ((((Chg.refl _ _).setCell _ _ (.inl (by simp))).setCell _ _ (.inl (by simp))).setCell _ _ (.inl (by simp))).setCell _ _ (.inl (by simp)))
      have HT3 : Hid (Blk w3 T [.int .i64 0, .string ⟨#[]⟩, .int .i64 0, .int .i64 0] 40) := hd (by rw [hw3]; exact (((HT2.out.set 0 _).set 1 _).set 2 _).set 3 _)
      rw [← hw3]
      clear hw3 t0 t1 t2 t3 f0 f1 f2 f3
      obtain ⟨t0, t1, t2, t3⟩ := HT3.out.c4
      refine bodyPost_ret (v := .agg #[.int .i64 0, .string ⟨#[]⟩, .int .i64 0, .int .i64 0]) (by simp [results, Tryd.results39, go_sem, t0, t1, t2, t3]) rfl ⟨⟨0, [], 0, 0⟩, _, er', a', rfl, RR.fail HF.out (fun h0 => ?_) _ _, HP2.out.keep HCt.out (by have := HTN.out; simp; omega), HC2w.out.trans HCt.out (fun k hk => .inr (by simp at hk; rw [hk]; exact HTN.out.2))⟩
      rw [Rl.nxt_cons, if_neg (by simp [Rl.is, HK.out])]
 · have e0 : ((er : Int) != 0) = true := bne_iff_ne.2 (by omega)
   obtain ⟨n, i, ao, cap, hb⟩ := HPW.out.any
   have c2 := hb.cell (i := 2) rfl
   have HE := hd he
   clear hb he
   go_quiet (fail)
   go_upto_region 2 with fail
   obtain ⟨V, hV⟩ : ∃ V, V = W.drewN nq := ⟨_, rfl⟩
   rw [← hV]
   have HCV : Hid (Chg [] W V) := hd (by rw [hV]; exact chg_drewN _ _)
   clear hV
   go_wp2_with fail
   refine rfail_r (hd (HPW.out.quiet HCV.out)) (fun er' a' w2 HF HP2 HC2 => ?_)
   have HT2 := hd (HC2.out.blk (HCV.out.blk HT.out (by simp)) (by have := HTN.out; simp; omega))
   have HC2w : Hid (Chg [b] w w2) := hd (chg01 (HCW.out.trans HCV.out (by simp)) HC2.out)
   obtain ⟨t0, t1, t2, t3⟩ := HT2.out.c4
   obtain ⟨f0, f1, f2, f3⟩ := HT2.out.f4
   go_wp2_with fail
   obtain ⟨w3, hw3⟩ : ∃ w3, w3 = (((w2.setCell ⟨T, 0, none⟩ (.int .i64 0)).setCell ⟨T, 1, none⟩ (.string ⟨#[]⟩)).setCell ⟨T, 2, none⟩ (.int .i64 0)).setCell ⟨T, 3, none⟩ (.int .i64 0) := ⟨_, rfl⟩
   have HCt : Hid (Chg [T] w2 w3) := hd (by rw [hw3]; exact ((((Chg.refl _ _).setCell _ _ (.inl (by simp))).setCell _ _ (.inl (by simp))).setCell _ _ (.inl (by simp))).setCell _ _ (.inl (by simp)))
   have HT3 : Hid (Blk w3 T [.int .i64 0, .string ⟨#[]⟩, .int .i64 0, .int .i64 0] 40) := hd (by rw [hw3]; exact (((HT2.out.set 0 _).set 1 _).set 2 _).set 3 _)
   rw [← hw3]
   clear hw3 t0 t1 t2 t3 f0 f1 f2 f3
   obtain ⟨t0, t1, t2, t3⟩ := HT3.out.c4
   refine bodyPost_ret (v := .agg #[.int .i64 0, .string ⟨#[]⟩, .int .i64 0, .int .i64 0]) (by simp [results, Tryd.results39, go_sem, t0, t1, t2, t3]) rfl ⟨⟨0, [], 0, 0⟩, _, er', a', rfl, RR.fail HF.out (fun h0 => ?_) _ _, HP2.out.keep HCt.out (by have := HTN.out; simp; omega), HC2w.out.trans HCt.out (fun k hk => .inr (by simp at hk; rw [hk]; exact HTN.out.2))⟩
   exact absurd h0 HE.out
theorem rname_r {w : World} {b er a en : Nat} {q : List Tk} (HP : Hid (Rp w b q er a en)) {R : Ending → World → Prop}
 (h : ∀ (x : Bytes) (q' : List Tk) (er' a' : Nat) (w' : World), Hid (RR Pn.name en q er a x q' er' a') → Hid (Rp w' b q' er' a' en) → Hid (Chg [b] w w') → R (.returned (.string ⟨x.toArray⟩)) w') :
 Calls Tryd.prog 27 #[.pointer (some ⟨b, 0, none⟩)] w R := by
 refine (show Calls Tryd.prog 27 #[.pointer (some ⟨b, 0, none⟩)] w (fun e w' => ∃ (x : Bytes) (q' : List Tk) (er' a' : Nat), e = .returned (.string ⟨x.toArray⟩) ∧ RR Pn.name en q er a x q' er' a' ∧ Rp w' b q' er' a' en ∧ Chg [b] w w') from ?_).mono (fun e w' hx => by obtain ⟨t, q', er', a', rfl, h1, h2, h3⟩ := hx; exact h t q' er' a' w' (hd h1) (hd h2) (hd h3))
 clear h
 go_enter Tryd.func27, Tryd.ntmps27
 go_wp2_with fail
 refine rtoken_r HP 1 (by decide) (fun t q' er' a' w1 HR HP1 HC1 => ?_)
 have hf := fun W => field_text (.int .i64 (t.kind : Nat)) (.string ⟨t.text.toArray⟩) (.int .i64 (t.n : Nat)) (.int .i64 (t.at_ : Nat)) W
 go_wp2_with fail
 go_ret
 exact ⟨t.text, q', er', a', rfl, HR.out.map (fun z : Tk => z.text), HP1.out, HC1.out⟩
theorem rnum_r {w : World} {b er a en : Nat} {q : List Tk} (HP : Hid (Rp w b q er a en)) {R : Ending → World → Prop}
 (h : ∀ (x : Nat) (q' : List Tk) (er' a' : Nat) (w' : World), Hid (RR Pn.num en q er a x q' er' a') → Hid (Rp w' b q' er' a' en) → Hid (Chg [b] w w') → R (.returned (.int .i64 (x : Nat))) w') :
 Calls Tryd.prog 28 #[.pointer (some ⟨b, 0, none⟩)] w R := by
 refine (show Calls Tryd.prog 28 #[.pointer (some ⟨b, 0, none⟩)] w (fun e w' => ∃ (x : Nat) (q' : List Tk) (er' a' : Nat), e = .returned (.int .i64 (x : Nat)) ∧ RR Pn.num en q er a x q' er' a' ∧ Rp w' b q' er' a' en ∧ Chg [b] w w') from ?_).mono (fun e w' hx => by obtain ⟨t, q', er', a', rfl, h1, h2, h3⟩ := hx; exact h t q' er' a' w' (hd h1) (hd h2) (hd h3))
 clear h
 go_enter Tryd.func28, Tryd.ntmps28
 go_wp2_with fail
 refine rtoken_r HP 2 (by decide) (fun t q' er' a' w1 HR HP1 HC1 => ?_)
 have hf := fun W => field_n (.int .i64 (t.kind : Nat)) (.string ⟨t.text.toArray⟩) (.int .i64 (t.n : Nat)) (.int .i64 (t.at_ : Nat)) W
 go_wp2_with fail
 go_ret
 exact ⟨t.n, q', er', a', rfl, HR.out.map (fun z : Tk => z.n), HP1.out, HC1.out⟩
set_option maxHeartbeats 1000000 in
set_option maxRecDepth 100000 in
theorem rbox_r {w : World} {b er a en : Nat} {q : List Tk} (HP : Hid (Rp w b q er a en)) {R : Ending → World → Prop}
 (h : ∀ (x : Pn.Bx) (q' : List Tk) (er' a' : Nat) (w' : World), Hid (RR Pn.box en q er a x q' er' a') → Hid (Rp w' b q' er' a' en) → Hid (Chg [b] w w') → R (.returned (.agg #[.int .i64 (x.x : Nat), .int .i64 (x.y : Nat), .int .i64 (x.x2 : Nat), .int .i64 (x.y2 : Nat)])) w') :
 Calls Tryd.prog 59 #[.pointer (some ⟨b, 0, none⟩)] w R := by
 refine (show Calls Tryd.prog 59 #[.pointer (some ⟨b, 0, none⟩)] w (fun e w' => ∃ (x : Pn.Bx) (q' : List Tk) (er' a' : Nat), e = .returned (.agg #[.int .i64 (x.x : Nat), .int .i64 (x.y : Nat), .int .i64 (x.x2 : Nat), .int .i64 (x.y2 : Nat)]) ∧ RR Pn.box en q er a x q' er' a' ∧ Rp w' b q' er' a' en ∧ Chg [b] w w') from ?_).mono (fun e w' hx => by obtain ⟨t, q', er', a', rfl, h1, h2, h3⟩ := hx; exact h t q' er' a' w' (hd h1) (hd h2) (hd h3))
 clear h
 have HBL : Hid (b < w.heap.size) := hd HP.out.lt
 go_enter Tryd.func59, Tryd.ntmps59
 go_upto_region 1 with fail
 obtain ⟨W, hW⟩ : ∃ W, W = w.alloc (.cells #[.int .i64 0, .int .i64 0, .int .i64 0, .int .i64 0] 56) := ⟨_, rfl⟩
 rw [← hW]
 obtain ⟨T, hT⟩ : ∃ T, T = w.heap.size := ⟨_, rfl⟩
 rw [← hT]
 have HT : Hid (Blk W T [.int .i64 0, .int .i64 0, .int .i64 0, .int .i64 0] 56) := hd (by rw [hW, hT]; exact Blk.new w _ _)
 have HCW : Hid (Chg [] w W) := hd (by rw [hW]; exact (Chg.refl [] w).alloc _)
 have HPW : Hid (Rp W b q er a en) := hd (HP.out.quiet HCW.out)
 have HTN : Hid (b < T ∧ w.heap.size ≤ T) := hd ⟨by rw [hT]; exact HBL.out, by rw [hT]; exact Nat.le_refl _⟩
 clear hW hT
 go_wp2_with fail
 refine rnum_r HPW (fun x1 q1 e1 a1 w1 HR1 HP1 HC1 => ?_)
 go_wp2_with fail
 refine rnum_r HP1 (fun x2 q2 e2 a2 w2 HR2 HP2 HC2 => ?_)
 go_wp2_with fail
 refine rnum_r HP2 (fun x3 q3 e3 a3 w3 HR3 HP3 HC3 => ?_)
 go_wp2_with fail
 refine rnum_r HP3 (fun x4 q4 e4 a4 w4 HR4 HP4 HC4 => ?_)
 have HCA : Hid (Chg [b] W w4) := hd (((HC1.out.trans HC2.out (fun k hk => .inl hk)).trans HC3.out (fun k hk => .inl hk)).trans HC4.out (fun k hk => .inl hk))
 have HT4 := hd (HCA.out.blk HT.out (by have := HTN.out; simp; omega))
 have HRR : Hid (RR Pn.box en q er a (⟨x1, x2, x3, x4⟩ : Pn.Bx) q4 e4 a4) := hd (HR1.out.bind (g := fun x l1 => (Pn.num l1).bind fun y l2 => (Pn.num l2).bind fun z l3 => (Pn.num l3).bind fun u l4 => .ok (⟨x, y, z, u⟩ : Pn.Bx) l4) (HR2.out.bind (g := fun y l2 => (Pn.num l2).bind fun z l3 => (Pn.num l3).bind fun u l4 => .ok (⟨x1, y, z, u⟩ : Pn.Bx) l4) (HR3.out.bind (g := fun z l3 => (Pn.num l3).bind fun u l4 => .ok (⟨x1, x2, z, u⟩ : Pn.Bx) l4) (HR4.out.map (fun u => (⟨x1, x2, x3, u⟩ : Pn.Bx))))))
 obtain ⟨t0, t1, t2, t3⟩ := HT4.out.c4
 obtain ⟨f0, f1, f2, f3⟩ := HT4.out.f4
 go_wp2_with fail
 obtain ⟨v, hv⟩ : ∃ v, v = (((w4.setCell ⟨T, 0, none⟩ (.int .i64 (x1 : Nat))).setCell ⟨T, 1, none⟩ (.int .i64 (x2 : Nat))).setCell ⟨T, 2, none⟩ (.int .i64 (x3 : Nat))).setCell ⟨T, 3, none⟩ (.int .i64 (x4 : Nat)) := ⟨_, rfl⟩
 have HCt : Hid (Chg [T] w4 v) := hd (by rw [hv]; exact ((((Chg.refl _ _).setCell _ _ (.inl (by simp))).setCell _ _ (.inl (by simp))).setCell _ _ (.inl (by simp))).setCell _ _ (.inl (by simp)))
 have HT5 : Hid (Blk v T [.int .i64 (x1 : Nat), .int .i64 (x2 : Nat), .int .i64 (x3 : Nat), .int .i64 (x4 : Nat)] 56) := hd (by rw [hv]; exact (((HT4.out.set 0 _).set 1 _).set 2 _).set 3 _)
 rw [← hv]
 clear hv t0 t1 t2 t3 f0 f1 f2 f3
 obtain ⟨t0, t1, t2, t3⟩ := HT5.out.c4
 refine bodyPost_ret (v := .agg #[.int .i64 (x1 : Nat), .int .i64 (x2 : Nat), .int .i64 (x3 : Nat), .int .i64 (x4 : Nat)]) (by simp [results, Tryd.results59, go_sem, t0, t1, t2, t3]) rfl ⟨⟨x1, x2, x3, x4⟩, q4, e4, a4, rfl, HRR.out, HP4.out.keep HCt.out (by have := HTN.out; simp; omega), ((HCW.out.mono (by simp)).trans HCA.out (fun k hk => .inl hk)).trans HCt.out (fun k hk => .inr (by simp at hk; rw [hk]; exact HTN.out.2))⟩
end Go.Proofs.YtocadlcglgpdcaaDoor
