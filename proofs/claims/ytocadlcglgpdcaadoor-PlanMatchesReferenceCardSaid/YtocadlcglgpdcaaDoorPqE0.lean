/-
 Plan, the reference, layer 5: item, kind 0. Printed by genpqe06.py.
-/
import Derived.Test.YtocadlcglgpdcaaDoorPqD
namespace Go.Proofs.YtocadlcglgpdcaaDoor
set_option linter.unusedVariables false
set_option linter.unusedSimpArgs false
open Go Go.RowKit Go.Shelf
open Lx (Tk)
attribute [local go_sem ↓] Go.wp_at_zero Go.wp_at_succ
attribute [local irreducible] Go.wpStill
set_option maxHeartbeats 8000000 in
set_option maxRecDepth 100000 in
theorem ritem0_spec (w Wb : World) (b a en B : Nat) (q : List Tk) (L : Pn.Lv) (u1 u2 u3 u4 u5 : Value) (HP : Hid (Rp w b q 0 a en)) (HWK : Hid (∀ t ∈ q, Pn.Wk t)) (HLX : Hid (LX B L u1 u2 u3 u4 u5 w)) (HSZ : Hid (L.blocks.length ≤ 2000000 ∧ L.areas.length ≤ 2000000 ∧ L.aisles.length ≤ 2000000 ∧ L.pillars.length ≤ 2000000 ∧ L.doors.length ≤ 2000000)) (HBW : Hid (b < Wb.heap.size)) (HWB : Hid (Wb.heap.size ≤ B)) (HBs : Hid (B ≤ w.heap.size)) (HCb : Hid (Chg [b] Wb w)) (HS0 : Hid (Pn.isw [98, 108, 111, 99, 107] q = false)) (HS1 : Hid (Pn.isw [97, 114, 101, 97] q = false)) (HS2 : Hid (Pn.isw [97, 105, 115, 108, 101] q = false)) (HS3 : Hid (Pn.isw [112, 105, 108, 108, 97, 114] q = false)) (HS4 : Hid (Pn.isw [100, 111, 111, 114] q = false)) (HWZ : Hid (∀ t ∈ q, Pn.Wz t)) : Calls Tryd.prog 41 #[.pointer (some ⟨b, 0, none⟩), .agg #[.string ⟨L.name.toArray⟩, .int .i64 (L.height : Nat), u1, u2, u3, u4, u5, .int .i64 (L.at_ : Nat)]] w (ItemR Wb b B en q 0 a L w) := by
 obtain ⟨o1, k1, rfl⟩ := HLX.out.1.1.form
 obtain ⟨o2, k2, rfl⟩ := HLX.out.1.2.1.form
 obtain ⟨o3, k3, rfl⟩ := HLX.out.1.2.2.1.form
 obtain ⟨o4, k4, rfl⟩ := HLX.out.1.2.2.2.1.form
 obtain ⟨o5, k5, rfl⟩ := HLX.out.1.2.2.2.2.form
 have HbB : Hid (b < B) := hd (by have h1 := HBW.out; have h2 := HWB.out; omega)
 go_enter Tryd.func41, Tryd.ntmps41
 go_upto_region 1 with fail
 obtain ⟨W1, hW⟩ : ∃ W, W = ((w.alloc (.cells #[.string ⟨L.name.toArray⟩, .int .i64 (L.height : Nat), .slice o1 L.blocks.length k1, .slice o2 L.areas.length k2, .slice o3 L.aisles.length k3, .slice o4 L.pillars.length k4, .slice o5 L.doors.length k5, .int .i64 (L.at_ : Nat)] 47)).alloc (.cells #[.string ⟨#[]⟩, .int .i64 0, .slice none 0 0, .slice none 0 0, .slice none 0 0, .slice none 0 0, .slice none 0 0, .int .i64 0] 47)) := ⟨_, rfl⟩
 rw [← hW]
 obtain ⟨X4, hX4⟩ : ∃ T, T = w.heap.size + 1 := ⟨_, rfl⟩
 try rw [← hX4]
 obtain ⟨X3, hX3⟩ : ∃ T, T = w.heap.size := ⟨_, rfl⟩
 try rw [← hX3]
 have OX3 : Hid (Wb.heap.size ≤ X3) := hd (by rw [hX3]; exact HCb.out.size)
 have OX4 : Hid (X3 < X4) := hd (by rw [hX4, hX3]; omega)
 have HX3_1 : Hid (Blk W1 X3 [.string ⟨L.name.toArray⟩, .int .i64 (L.height : Nat), .slice o1 L.blocks.length k1, .slice o2 L.areas.length k2, .slice o3 L.aisles.length k3, .slice o4 L.pillars.length k4, .slice o5 L.doors.length k5, .int .i64 (L.at_ : Nat)] 47) := hd (by
  have h1 := Blk.new w [.string ⟨L.name.toArray⟩, .int .i64 (L.height : Nat), .slice o1 L.blocks.length k1, .slice o2 L.areas.length k2, .slice o3 L.aisles.length k3, .slice o4 L.pillars.length k4, .slice o5 L.doors.length k5, .int .i64 (L.at_ : Nat)] 47
  have h2 : w.heap.size = X3 := by simp [hX3]
  rw [h2] at h1
  rw [hW]
  exact (h1.alloc _))
 have HX4_1 : Hid (Blk W1 X4 [.string ⟨#[]⟩, .int .i64 0, .slice none 0 0, .slice none 0 0, .slice none 0 0, .slice none 0 0, .slice none 0 0, .int .i64 0] 47) := hd (by
  have h1 := Blk.new (w.alloc (.cells #[.string ⟨L.name.toArray⟩, .int .i64 (L.height : Nat), .slice o1 L.blocks.length k1, .slice o2 L.areas.length k2, .slice o3 L.aisles.length k3, .slice o4 L.pillars.length k4, .slice o5 L.doors.length k5, .int .i64 (L.at_ : Nat)] 47)) [.string ⟨#[]⟩, .int .i64 0, .slice none 0 0, .slice none 0 0, .slice none 0 0, .slice none 0 0, .slice none 0 0, .int .i64 0] 47
  have h2 : (w.alloc (.cells #[.string ⟨L.name.toArray⟩, .int .i64 (L.height : Nat), .slice o1 L.blocks.length k1, .slice o2 L.areas.length k2, .slice o3 L.aisles.length k3, .slice o4 L.pillars.length k4, .slice o5 L.doors.length k5, .int .i64 (L.at_ : Nat)] 47)).heap.size = X4 := by simp [hX4]
  rw [h2] at h1
  rw [hW]
  exact h1)
 have BX3 : Hid (b < X3) := hd (by have h1 := HBW.out; have OX3_ := OX3.out; omega)
 have BX4 : Hid (b < X4) := hd (by have h1 := HBW.out; have OX3_ := OX3.out; have OX4_ := OX4.out; omega)
 have C1 : Hid (Chg [b] Wb W1) := hd (by rw [hW]; exact ((HCb.out.alloc _).alloc _))
 have KP_1 : Hid (Chg [] w W1) := hd (by rw [hW]; exact (((Chg.refl [] w).alloc _).alloc _))
 have Kk_1 : Hid (Chg [b] w W1) := hd (by rw [hW]; exact (((Chg.refl [b] w).alloc _).alloc _))
 have Mk_X4 : Hid (w.heap.size ≤ X4) := hd (by rw [hX4]; have h1 := (Chg.refl [b] w).size; omega)
 clear hW hX3 hX4
 go_wp2_with fail
 refine rat_r (hd (HP.out.keep KP_1.out (by simp))) (fun w1 HP1 HC1 => ?_)
 have HX3_2 : Hid (Blk w1 X3 [.string ⟨L.name.toArray⟩, .int .i64 (L.height : Nat), .slice o1 L.blocks.length k1, .slice o2 L.areas.length k2, .slice o3 L.aisles.length k3, .slice o4 L.pillars.length k4, .slice o5 L.doors.length k5, .int .i64 (L.at_ : Nat)] 47) := hd (HC1.out.blk HX3_1.out (by simp))
 have HX4_2 : Hid (Blk w1 X4 [.string ⟨#[]⟩, .int .i64 0, .slice none 0 0, .slice none 0 0, .slice none 0 0, .slice none 0 0, .slice none 0 0, .int .i64 0] 47) := hd (HC1.out.blk HX4_1.out (by simp))
 have C2 := hd (C1.out.trans HC1.out (by simp))
 have Kk_2 := hd (Kk_1.out.trans HC1.out (by simp))
 obtain ⟨at9, hat9⟩ : ∃ x, x = Rl.place en q := ⟨_, rfl⟩
 rw [← hat9]
 have HAT := hd hat9
 clear hat9
 go_wp2_with fail
 refine sees_r (hd HP1.out) [98, 108, 111, 99, 107] (fun bo w20 HB HP20 HC20 => ?_)
 obtain rfl : bo = false := by rw [← HB.out]; unfold seesB; rw [HS0.out]; rfl
 clear HB
 have HX3_3 := hd (HC20.out.blk HX3_2.out (by simp))
 have HX4_3 := hd (HC20.out.blk HX4_2.out (by simp))
 have C3 := hd (C2.out.trans HC20.out (by simp))
 have Kk_3 := hd (Kk_2.out.trans HC20.out (by simp))
 go_wp2_with fail
 refine sees_r (hd HP20.out) [97, 114, 101, 97] (fun bo w21 HB HP21 HC21 => ?_)
 obtain rfl : bo = false := by rw [← HB.out]; unfold seesB; rw [HS1.out]; rfl
 clear HB
 have HX3_4 := hd (HC21.out.blk HX3_3.out (by simp))
 have HX4_4 := hd (HC21.out.blk HX4_3.out (by simp))
 have C4 := hd (C3.out.trans HC21.out (by simp))
 have Kk_4 := hd (Kk_3.out.trans HC21.out (by simp))
 go_wp2_with fail
 refine sees_r (hd HP21.out) [97, 105, 115, 108, 101] (fun bo w22 HB HP22 HC22 => ?_)
 obtain rfl : bo = false := by rw [← HB.out]; unfold seesB; rw [HS2.out]; rfl
 clear HB
 have HX3_5 := hd (HC22.out.blk HX3_4.out (by simp))
 have HX4_5 := hd (HC22.out.blk HX4_4.out (by simp))
 have C5 := hd (C4.out.trans HC22.out (by simp))
 have Kk_5 := hd (Kk_4.out.trans HC22.out (by simp))
 go_wp2_with fail
 refine sees_r (hd HP22.out) [112, 105, 108, 108, 97, 114] (fun bo w23 HB HP23 HC23 => ?_)
 obtain rfl : bo = false := by rw [← HB.out]; unfold seesB; rw [HS3.out]; rfl
 clear HB
 have HX3_6 := hd (HC23.out.blk HX3_5.out (by simp))
 have HX4_6 := hd (HC23.out.blk HX4_5.out (by simp))
 have C6 := hd (C5.out.trans HC23.out (by simp))
 have Kk_6 := hd (Kk_5.out.trans HC23.out (by simp))
 go_wp2_with fail
 refine sees_r (hd HP23.out) [100, 111, 111, 114] (fun bo w24 HB HP24 HC24 => ?_)
 obtain rfl : bo = false := by rw [← HB.out]; unfold seesB; rw [HS4.out]; rfl
 clear HB
 have HX3_7 := hd (HC24.out.blk HX3_6.out (by simp))
 have HX4_7 := hd (HC24.out.blk HX4_6.out (by simp))
 have C7 := hd (C6.out.trans HC24.out (by simp))
 have Kk_7 := hd (Kk_6.out.trans HC24.out (by simp))
 go_wp2_with fail
 refine rfail_r (hd HP24.out) (fun e5 a5 w5 HF HP5 HC5 => ?_)
 have NX3_b : X3 ≠ b := by have h1 := HBW.out; have OX3_ := OX3.out; omega
 have Nb_X3 : b ≠ X3 := NX3_b.symm
 have NX4_b : X4 ≠ b := by have h1 := HBW.out; have OX3_ := OX3.out; have OX4_ := OX4.out; omega
 have Nb_X4 : b ≠ X4 := NX4_b.symm
 have HX3_8 := hd (HC5.out.blk HX3_7.out (by simp [NX3_b]))
 have HX4_8 := hd (HC5.out.blk HX4_7.out (by simp [NX4_b]))
 have C8 := hd (C7.out.trans HC5.out (al1 (.inl (by simp))))
 have Kk_8 := hd (Kk_7.out.trans HC5.out (al1 (.inl (by simp))))
 go_wp2_with fail
 refine rmust_r (hd HP5.out) [59] (fun q6 e6 a6 w6 HR6 HP6 HC6 => ?_)
 have HX3_9 := hd (HC6.out.blk HX3_8.out (by simp [NX3_b]))
 have HX4_9 := hd (HC6.out.blk HX4_8.out (by simp [NX4_b]))
 have C9 := hd (C8.out.trans HC6.out (al1 (.inl (by simp))))
 have Kk_9 := hd (Kk_8.out.trans HC6.out (al1 (.inl (by simp))))
 have HL6 : Hid (LX B L (.slice o1 L.blocks.length k1) (.slice o2 L.areas.length k2) (.slice o3 L.aisles.length k3) (.slice o4 L.pillars.length k4) (.slice o5 L.doors.length k5) w6) := hd (HLX.out.keep Kk_9.out (TyB.lower (fun z hz => by simp only [List.mem_cons, List.not_mem_nil, or_false] at hz; rw [hz]; exact HbB.out) _))
 obtain ⟨cX3_0, cX3_1, cX3_2, cX3_3, cX3_4, cX3_5, cX3_6, cX3_7⟩ := HX3_9.out.c8
 obtain ⟨cX4_0, cX4_1, cX4_2, cX4_3, cX4_4, cX4_5, cX4_6, cX4_7⟩ := HX4_9.out.c8
 obtain ⟨cX4_f0, cX4_f1, cX4_f2, cX4_f3, cX4_f4, cX4_f5, cX4_f6, cX4_f7⟩ := HX4_9.out.f8
 go_wp2_with fail
 clear cX3_0 cX3_1 cX3_2 cX3_3 cX3_4 cX3_5 cX3_6 cX3_7 cX4_0 cX4_1 cX4_2 cX4_3 cX4_4 cX4_5 cX4_6 cX4_7 cX4_f0 cX4_f1 cX4_f2 cX4_f3 cX4_f4 cX4_f5 cX4_f6 cX4_f7
 have NX3_X4 : X3 ≠ X4 := by have OX4_ := OX4.out; omega
 have NX4_X3 : X4 ≠ X3 := NX3_X4.symm
 obtain ⟨W10, hW⟩ : ∃ W, W = ((((((((w6.setCell ⟨X4, 0, none⟩ (.string ⟨L.name.toArray⟩)).setCell ⟨X4, 1, none⟩ (.int .i64 (L.height : Nat))).setCell ⟨X4, 2, none⟩ (.slice o1 L.blocks.length k1)).setCell ⟨X4, 3, none⟩ (.slice o2 L.areas.length k2)).setCell ⟨X4, 4, none⟩ (.slice o3 L.aisles.length k3)).setCell ⟨X4, 5, none⟩ (.slice o4 L.pillars.length k4)).setCell ⟨X4, 6, none⟩ (.slice o5 L.doors.length k5)).setCell ⟨X4, 7, none⟩ (.int .i64 (L.at_ : Nat))) := ⟨_, rfl⟩
 rw [← hW]
 have HX4_10 : Hid (Blk W10 X4 [.string ⟨L.name.toArray⟩, .int .i64 (L.height : Nat), .slice o1 L.blocks.length k1, .slice o2 L.areas.length k2, .slice o3 L.aisles.length k3, .slice o4 L.pillars.length k4, .slice o5 L.doors.length k5, .int .i64 (L.at_ : Nat)] 47) := hd (by rw [hW]; exact ((((((((HX4_9.out.set 0 (.string ⟨L.name.toArray⟩)).set 1 (.int .i64 (L.height : Nat))).set 2 (.slice o1 L.blocks.length k1)).set 3 (.slice o2 L.areas.length k2)).set 4 (.slice o3 L.aisles.length k3)).set 5 (.slice o4 L.pillars.length k4)).set 6 (.slice o5 L.doors.length k5)).set 7 (.int .i64 (L.at_ : Nat))))
 have C10 := hd (C9.out.s8 hW (.inr (by have OX3_ := OX3.out; have OX4_ := OX4.out; show Wb.heap.size ≤ X4; omega)))
 have Kk_10 := hd (Kk_9.out.s8 hW (.inr (by have := Mk_X4.out; omega)))
 have KP_10 := hd ((Chg.refl [X3, X4] w6).s8 hW (.inl (by simp)))
 have Kz_10 := hd ((Chg.refl [X4] w6).s8 hW (.inl (by simp)))
 clear hW
 (try simp only [Exit.inBlock, Exit.then])
 have HL7 : Hid (LX B L (.slice o1 L.blocks.length k1) (.slice o2 L.areas.length k2) (.slice o3 L.aisles.length k3) (.slice o4 L.pillars.length k4) (.slice o5 L.doors.length k5) W10) := hd (HL6.out.keep Kz_10.out (tyb_blk6 HX4_9.out (by decide)))
 have HFR : RR Pn.item en q 0 a (Pn.It.door (0, 0)) q6 e6 a6 := by
  have h1 := RR.fail HF.out (f := Pn.item) (fun _ => Pn.itm_none (fun i hi => by match i, hi with | 0, _ => exact HS0.out | 1, _ => exact HS1.out | 2, _ => exact HS2.out | 3, _ => exact HS3.out | 4, _ => exact HS4.out) HWZ.out) (Pn.It.door (0, 0)) q6
  have h2 := (HF.out.2 rfl).1
  obtain ⟨h3, h4⟩ := HR6.out.1 (by rw [h2]; exact code4_ne q)
  rw [h3, h4]
  exact h1
 have HNZ : e6 ≠ 0 := by
  have h2 := (HF.out.2 rfl).1
  rw [(HR6.out.1 (by rw [h2]; exact code4_ne q)).1, h2]
  exact code4_ne q
 refine bodyPost_ret (results_cell_row rfl _ _ X4 47 #[.string ⟨L.name.toArray⟩, .int .i64 (L.height : Nat), .slice o1 L.blocks.length k1, .slice o2 L.areas.length k2, .slice o3 L.aisles.length k3, .slice o4 L.pillars.length k4, .slice o5 L.doors.length k5, .int .i64 (L.at_ : Nat)] (0, 0) _ rfl HX4_10.out Tryd.underlying47 rfl (by kernel_rfl)) rfl ⟨L, _, _, _, _, _, Pn.It.door (0, 0), q6, e6, a6, rfl, HL7.out, HFR, .inr ⟨rfl, HNZ⟩, (HP6.out.keep KP_10.out (al2 BX3.out BX4.out)), C10.out, fun K ds hK hn => Kk_10.out.blk hK (by simp [hn])⟩
end Go.Proofs.YtocadlcglgpdcaaDoor
