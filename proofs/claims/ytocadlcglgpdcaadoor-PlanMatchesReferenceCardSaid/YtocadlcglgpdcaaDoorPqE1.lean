/-
 Plan, the reference, layer 5: item, kind 1. Printed by genpqe06.py.
-/
import Derived.Test.YtocadlcglgpdcaaDoorPqD
namespace Go.Proofs.YtocadlcglgpdcaaDoor
set_option linter.unusedVariables false
set_option linter.unusedSimpArgs false
open Go Go.RowKit Go.Shelf
open Lx (Tk)
attribute [local go_sem ↓] Go.wp_at_zero Go.wp_at_succ
attribute [local irreducible] Go.wpStill
set_option maxHeartbeats 8000000 in
set_option maxRecDepth 100000 in
theorem ritem1_spec (w Wb : World) (b a en B : Nat) (q : List Tk) (L : Pn.Lv) (u1 u2 u3 u4 u5 : Value) (HP : Hid (Rp w b q 0 a en)) (HWK : Hid (∀ t ∈ q, Pn.Wk t)) (HLX : Hid (LX B L u1 u2 u3 u4 u5 w)) (HSZ : Hid (L.blocks.length ≤ 2000000 ∧ L.areas.length ≤ 2000000 ∧ L.aisles.length ≤ 2000000 ∧ L.pillars.length ≤ 2000000 ∧ L.doors.length ≤ 2000000)) (HBW : Hid (b < Wb.heap.size)) (HWB : Hid (Wb.heap.size ≤ B)) (HBs : Hid (B ≤ w.heap.size)) (HCb : Hid (Chg [b] Wb w)) (HST : Hid (Pn.isw [98, 108, 111, 99, 107] q = true)) : Calls Tryd.prog 41 #[.pointer (some ⟨b, 0, none⟩), .agg #[.string ⟨L.name.toArray⟩, .int .i64 (L.height : Nat), u1, u2, u3, u4, u5, .int .i64 (L.at_ : Nat)]] w (ItemR Wb b B en q 0 a L w) := by
 obtain ⟨o1, k1, rfl⟩ := HLX.out.1.1.form
 obtain ⟨o2, k2, rfl⟩ := HLX.out.1.2.1.form
 obtain ⟨o3, k3, rfl⟩ := HLX.out.1.2.2.1.form
 obtain ⟨o4, k4, rfl⟩ := HLX.out.1.2.2.2.1.form
 obtain ⟨o5, k5, rfl⟩ := HLX.out.1.2.2.2.2.form
 have HbB : Hid (b < B) := hd (by have h1 := HBW.out; have h2 := HWB.out; omega)
 obtain ⟨t1, r1, rfl, -⟩ := isw_cons HST.out
 have HIT : Hid (Pn.item (t1 :: r1) = Pn.itemK 1 (Rl.place en (t1 :: r1)) r1) := hd (Pn.itm_of 0 en (by omega) HST.out)
 obtain ⟨i1, hi1, iz0, iz1, iz2⟩ := info_parts info_it1
 have hml : L.blocks.length ≤ 2000000 := HSZ.out.1
 go_enter Tryd.func41, Tryd.ntmps41
 go_upto_region 1 with fail
 obtain ⟨W1, hW⟩ : ∃ W, W = ((w.alloc (.cells #[.string ⟨L.name.toArray⟩, .int .i64 (L.height : Nat), .slice o1 L.blocks.length k1, .slice o2 L.areas.length k2, .slice o3 L.aisles.length k3, .slice o4 L.pillars.length k4, .slice o5 L.doors.length k5, .int .i64 (L.at_ : Nat)] 47)).alloc (.cells #[.string ⟨#[]⟩, .int .i64 0, .slice none 0 0, .slice none 0 0, .slice none 0 0, .slice none 0 0, .slice none 0 0, .int .i64 0] 47)) := ⟨_, rfl⟩
 rw [← hW]
 obtain ⟨X4, hX4⟩ : ∃ T, T = w.heap.size + 1 := ⟨_, rfl⟩
 try rw [← hX4]
 obtain ⟨X3, hX3⟩ : ∃ T, T = w.heap.size := ⟨_, rfl⟩
 try rw [← hX3]
 have OX3 : Hid (Wb.heap.size ≤ X3) := hd (by rw [hX3]; exact HCb.out.size)
 have OX4 : Hid (X3 < X4) := hd (by rw [hX4, hX3]; omega)
 have HX3_1 : Hid (Blk W1 X3 [.string ⟨L.name.toArray⟩, .int .i64 (L.height : Nat), .slice o1 L.blocks.length k1, .slice o2 L.areas.length k2, .slice o3 L.aisles.length k3, .slice o4 L.pillars.length k4, .slice o5 L.doors.length k5, .int .i64 (L.at_ : Nat)] 47) := hd (by
  have h1 := Blk.new w [.string ⟨L.name.toArray⟩, .int .i64 (L.height : Nat), .slice o1 L.blocks.length k1, .slice o2 L.areas.length k2, .slice o3 L.aisles.length k3, .slice o4 L.pillars.length k4, .slice o5 L.doors.length k5, .int .i64 (L.at_ : Nat)] 47
  have h2 : w.heap.size = X3 := by simp [hX3]
  rw [h2] at h1
  rw [hW]
  exact (h1.alloc _))
 have HX4_1 : Hid (Blk W1 X4 [.string ⟨#[]⟩, .int .i64 0, .slice none 0 0, .slice none 0 0, .slice none 0 0, .slice none 0 0, .slice none 0 0, .int .i64 0] 47) := hd (by
  have h1 := Blk.new (w.alloc (.cells #[.string ⟨L.name.toArray⟩, .int .i64 (L.height : Nat), .slice o1 L.blocks.length k1, .slice o2 L.areas.length k2, .slice o3 L.aisles.length k3, .slice o4 L.pillars.length k4, .slice o5 L.doors.length k5, .int .i64 (L.at_ : Nat)] 47)) [.string ⟨#[]⟩, .int .i64 0, .slice none 0 0, .slice none 0 0, .slice none 0 0, .slice none 0 0, .slice none 0 0, .int .i64 0] 47
  have h2 : (w.alloc (.cells #[.string ⟨L.name.toArray⟩, .int .i64 (L.height : Nat), .slice o1 L.blocks.length k1, .slice o2 L.areas.length k2, .slice o3 L.aisles.length k3, .slice o4 L.pillars.length k4, .slice o5 L.doors.length k5, .int .i64 (L.at_ : Nat)] 47)).heap.size = X4 := by simp [hX4]
  rw [h2] at h1
  rw [hW]
  exact h1)
 have BX3 : Hid (b < X3) := hd (by have h1 := HBW.out; have OX3_ := OX3.out; omega)
 have BX4 : Hid (b < X4) := hd (by have h1 := HBW.out; have OX3_ := OX3.out; have OX4_ := OX4.out; omega)
 have C1 : Hid (Chg [b] Wb W1) := hd (by rw [hW]; exact ((HCb.out.alloc _).alloc _))
 have KP_1 : Hid (Chg [] w W1) := hd (by rw [hW]; exact (((Chg.refl [] w).alloc _).alloc _))
 have Kk_1 : Hid (Chg [b] w W1) := hd (by rw [hW]; exact (((Chg.refl [b] w).alloc _).alloc _))
 have Mk_X3 : Hid (w.heap.size ≤ X3) := hd (by rw [hX3]; have h1 := (Chg.refl [b] w).size; omega)
 have Mk_X4 : Hid (w.heap.size ≤ X4) := hd (by rw [hX4]; have h1 := (Chg.refl [b] w).size; omega)
 clear hW hX3 hX4
 go_wp2_with fail
 refine rat_r (hd (HP.out.keep KP_1.out (by simp))) (fun w1 HP1 HC1 => ?_)
 have HX3_2 : Hid (Blk w1 X3 [.string ⟨L.name.toArray⟩, .int .i64 (L.height : Nat), .slice o1 L.blocks.length k1, .slice o2 L.areas.length k2, .slice o3 L.aisles.length k3, .slice o4 L.pillars.length k4, .slice o5 L.doors.length k5, .int .i64 (L.at_ : Nat)] 47) := hd (HC1.out.blk HX3_1.out (by simp))
 have HX4_2 : Hid (Blk w1 X4 [.string ⟨#[]⟩, .int .i64 0, .slice none 0 0, .slice none 0 0, .slice none 0 0, .slice none 0 0, .slice none 0 0, .int .i64 0] 47) := hd (HC1.out.blk HX4_1.out (by simp))
 have C2 := hd (C1.out.trans HC1.out (by simp))
 have Kk_2 := hd (Kk_1.out.trans HC1.out (by simp))
 obtain ⟨at9, hat9⟩ : ∃ x, x = Rl.place en (t1 :: r1) := ⟨_, rfl⟩
 rw [← hat9]
 have HAT := hd hat9
 clear hat9
 rw [← HAT.out] at HIT
 go_wp2_with fail
 refine sees_r (hd HP1.out) [98, 108, 111, 99, 107] (fun bo w20 HB HP20 HC20 => ?_)
 obtain rfl : bo = true := by rw [← HB.out]; unfold seesB; rw [HST.out]; rfl
 clear HB
 have HX3_3 := hd (HC20.out.blk HX3_2.out (by simp))
 have HX4_3 := hd (HC20.out.blk HX4_2.out (by simp))
 have C3 := hd (C2.out.trans HC20.out (by simp))
 have Kk_3 := hd (Kk_2.out.trans HC20.out (by simp))
 obtain ⟨ir, hir, rz0, rz1, rz2⟩ := info_parts info_row
 obtain ⟨n9, i9, ao9, cap9, k1, k2, hb9, hst9⟩ := step_over HP20.out
 have c1 := hb9.cell (i := 1) rfl
 have f1 := hb9.free 1
 have hw9 : IntKind.i64.wrap ((i9 : Int) + 1) = (i9 : Int) + 1 := IntWalk.i64_in _ (by omega)
 obtain ⟨hs1, hs2⟩ := hst9 w20 (Chg.refl _ _)
 have HS1 := hd hs1
 have HS2 := hd hs2
 clear hb9 hst9 hs1 hs2 k1 k2
 go_upto_region 4 with fail
 obtain ⟨w25, hw25⟩ : ∃ x, x = w20.setCell ⟨b, 1, none⟩ (.int .i64 ((i9 : Int) + 1)) := ⟨_, rfl⟩
 rw [← hw25]
 rw [← hw25] at HS1 HS2
 clear hw25 c1 f1 hw9
 have NX3_b : X3 ≠ b := by have h1 := HBW.out; have OX3_ := OX3.out; omega
 have Nb_X3 : b ≠ X3 := NX3_b.symm
 have NX4_b : X4 ≠ b := by have h1 := HBW.out; have OX3_ := OX3.out; have OX4_ := OX4.out; omega
 have Nb_X4 : b ≠ X4 := NX4_b.symm
 have HX3_4 := hd (HS2.out.blk HX3_3.out (by simp [NX3_b]))
 have HX4_4 := hd (HS2.out.blk HX4_3.out (by simp [NX4_b]))
 have C4 := hd (C3.out.trans HS2.out (al1 (.inl (by simp))))
 have Kk_4 := hd (Kk_3.out.trans HS2.out (al1 (.inl (by simp))))
 go_wp2_with fail
 refine rname_r (hd HS1.out) (fun x5 q5 e5 a5 w5 HR5 HP5 HC5 => ?_)
 have HX3_5 := hd (HC5.out.blk HX3_4.out (by simp [NX3_b]))
 have HX4_5 := hd (HC5.out.blk HX4_4.out (by simp [NX4_b]))
 have C5 := hd (C4.out.trans HC5.out (al1 (.inl (by simp))))
 have Kk_5 := hd (Kk_4.out.trans HC5.out (al1 (.inl (by simp))))
 go_upto_region 5 with fail
 obtain ⟨W6, hW⟩ : ∃ W, W = (w5.alloc (.cells #[.string ⟨x5.toArray⟩, .slice none 0 0, .int .i64 (at9 : Nat)] 51)) := ⟨_, rfl⟩
 rw [← hW]
 obtain ⟨X6, hX6⟩ : ∃ T, T = w5.heap.size := ⟨_, rfl⟩
 try rw [← hX6]
 have OX6 : Hid (X4 < X6) := hd (by rw [hX6]; exact HX4_5.out.lt)
 have HX3_6 := hd (HX3_5.out.alE hW)
 have HX4_6 := hd (HX4_5.out.alE hW)
 have HX6_6 : Hid (Blk W6 X6 [.string ⟨x5.toArray⟩, .slice none 0 0, .int .i64 (at9 : Nat)] 51) := hd (by
  have h1 := Blk.new w5 [.string ⟨x5.toArray⟩, .slice none 0 0, .int .i64 (at9 : Nat)] 51
  have h2 : w5.heap.size = X6 := by simp [hX6]
  rw [h2] at h1
  rw [hW]
  exact h1)
 have BX6 : Hid (b < X6) := hd (by have h1 := HBW.out; have OX3_ := OX3.out; have OX4_ := OX4.out; have OX6_ := OX6.out; omega)
 have C6 := hd (C5.out.alE hW)
 have Kk_6 := hd (Kk_5.out.alE hW)
 have KP_6 : Hid (Chg [X3, X4] w5 W6) := hd (by rw [hW]; exact ((Chg.refl [X3, X4] w5).alloc _))
 have Mk_X6 : Hid (w.heap.size ≤ X6) := hd (by rw [hX6]; have h1 := Kk_5.out.size; omega)
 clear hW hX6
 go_wp2_with fail
 refine rmust_r (hd (HP5.out.keep KP_6.out (al2 BX3.out BX4.out))) [123] (fun q6 e6 a6 w6 HR6 HP6 HC6 => ?_)
 have NX6_b : X6 ≠ b := by have h1 := HBW.out; have OX3_ := OX3.out; have OX4_ := OX4.out; have OX6_ := OX6.out; omega
 have Nb_X6 : b ≠ X6 := NX6_b.symm
 have HX3_7 := hd (HC6.out.blk HX3_6.out (by simp [NX3_b]))
 have HX4_7 := hd (HC6.out.blk HX4_6.out (by simp [NX4_b]))
 have HX6_7 : Hid (Blk w6 X6 [.string ⟨x5.toArray⟩, .slice none 0 0, .int .i64 (at9 : Nat)] 51) := hd (HC6.out.blk HX6_6.out (by simp [NX6_b]))
 have C7 := hd (C6.out.trans HC6.out (al1 (.inl (by simp))))
 have Kk_7 := hd (Kk_6.out.trans HC6.out (al1 (.inl (by simp))))
 have HP0 : Hid (Rp w6 b q6 e6 a6 en) := hd HP6.out
 have HSF : Hid (Sf r1 0 q6 e6) := hd ((HR5.out.sf Pn.nice_name).trans (HR6.out.sf (Pn.nice_must _)))
 have HRL := hd HP6.out.small
 have HCk : Hid (Chg [b] w w6) := hd Kk_7.out
 have HXL : Hid (X6 < w6.heap.size) := hd HX6_7.out.lt
 have HWL : Hid (B ≤ w6.heap.size) := hd (Nat.le_trans HBs.out HCk.out.size)
 have HbL : Hid (b < w6.heap.size) := hd (Nat.lt_of_lt_of_le HbB.out HWL.out)
 go_wp2_with fail
 go_loopw [] (fun wr => ∃ (rs : List Pn.Rw) (q1 : List Tk) (er1 a1 : Nat) (vo : Option Addr) (vc : Nat), Hid (Blk wr X6 [.string ⟨x5.toArray⟩, .slice vo rs.length vc, .int .i64 (at9 : Nat)] 51) ∧ Hid (ListS w6.heap.size 54 8 (Crw w6.heap.size) rs (.slice vo rs.length vc) wr) ∧ Hid (Rp wr b q1 er1 a1 en) ∧ Hid (GLI Pn.row en q6 e6 a6 rs q1 er1 a1) ∧ Hid (Chg [b, X6] w6 wr)) (fun wr => mz b wr)
 case atStart => exact ⟨[], q6, e6, a6, none, 0, HX6_7, hd (ListS.nil _ _ _ _ _), HP0, hd (gli_start _ _ _ _ _), hd (Chg.refl _ _)⟩
 case round =>
  obtain ⟨rs, q1, er1, a1, vo, vc, HX6, HL, HPq, HMI, HCL⟩ := hrel
  obtain ⟨wo, hwn⟩ : ∃ x, x = wr := ⟨_, rfl⟩
  subst hwn
  have NX3_X6 : X3 ≠ X6 := by have OX4_ := OX4.out; have OX6_ := OX6.out; omega
  have NX6_X3 : X6 ≠ X3 := NX3_X6.symm
  have NX4_X6 : X4 ≠ X6 := by have OX6_ := OX6.out; omega
  have NX6_X4 : X6 ≠ X4 := NX4_X6.symm
  have HX3_8 := hd (HCL.out.blk HX3_7.out (by simp [NX3_b, NX3_X6]))
  have HX4_8 := hd (HCL.out.blk HX4_7.out (by simp [NX4_b, NX4_X6]))
  have C8 := hd (C7.out.trans HCL.out (al2 (.inl (by simp)) (.inr (by have OX3_ := OX3.out; have OX4_ := OX4.out; have OX6_ := OX6.out; show Wb.heap.size ≤ X6; omega))))
  have Kk_8 := hd (Kk_7.out.trans HCL.out (al2 (.inl (by simp)) (.inr Mk_X6.out)))
  have KL_8 := hd ((Chg.refl [b, X6] w6).trans HCL.out (al2 (.inl (by simp)) (.inl (by simp))))
  have hmlr : rs.length ≤ 1000001 := by have h1 := HMI.out.2.2; have h2 := HRL.out; omega
  obtain ⟨nb, ib, aob, capb, hbb⟩ := HPq.out.any
  have cb2 := hbb.cell (i := 2) rfl
  clear hbb
  by_cases he : er1 = 0
  · have e0 : ((er1 : Int) == 0) = true := by rw [he]; rfl
    have HE := hd he
    clear he
    go_wp2_with fail
    refine sees_r (hd HPq.out) [125] (fun bo w21 HB HPs HCs => ?_)
    clear cb2
    have HX3_9 := hd (HCs.out.blk HX3_8.out (by simp))
    have HX4_9 := hd (HCs.out.blk HX4_8.out (by simp))
    have HX6_9 : Hid (Blk w21 X6 [.string ⟨x5.toArray⟩, .slice vo rs.length vc, .int .i64 (at9 : Nat)] 51) := hd (HCs.out.blk HX6.out (by simp))
    have C9 := hd (C8.out.trans HCs.out (by simp))
    have Kk_9 := hd (Kk_8.out.trans HCs.out (by simp))
    have KL_9 := hd (KL_8.out.trans HCs.out (by simp))
    have Ko_9 := hd ((Chg.refl [b, X6] wo).trans HCs.out (by simp))
    cases bo with
    | true =>
     go_wp2_with fail
     refine rmust_r (hd HPs.out) [125] (fun q9y e9y a9y w9y HR9y HP9y HC9y => ?_)
     have HX3_10 := hd (HC9y.out.blk HX3_9.out (by simp [NX3_b]))
     have HX4_10 := hd (HC9y.out.blk HX4_9.out (by simp [NX4_b]))
     have HX6_10 := hd (HC9y.out.blk HX6_9.out (by simp [NX6_b]))
     have C10 := hd (C9.out.trans HC9y.out (al1 (.inl (by simp))))
     have Kk_10 := hd (Kk_9.out.trans HC9y.out (al1 (.inl (by simp))))
     have Ko_10 := hd (Ko_9.out.trans HC9y.out (al1 (.inl (by simp))))
     have HRF := hd (gli_close HMI.out HE.out (sees_true HB.out).2 HR9y.out)
     have HLe : Hid (ListS B 54 8 (Crw B) rs (.slice vo rs.length vc) w9y) := hd ((HL.out.keep (kp_rw _) Ko_10.out (TyB.lower (by intro z hz; simp only [List.mem_cons, List.not_mem_nil, or_false] at hz; rcases hz with h9 | h9; (rw [h9]; exact HbL.out); (rw [h9]; exact HXL.out)) _)).mono HWL.out (mono_rw HWL.out))
     have HLn : Hid (LX B L (.slice o1 L.blocks.length k1) (.slice o2 L.areas.length k2) (.slice o3 L.aisles.length k3) (.slice o4 L.pillars.length k4) (.slice o5 L.doors.length k5) w9y) := hd (HLX.out.keep Kk_10.out (TyB.lower (fun z hz => by simp only [List.mem_cons, List.not_mem_nil, or_false] at hz; rw [hz]; exact HbB.out) _))
     have NX3_X4 : X3 ≠ X4 := by have OX4_ := OX4.out; omega
     have NX4_X3 : X4 ≠ X3 := NX3_X4.symm
     have MX3 : Hid (w.heap.size ≤ X3) := Mk_X3
     have MX4 : Hid (w.heap.size ≤ X4) := Mk_X4
     have HLk : Hid (LX B L (.slice o1 L.blocks.length k1) (.slice o2 L.areas.length k2) (.slice o3 L.aisles.length k3) (.slice o4 L.pillars.length k4) (.slice o5 L.doors.length k5) (w9y.alloc (.cells #[.string ⟨x5.toArray⟩, .slice vo rs.length vc, .int .i64 (at9 : Nat)] 51))) := hd (HLn.out.keep ((Chg.refl [] _).alloc _) (TyB.nil _ _ _))
     have HCk : Hid (Chg [b] w w9y) := hd Kk_10.out
     have hsz0 : B ≤ w9y.heap.size := Nat.le_trans HBs.out HCk.out.size
     have HSZ8 : Hid (B ≤ (w9y.alloc (.cells #[.string ⟨x5.toArray⟩, .slice vo rs.length vc, .int .i64 (at9 : Nat)] 51)).heap.size) := hd (Nat.le_trans hsz0 ((Chg.refl [] _).alloc _).size)
     clear hsz0
     have HPk : Hid (Rp w9y b q9y e9y a9y en) := hd HP9y.out
     obtain ⟨cX3_0, cX3_1, cX3_2, cX3_3, cX3_4, cX3_5, cX3_6, cX3_7⟩ := HX3_10.out.c8
     obtain ⟨cX6_0, cX6_1, cX6_2⟩ := HX6_10.out.c3
     go_wp2_with (at_builtin; refine wpList_snoc6 rfl (.tmp 46) (.tmp 48) 42 rfl 51 i1 _ 3 48 Tryd.underlying42 hi1 iz0 iz1 iz2 rfl (by decide) (C := (Cbk B)) (Es := [54, 64]) (.slice o1 L.blocks.length k1) L.blocks.length rfl HLk.out.1.1 rfl (kp_bk B) (by decide) (⟨x5, rs, at9⟩ : Pn.Bl) [.string ⟨x5.toArray⟩, .slice vo rs.length vc, .int .i64 (at9 : Nat)] ⟨_, rfl, HLe.out.keep (kp_rw _) ((Chg.refl [] _).alloc _) (TyB.nil _ _ _)⟩ rfl (by intro u hu; simp at hu; rcases hu with rfl | rfl | rfl <;> rfl) w9y.heap.size rfl (Blk.new w9y [.string ⟨x5.toArray⟩, .slice vo rs.length vc, .int .i64 (at9 : Nat)] 51) (by unfold maxLen; omega) (by omega) HSZ8.out ?kk)
     case kk =>
      intro g8 c8 v8 hl8 hg8 ho8 hk8
      have HAK := hd (appk HLk.out.1.1 hg8)
      have HLX8 : Hid (LX B { L with blocks := L.blocks ++ [(⟨x5, rs, at9⟩ : Pn.Bl)] } (.slice (some ⟨g8, 0, none⟩) (L.blocks.length + 1) c8) (.slice o2 L.areas.length k2) (.slice o3 L.aisles.length k3) (.slice o4 L.pillars.length k4) (.slice o5 L.doors.length k5) v8) := hd (HLk.out.app1 hg8 (⟨x5, rs, at9⟩ : Pn.Bl) hl8)
      have HC8 : Hid (Chg [b] Wb v8) := hd (HAK.out.2 _ _ (C10.out.alloc _) HWB.out)
      have HP8 : Hid (Rp v8 b q9y e9y a9y en) := hd (HPk.out.via (W := Wb) (own := [b]) C10.out HC8.out (fun ds S h => HAK.out.1 _ _ _ (h.alloc _) (.inl HbB.out)) (fun z hz => by simp only [List.mem_cons, List.not_mem_nil, or_false] at hz; rw [hz]; exact Nat.le_refl _) HBW.out)
      have HKK : Hid (∀ K ds, Blk w K ds 47 → K ≠ b → Blk v8 K ds 47) := hd (fun K ds hK hn => HAK.out.1 _ _ _ ((Kk_10.out.blk hK (by simp [hn])).alloc _) (.inr (by decide)))
      have HX3_8 := hd (HAK.out.1 _ _ _ (HX3_10.out.alloc _) (.inr (by decide)))
      have HX4_8 := hd (HAK.out.1 _ _ _ (HX4_10.out.alloc _) (.inr (by decide)))
      have HTY : Hid (TyB [b, X3, X4] v8 B [51, 54, 64, 58, 56, 24]) := hd (tyb_lv HbB.out HX3_8.out HX4_8.out (by decide))
      clear hl8 hg8 ho8 hk8
      clear HX6_10
      clear cX3_0 cX3_1 cX3_2 cX3_3 cX3_4 cX3_5 cX3_6 cX3_7 cX6_0 cX6_1 cX6_2
      obtain ⟨cX3_0, cX3_1, cX3_2, cX3_3, cX3_4, cX3_5, cX3_6, cX3_7⟩ := HX3_8.out.c8
      obtain ⟨cX3_f0, cX3_f1, cX3_f2, cX3_f3, cX3_f4, cX3_f5, cX3_f6, cX3_f7⟩ := HX3_8.out.f8
      go_upto_region 10 with fail
      clear cX3_0 cX3_1 cX3_2 cX3_3 cX3_4 cX3_5 cX3_6 cX3_7 cX3_f0 cX3_f1 cX3_f2 cX3_f3 cX3_f4 cX3_f5 cX3_f6 cX3_f7
      obtain ⟨W11, hW⟩ : ∃ W, W = (v8.setCell ⟨X3, 2, none⟩ (.slice (some ⟨g8, 0, none⟩) (L.blocks.length + 1) c8)) := ⟨_, rfl⟩
      rw [← hW]
      have HX3_11 : Hid (Blk W11 X3 [.string ⟨L.name.toArray⟩, .int .i64 (L.height : Nat), .slice (some ⟨g8, 0, none⟩) (L.blocks.length + 1) c8, .slice o2 L.areas.length k2, .slice o3 L.aisles.length k3, .slice o4 L.pillars.length k4, .slice o5 L.doors.length k5, .int .i64 (L.at_ : Nat)] 47) := hd (by rw [hW]; exact (HX3_8.out.set 2 (.slice (some ⟨g8, 0, none⟩) (L.blocks.length + 1) c8)))
      have HX4_11 := hd (HX4_8.out.o1 hW NX4_X3)
      have C11 := hd (HC8.out.s1 hW (.inr (by have OX3_ := OX3.out; show Wb.heap.size ≤ X3; omega)))
      have Ke_11 := hd ((Chg.refl [b, X3, X4] v8).s1 hW (.inl (by simp)))
      have KP_11 := hd ((Chg.refl [X3, X4] v8).s1 hW (.inl (by simp)))
      clear hW
      obtain ⟨cX3_0, cX3_1, cX3_2, cX3_3, cX3_4, cX3_5, cX3_6, cX3_7⟩ := HX3_11.out.c8
      obtain ⟨cX4_0, cX4_1, cX4_2, cX4_3, cX4_4, cX4_5, cX4_6, cX4_7⟩ := HX4_11.out.c8
      obtain ⟨cX4_f0, cX4_f1, cX4_f2, cX4_f3, cX4_f4, cX4_f5, cX4_f6, cX4_f7⟩ := HX4_11.out.f8
      go_wp2_with fail
      clear cX3_0 cX3_1 cX3_2 cX3_3 cX3_4 cX3_5 cX3_6 cX3_7 cX4_0 cX4_1 cX4_2 cX4_3 cX4_4 cX4_5 cX4_6 cX4_7 cX4_f0 cX4_f1 cX4_f2 cX4_f3 cX4_f4 cX4_f5 cX4_f6 cX4_f7
      obtain ⟨W12, hW⟩ : ∃ W, W = ((((((((W11.setCell ⟨X4, 0, none⟩ (.string ⟨L.name.toArray⟩)).setCell ⟨X4, 1, none⟩ (.int .i64 (L.height : Nat))).setCell ⟨X4, 2, none⟩ (.slice (some ⟨g8, 0, none⟩) (L.blocks.length + 1) c8)).setCell ⟨X4, 3, none⟩ (.slice o2 L.areas.length k2)).setCell ⟨X4, 4, none⟩ (.slice o3 L.aisles.length k3)).setCell ⟨X4, 5, none⟩ (.slice o4 L.pillars.length k4)).setCell ⟨X4, 6, none⟩ (.slice o5 L.doors.length k5)).setCell ⟨X4, 7, none⟩ (.int .i64 (L.at_ : Nat))) := ⟨_, rfl⟩
      rw [← hW]
      have HX4_12 : Hid (Blk W12 X4 [.string ⟨L.name.toArray⟩, .int .i64 (L.height : Nat), .slice (some ⟨g8, 0, none⟩) (L.blocks.length + 1) c8, .slice o2 L.areas.length k2, .slice o3 L.aisles.length k3, .slice o4 L.pillars.length k4, .slice o5 L.doors.length k5, .int .i64 (L.at_ : Nat)] 47) := hd (by rw [hW]; exact ((((((((HX4_11.out.set 0 (.string ⟨L.name.toArray⟩)).set 1 (.int .i64 (L.height : Nat))).set 2 (.slice (some ⟨g8, 0, none⟩) (L.blocks.length + 1) c8)).set 3 (.slice o2 L.areas.length k2)).set 4 (.slice o3 L.aisles.length k3)).set 5 (.slice o4 L.pillars.length k4)).set 6 (.slice o5 L.doors.length k5)).set 7 (.int .i64 (L.at_ : Nat))))
      have C12 := hd (C11.out.s8 hW (.inr (by have OX3_ := OX3.out; have OX4_ := OX4.out; show Wb.heap.size ≤ X4; omega)))
      have Ke_12 := hd (Ke_11.out.s8 hW (.inl (by simp)))
      have KP_12 := hd (KP_11.out.s8 hW (.inl (by simp)))
      clear hW
      (try simp only [Exit.inBlock, Exit.then])
      have HLF : Hid (LX B { L with blocks := L.blocks ++ [(⟨x5, rs, at9⟩ : Pn.Bl)] } (.slice (some ⟨g8, 0, none⟩) (L.blocks.length + 1) c8) (.slice o2 L.areas.length k2) (.slice o3 L.aisles.length k3) (.slice o4 L.pillars.length k4) (.slice o5 L.doors.length k5) W12) := hd (HLX8.out.keep Ke_12.out HTY.out)
      have HRR : RR Pn.item en (t1 :: r1) 0 a (Pn.It.block (⟨x5, rs, at9⟩ : Pn.Bl)) q9y e9y a9y := rr_item HIT.out ((show RR (Pn.block at9) en r1 0 a (⟨x5, rs, at9⟩ : Pn.Bl) q9y e9y a9y from HR5.out.bind (HR6.out.bind (HRF.out.map (fun rs => (⟨x5, rs, at9⟩ : Pn.Bl))))).map Pn.It.block)
      refine bodyPost_ret (results_cell_row rfl _ _ X4 47 #[.string ⟨L.name.toArray⟩, .int .i64 (L.height : Nat), .slice (some ⟨g8, 0, none⟩) (L.blocks.length + 1) c8, .slice o2 L.areas.length k2, .slice o3 L.aisles.length k3, .slice o4 L.pillars.length k4, .slice o5 L.doors.length k5, .int .i64 (L.at_ : Nat)] (0, 0) _ rfl HX4_12.out Tryd.underlying47 rfl (by kernel_rfl)) rfl ⟨{ L with blocks := L.blocks ++ [(⟨x5, rs, at9⟩ : Pn.Bl)] }, _, _, _, _, _, Pn.It.block (⟨x5, rs, at9⟩ : Pn.Bl), q9y, e9y, a9y, rfl, HLF.out, HRR, .inl rfl, (HP8.out.keep KP_12.out (al2 BX3.out BX4.out)), C12.out, fun K ds hK hn => Ke_12.out.blk (HKK.out K ds hK hn) (by
       have h1 := hK.lt
       have h2 := MX3.out
       have h3 := MX4.out
       simp only [List.mem_cons, List.not_mem_nil, or_false, not_or]
       exact ⟨hn, by omega, by omega⟩)⟩
    | false =>
     have HNS : Hid (Pn.isw Pn.cClose q1 = false) := hd (by have h1 := HB.out; unfold seesB at h1; simp [HE.out] at h1; exact h1)
     have HWQ : Hid (∀ t ∈ q1, Pn.Wk t) := hd (by obtain ⟨h1, h2⟩ := (HSF.out.trans (gli_suf HMI.out)) HE.out; exact fun t ht => HWK.out t (List.mem_cons_of_mem _ (h2.subset ht)))
     have HL3 : Hid (ListS w6.heap.size 54 8 (Crw w6.heap.size) rs (.slice vo rs.length vc) w21) := hd (HL.out.keep (kp_rw _) Ko_9.out (TyB.lower (by intro z hz; simp only [List.mem_cons, List.not_mem_nil, or_false] at hz; rcases hz with h9 | h9; (rw [h9]; exact HbL.out); (rw [h9]; exact HXL.out)) _))
     go_upto_region 7 with fail
     refine wp_region_held_drew (S := fun W' => True) (by kernel_rfl) trivial (fun hHeld => ?_)
     refine tk 0 (v := ?vr0) rfl (by kernel_rfl) (fun _ _ _ h => h) ?hyr0 (by assumption) ?rsr0
     case hyr0 => (intro w9 hSw; go_simp; try with_reducible rfl)
     try simp only [qq, qr]
     refine tk 2 (v := ?vr2) rfl (by kernel_rfl) (fun _ _ _ h => h) ?hyr2 (by assumption) ?rsr2
     case hyr2 => (intro w9 hSw; go_simp; try with_reducible rfl)
     try simp only [qq, qr]
     refine rd2 1 3 (by kernel_rfl) rfl rfl (fun K hK => ?_) (fun K hK => ?_)
     · have x0 := (HX6_9.out.drew).cell (i := 1) rfl
       go_simp
       refine hK.out _ _ trivial (fun _ => ?_)
       clear hK K
       try simp only [qq, qr]
       clear x0
       refine rd1 3 (by kernel_rfl) rfl (fun K hK => ?_)
       go_simp
       refine rrow_r (hd (Rp.quiet HPs.out (Chg.refl _ _).drew)) HWQ w6.heap.size (Nat.le_trans KL_9.out.size (Nat.le_refl _)) (fun x uo uc q5 er5 a5 wx HRx HPx HCd HUx => ?_)
       have HCx : Hid (Chg [b] w21 wx) := hd (Chg.ofDrew HCd.out)
       have HX6_10 := hd (HCx.out.blk HX6_9.out (by simp [NX6_b]))
       refine hK.out _ _ trivial (fun _ => ?_)
       clear hK K
       try simp only [qq, qr]
       refine rd1 4 (by kernel_rfl) rfl (fun K hK => ?_)
       go_simp
       refine hK.out _ _ trivial (fun _ => ?_)
       clear hK K
       try simp only [qq, qr]
       refine rd1 5 (by kernel_rfl) rfl (fun K hK => ?_)
       have HLk : Hid (ListS w6.heap.size 54 8 (Crw w6.heap.size) rs (.slice vo rs.length vc) (wx.alloc (.cells #[.string ⟨x.name.toArray⟩, .int .i64 (x.x : Nat), .int .i64 (x.y : Nat), .int .i64 (x.f : Nat), .int .i64 (x.t : Nat), .int .i64 (x.step : Nat), .slice uo x.marks.length uc, .int .i64 (x.at_ : Nat)] 54))) := hd ((HL3.out.keep (kp_rw _) HCx.out (TyB.lower (by intro z hz; simp only [List.mem_cons, List.not_mem_nil, or_false] at hz; rw [hz]; exact HbL.out) _)).keep (kp_rw _) ((Chg.refl [] _).alloc _) (TyB.nil _ _ _))
       have hcb : Hid (Chg [b, X6] w6 (wx.alloc (.cells #[.string ⟨x.name.toArray⟩, .int .i64 (x.x : Nat), .int .i64 (x.y : Nat), .int .i64 (x.f : Nat), .int .i64 (x.t : Nat), .int .i64 (x.step : Nat), .slice uo x.marks.length uc, .int .i64 (x.at_ : Nat)] 54))) := hd ((KL_9.out.trans HCx.out (fun k hk => .inl (by simp at hk; simp [hk]))).alloc _)
       refine step_snoc rfl (.tmp 37) (.tmp 40) 49 rfl 54 ir _ 8 88 Tryd.underlying49 hir rz0 rz1 rz2 rfl (by decide) (C := Crw w6.heap.size) (Es := [64]) (.slice vo rs.length vc) rs.length rfl HLk.out rfl (kp_rw _) (by decide) x [.string ⟨x.name.toArray⟩, .int .i64 (x.x : Nat), .int .i64 (x.y : Nat), .int .i64 (x.f : Nat), .int .i64 (x.t : Nat), .int .i64 (x.step : Nat), .slice uo x.marks.length uc, .int .i64 (x.at_ : Nat)] ⟨_, rfl, HUx.out.keep (kp_m _) ((Chg.refl [] _).alloc _) (TyB.nil _ _ _)⟩ rfl (by intro u hu; simp at hu; rcases hu with rfl | rfl | rfl | rfl | rfl | rfl | rfl | rfl <;> rfl) wx.heap.size rfl (Blk.new wx [.string ⟨x.name.toArray⟩, .int .i64 (x.x : Nat), .int .i64 (x.y : Nat), .int .i64 (x.f : Nat), .int .i64 (x.t : Nat), .int .i64 (x.step : Nat), .slice uo x.marks.length uc, .int .i64 (x.at_ : Nat)] 54) (by unfold maxLen; omega) (by omega) hcb.out.size ?kk
       case kk =>
        intro lo8 lc8 v8 hl8 hc8 hb8
        have HL8 := hd hl8
        have HC8 := hd hc8
        have HB8 := hd hb8
        have HCv : Hid (Chg [b, X6] w6 v8) := hd (hc8 _ _ hcb.out (Nat.le_refl _))
        have HP8 : Hid (Rp v8 b q5 er5 a5 en) := hd (HPx.out.via (W := w6) (own := [b, X6]) (KL_9.out.trans HCx.out (fun k hk => .inl (by simp at hk; simp [hk]))) HCv.out (fun ds S h => hb8 _ _ _ (h.alloc _) (.inl HbL.out)) (fun z hz => by simp only [List.mem_cons, List.not_mem_nil, or_false] at hz; rcases hz with h9 | h9; (rw [h9]; exact Nat.le_refl _); (rw [h9]; exact Nat.le_of_lt BX6.out)) HbL.out)
        clear hl8 hc8 hb8
        have HX6_11 := hd (HB8.out _ _ _ (HX6_10.out.alloc _) (.inr (.inl (by decide))))
        refine hK.out _ _ trivial (fun _ => ?_)
        clear hK K
        try simp only [qq, qr]
        refine tk 6 (v := ?vwa6) rfl (by kernel_rfl) (fun _ _ _ h => h) ?hywa6 (by assumption) ?rswa6
        case hywa6 => (intro w9 hSw; go_simp; try with_reducible rfl)
        try simp only [qq, qr]
        refine rd1 7 (by kernel_rfl) rfl (fun K hK => ?_)
        obtain ⟨cX6_0, cX6_1, cX6_2⟩ := HX6_11.out.c3
        obtain ⟨cX6_f0, cX6_f1, cX6_f2⟩ := HX6_11.out.f3
        go_simp
        refine hK.out _ _ trivial (fun _ => ?_)
        clear hK K
        try simp only [qq, qr]
        clear cX6_0 cX6_1 cX6_2 cX6_f0 cX6_f1 cX6_f2
        obtain ⟨W12, hW⟩ : ∃ W, W = (v8.setCell ⟨X6, 1, none⟩ (.slice lo8 (rs.length + 1) lc8)) := ⟨_, rfl⟩
        rw [← hW]
        have HX6_12 : Hid (Blk W12 X6 [.string ⟨x5.toArray⟩, .slice lo8 (rs.length + 1) lc8, .int .i64 (at9 : Nat)] 51) := hd (by rw [hW]; exact (HX6_11.out.set 1 (.slice lo8 (rs.length + 1) lc8)))
        have KL_12 := hd (HCv.out.s1 hW (.inl (by simp)))
        have KP_12 := hd ((Chg.refl [X3, X4, X6] v8).s1 hW (.inl (by simp)))
        have Kv_12 := hd ((Chg.refl [b, X6] v8).s1 hW (.inl (by simp)))
        clear hW
        refine wpAnyH_done (by kernel_rfl) ?_ _
        try simp only [qq, qr]
        have HPz : Hid (Rp W12 b q5 er5 a5 en) := hd (HP8.out.keep KP_12.out (al3 BX3.out BX4.out BX6.out))
        have HLz := Kv_12
        have HL9 : Hid (ListS w6.heap.size 54 8 (Crw w6.heap.size) (rs ++ [x]) (.slice lo8 (rs ++ [x]).length lc8) W12) := hd (by rw [List.length_append]; exact HL8.out.keep (kp_rw _) HLz.out (TyB.lower (by intro z hz; simp only [List.mem_cons, List.not_mem_nil, or_false] at hz; rcases hz with h9 | h9; (rw [h9]; exact HbL.out); (rw [h9]; exact HXL.out)) _))
        have HX9 : Hid (Blk W12 X6 [.string ⟨x5.toArray⟩, .slice lo8 (rs ++ [x]).length lc8, .int .i64 (at9 : Nat)] 51) := hd (by rw [List.length_append]; exact HX6_12.out)
        obtain ⟨hm1, hm2⟩ := gli_step HMI.out HE.out HNS.out Pn.nice_row (fun y r h => by have h1 := Pn.eat_row _ _ _ h; omega) HRx.out
        have HMU : Hid (mz b W12 < mz b wo) := hd (by rw [mz_rp HPz.out, mz_rp HPq.out, if_pos HE.out]; split; (rename_i h9; have := hm2 h9; omega); omega)
        have HM9 := hd hm1
        clear hm1 hm2
        go_wp2_with fail
        refine ⟨?_, HMU.out⟩
        first | exact ⟨rs ++ [x], q5, er5, a5, lo8, lc8, HX9, HL9, HPz, HM9, KL_12⟩ | ((repeat apply Exists.intro); exact ⟨⟨rs ++ [x], q5, er5, a5, lo8, lc8, HX9, HL9, HPz, HM9, KL_12⟩, rfl⟩)
     · skip
       go_simp
       refine rrow_r (hd (Rp.quiet HPs.out (Chg.refl _ _).drew)) HWQ w6.heap.size (Nat.le_trans KL_9.out.size (Nat.le_refl _)) (fun x uo uc q5 er5 a5 wx HRx HPx HCd HUx => ?_)
       have HCx : Hid (Chg [b] w21 wx) := hd (Chg.ofDrew HCd.out)
       have HX6_10 := hd (HCx.out.blk HX6_9.out (by simp [NX6_b]))
       refine hK.out _ _ trivial (fun _ => ?_)
       clear hK K
       try simp only [qq, qr]
       refine rd2 1 4 (by kernel_rfl) rfl rfl (fun K hK => ?_) (fun K hK => ?_)
       · have x0 := HX6_10.out.cell (i := 1) rfl
         go_simp
         refine hK.out _ _ trivial (fun _ => ?_)
         clear hK K
         try simp only [qq, qr]
         clear x0
         refine rd1 4 (by kernel_rfl) rfl (fun K hK => ?_)
         go_simp
         refine hK.out _ _ trivial (fun _ => ?_)
         clear hK K
         try simp only [qq, qr]
         refine rd1 5 (by kernel_rfl) rfl (fun K hK => ?_)
         have HLk : Hid (ListS w6.heap.size 54 8 (Crw w6.heap.size) rs (.slice vo rs.length vc) (wx.alloc (.cells #[.string ⟨x.name.toArray⟩, .int .i64 (x.x : Nat), .int .i64 (x.y : Nat), .int .i64 (x.f : Nat), .int .i64 (x.t : Nat), .int .i64 (x.step : Nat), .slice uo x.marks.length uc, .int .i64 (x.at_ : Nat)] 54))) := hd ((HL3.out.keep (kp_rw _) HCx.out (TyB.lower (by intro z hz; simp only [List.mem_cons, List.not_mem_nil, or_false] at hz; rw [hz]; exact HbL.out) _)).keep (kp_rw _) ((Chg.refl [] _).alloc _) (TyB.nil _ _ _))
         have hcb : Hid (Chg [b, X6] w6 (wx.alloc (.cells #[.string ⟨x.name.toArray⟩, .int .i64 (x.x : Nat), .int .i64 (x.y : Nat), .int .i64 (x.f : Nat), .int .i64 (x.t : Nat), .int .i64 (x.step : Nat), .slice uo x.marks.length uc, .int .i64 (x.at_ : Nat)] 54))) := hd ((KL_9.out.trans HCx.out (fun k hk => .inl (by simp at hk; simp [hk]))).alloc _)
         refine step_snoc rfl (.tmp 37) (.tmp 40) 49 rfl 54 ir _ 8 88 Tryd.underlying49 hir rz0 rz1 rz2 rfl (by decide) (C := Crw w6.heap.size) (Es := [64]) (.slice vo rs.length vc) rs.length rfl HLk.out rfl (kp_rw _) (by decide) x [.string ⟨x.name.toArray⟩, .int .i64 (x.x : Nat), .int .i64 (x.y : Nat), .int .i64 (x.f : Nat), .int .i64 (x.t : Nat), .int .i64 (x.step : Nat), .slice uo x.marks.length uc, .int .i64 (x.at_ : Nat)] ⟨_, rfl, HUx.out.keep (kp_m _) ((Chg.refl [] _).alloc _) (TyB.nil _ _ _)⟩ rfl (by intro u hu; simp at hu; rcases hu with rfl | rfl | rfl | rfl | rfl | rfl | rfl | rfl <;> rfl) wx.heap.size rfl (Blk.new wx [.string ⟨x.name.toArray⟩, .int .i64 (x.x : Nat), .int .i64 (x.y : Nat), .int .i64 (x.f : Nat), .int .i64 (x.t : Nat), .int .i64 (x.step : Nat), .slice uo x.marks.length uc, .int .i64 (x.at_ : Nat)] 54) (by unfold maxLen; omega) (by omega) hcb.out.size ?kk
         case kk =>
          intro lo8 lc8 v8 hl8 hc8 hb8
          have HL8 := hd hl8
          have HC8 := hd hc8
          have HB8 := hd hb8
          have HCv : Hid (Chg [b, X6] w6 v8) := hd (hc8 _ _ hcb.out (Nat.le_refl _))
          have HP8 : Hid (Rp v8 b q5 er5 a5 en) := hd (HPx.out.via (W := w6) (own := [b, X6]) (KL_9.out.trans HCx.out (fun k hk => .inl (by simp at hk; simp [hk]))) HCv.out (fun ds S h => hb8 _ _ _ (h.alloc _) (.inl HbL.out)) (fun z hz => by simp only [List.mem_cons, List.not_mem_nil, or_false] at hz; rcases hz with h9 | h9; (rw [h9]; exact Nat.le_refl _); (rw [h9]; exact Nat.le_of_lt BX6.out)) HbL.out)
          clear hl8 hc8 hb8
          have HX6_11 := hd (HB8.out _ _ _ (HX6_10.out.alloc _) (.inr (.inl (by decide))))
          refine hK.out _ _ trivial (fun _ => ?_)
          clear hK K
          try simp only [qq, qr]
          refine tk 6 (v := ?vwb6) rfl (by kernel_rfl) (fun _ _ _ h => h) ?hywb6 (by assumption) ?rswb6
          case hywb6 => (intro w9 hSw; go_simp; try with_reducible rfl)
          try simp only [qq, qr]
          refine rd1 7 (by kernel_rfl) rfl (fun K hK => ?_)
          obtain ⟨cX6_0, cX6_1, cX6_2⟩ := HX6_11.out.c3
          obtain ⟨cX6_f0, cX6_f1, cX6_f2⟩ := HX6_11.out.f3
          go_simp
          refine hK.out _ _ trivial (fun _ => ?_)
          clear hK K
          try simp only [qq, qr]
          clear cX6_0 cX6_1 cX6_2 cX6_f0 cX6_f1 cX6_f2
          obtain ⟨W12, hW⟩ : ∃ W, W = (v8.setCell ⟨X6, 1, none⟩ (.slice lo8 (rs.length + 1) lc8)) := ⟨_, rfl⟩
          rw [← hW]
          have HX6_12 : Hid (Blk W12 X6 [.string ⟨x5.toArray⟩, .slice lo8 (rs.length + 1) lc8, .int .i64 (at9 : Nat)] 51) := hd (by rw [hW]; exact (HX6_11.out.set 1 (.slice lo8 (rs.length + 1) lc8)))
          have KL_12 := hd (HCv.out.s1 hW (.inl (by simp)))
          have KP_12 := hd ((Chg.refl [X3, X4, X6] v8).s1 hW (.inl (by simp)))
          have Kv_12 := hd ((Chg.refl [b, X6] v8).s1 hW (.inl (by simp)))
          clear hW
          refine wpAnyH_done (by kernel_rfl) ?_ _
          try simp only [qq, qr]
          have HPz : Hid (Rp W12 b q5 er5 a5 en) := hd (HP8.out.keep KP_12.out (al3 BX3.out BX4.out BX6.out))
          have HLz := Kv_12
          have HL9 : Hid (ListS w6.heap.size 54 8 (Crw w6.heap.size) (rs ++ [x]) (.slice lo8 (rs ++ [x]).length lc8) W12) := hd (by rw [List.length_append]; exact HL8.out.keep (kp_rw _) HLz.out (TyB.lower (by intro z hz; simp only [List.mem_cons, List.not_mem_nil, or_false] at hz; rcases hz with h9 | h9; (rw [h9]; exact HbL.out); (rw [h9]; exact HXL.out)) _))
          have HX9 : Hid (Blk W12 X6 [.string ⟨x5.toArray⟩, .slice lo8 (rs ++ [x]).length lc8, .int .i64 (at9 : Nat)] 51) := hd (by rw [List.length_append]; exact HX6_12.out)
          obtain ⟨hm1, hm2⟩ := gli_step HMI.out HE.out HNS.out Pn.nice_row (fun y r h => by have h1 := Pn.eat_row _ _ _ h; omega) HRx.out
          have HMU : Hid (mz b W12 < mz b wo) := hd (by rw [mz_rp HPz.out, mz_rp HPq.out, if_pos HE.out]; split; (rename_i h9; have := hm2 h9; omega); omega)
          have HM9 := hd hm1
          clear hm1 hm2
          go_wp2_with fail
          refine ⟨?_, HMU.out⟩
          first | exact ⟨rs ++ [x], q5, er5, a5, lo8, lc8, HX9, HL9, HPz, HM9, KL_12⟩ | ((repeat apply Exists.intro); exact ⟨⟨rs ++ [x], q5, er5, a5, lo8, lc8, HX9, HL9, HPz, HM9, KL_12⟩, rfl⟩)
       · skip
         go_simp
         refine hK.out _ _ trivial (fun _ => ?_)
         clear hK K
         try simp only [qq, qr]
         have x0 := (HX6_10.out.alloc (.cells #[.string ⟨x.name.toArray⟩, .int .i64 (x.x : Nat), .int .i64 (x.y : Nat), .int .i64 (x.f : Nat), .int .i64 (x.t : Nat), .int .i64 (x.step : Nat), .slice uo x.marks.length uc, .int .i64 (x.at_ : Nat)] 54)).cell (i := 1) rfl
         refine rd1 1 (by kernel_rfl) rfl (fun K hK => ?_)
         go_simp
         refine hK.out _ _ trivial (fun _ => ?_)
         clear hK K
         try simp only [qq, qr]
         clear x0
         refine rd1 5 (by kernel_rfl) rfl (fun K hK => ?_)
         have HLk : Hid (ListS w6.heap.size 54 8 (Crw w6.heap.size) rs (.slice vo rs.length vc) (wx.alloc (.cells #[.string ⟨x.name.toArray⟩, .int .i64 (x.x : Nat), .int .i64 (x.y : Nat), .int .i64 (x.f : Nat), .int .i64 (x.t : Nat), .int .i64 (x.step : Nat), .slice uo x.marks.length uc, .int .i64 (x.at_ : Nat)] 54))) := hd ((HL3.out.keep (kp_rw _) HCx.out (TyB.lower (by intro z hz; simp only [List.mem_cons, List.not_mem_nil, or_false] at hz; rw [hz]; exact HbL.out) _)).keep (kp_rw _) ((Chg.refl [] _).alloc _) (TyB.nil _ _ _))
         have hcb : Hid (Chg [b, X6] w6 (wx.alloc (.cells #[.string ⟨x.name.toArray⟩, .int .i64 (x.x : Nat), .int .i64 (x.y : Nat), .int .i64 (x.f : Nat), .int .i64 (x.t : Nat), .int .i64 (x.step : Nat), .slice uo x.marks.length uc, .int .i64 (x.at_ : Nat)] 54))) := hd ((KL_9.out.trans HCx.out (fun k hk => .inl (by simp at hk; simp [hk]))).alloc _)
         refine step_snoc rfl (.tmp 37) (.tmp 40) 49 rfl 54 ir _ 8 88 Tryd.underlying49 hir rz0 rz1 rz2 rfl (by decide) (C := Crw w6.heap.size) (Es := [64]) (.slice vo rs.length vc) rs.length rfl HLk.out rfl (kp_rw _) (by decide) x [.string ⟨x.name.toArray⟩, .int .i64 (x.x : Nat), .int .i64 (x.y : Nat), .int .i64 (x.f : Nat), .int .i64 (x.t : Nat), .int .i64 (x.step : Nat), .slice uo x.marks.length uc, .int .i64 (x.at_ : Nat)] ⟨_, rfl, HUx.out.keep (kp_m _) ((Chg.refl [] _).alloc _) (TyB.nil _ _ _)⟩ rfl (by intro u hu; simp at hu; rcases hu with rfl | rfl | rfl | rfl | rfl | rfl | rfl | rfl <;> rfl) wx.heap.size rfl (Blk.new wx [.string ⟨x.name.toArray⟩, .int .i64 (x.x : Nat), .int .i64 (x.y : Nat), .int .i64 (x.f : Nat), .int .i64 (x.t : Nat), .int .i64 (x.step : Nat), .slice uo x.marks.length uc, .int .i64 (x.at_ : Nat)] 54) (by unfold maxLen; omega) (by omega) hcb.out.size ?kk
         case kk =>
          intro lo8 lc8 v8 hl8 hc8 hb8
          have HL8 := hd hl8
          have HC8 := hd hc8
          have HB8 := hd hb8
          have HCv : Hid (Chg [b, X6] w6 v8) := hd (hc8 _ _ hcb.out (Nat.le_refl _))
          have HP8 : Hid (Rp v8 b q5 er5 a5 en) := hd (HPx.out.via (W := w6) (own := [b, X6]) (KL_9.out.trans HCx.out (fun k hk => .inl (by simp at hk; simp [hk]))) HCv.out (fun ds S h => hb8 _ _ _ (h.alloc _) (.inl HbL.out)) (fun z hz => by simp only [List.mem_cons, List.not_mem_nil, or_false] at hz; rcases hz with h9 | h9; (rw [h9]; exact Nat.le_refl _); (rw [h9]; exact Nat.le_of_lt BX6.out)) HbL.out)
          clear hl8 hc8 hb8
          have HX6_11 := hd (HB8.out _ _ _ (HX6_10.out.alloc _) (.inr (.inl (by decide))))
          refine hK.out _ _ trivial (fun _ => ?_)
          clear hK K
          try simp only [qq, qr]
          refine tk 6 (v := ?vwc6) rfl (by kernel_rfl) (fun _ _ _ h => h) ?hywc6 (by assumption) ?rswc6
          case hywc6 => (intro w9 hSw; go_simp; try with_reducible rfl)
          try simp only [qq, qr]
          refine rd1 7 (by kernel_rfl) rfl (fun K hK => ?_)
          obtain ⟨cX6_0, cX6_1, cX6_2⟩ := HX6_11.out.c3
          obtain ⟨cX6_f0, cX6_f1, cX6_f2⟩ := HX6_11.out.f3
          go_simp
          refine hK.out _ _ trivial (fun _ => ?_)
          clear hK K
          try simp only [qq, qr]
          clear cX6_0 cX6_1 cX6_2 cX6_f0 cX6_f1 cX6_f2
          obtain ⟨W12, hW⟩ : ∃ W, W = (v8.setCell ⟨X6, 1, none⟩ (.slice lo8 (rs.length + 1) lc8)) := ⟨_, rfl⟩
          rw [← hW]
          have HX6_12 : Hid (Blk W12 X6 [.string ⟨x5.toArray⟩, .slice lo8 (rs.length + 1) lc8, .int .i64 (at9 : Nat)] 51) := hd (by rw [hW]; exact (HX6_11.out.set 1 (.slice lo8 (rs.length + 1) lc8)))
          have KL_12 := hd (HCv.out.s1 hW (.inl (by simp)))
          have KP_12 := hd ((Chg.refl [X3, X4, X6] v8).s1 hW (.inl (by simp)))
          have Kv_12 := hd ((Chg.refl [b, X6] v8).s1 hW (.inl (by simp)))
          clear hW
          refine wpAnyH_done (by kernel_rfl) ?_ _
          try simp only [qq, qr]
          have HPz : Hid (Rp W12 b q5 er5 a5 en) := hd (HP8.out.keep KP_12.out (al3 BX3.out BX4.out BX6.out))
          have HLz := Kv_12
          have HL9 : Hid (ListS w6.heap.size 54 8 (Crw w6.heap.size) (rs ++ [x]) (.slice lo8 (rs ++ [x]).length lc8) W12) := hd (by rw [List.length_append]; exact HL8.out.keep (kp_rw _) HLz.out (TyB.lower (by intro z hz; simp only [List.mem_cons, List.not_mem_nil, or_false] at hz; rcases hz with h9 | h9; (rw [h9]; exact HbL.out); (rw [h9]; exact HXL.out)) _))
          have HX9 : Hid (Blk W12 X6 [.string ⟨x5.toArray⟩, .slice lo8 (rs ++ [x]).length lc8, .int .i64 (at9 : Nat)] 51) := hd (by rw [List.length_append]; exact HX6_12.out)
          obtain ⟨hm1, hm2⟩ := gli_step HMI.out HE.out HNS.out Pn.nice_row (fun y r h => by have h1 := Pn.eat_row _ _ _ h; omega) HRx.out
          have HMU : Hid (mz b W12 < mz b wo) := hd (by rw [mz_rp HPz.out, mz_rp HPq.out, if_pos HE.out]; split; (rename_i h9; have := hm2 h9; omega); omega)
          have HM9 := hd hm1
          clear hm1 hm2
          go_wp2_with fail
          refine ⟨?_, HMU.out⟩
          first | exact ⟨rs ++ [x], q5, er5, a5, lo8, lc8, HX9, HL9, HPz, HM9, KL_12⟩ | ((repeat apply Exists.intro); exact ⟨⟨rs ++ [x], q5, er5, a5, lo8, lc8, HX9, HL9, HPz, HM9, KL_12⟩, rfl⟩)
  · have e0 : ((er1 : Int) == 0) = false := beq_eq_false_iff_ne.2 (by omega)
    have HE := hd he
    clear he
    go_wp2_with fail
    refine rmust_r (hd HPq.out) [125] (fun q9z e9z a9z w9z HR9z HP9z HC9z => ?_)
    have HX3_9 := hd (HC9z.out.blk HX3_8.out (by simp [NX3_b]))
    have HX4_9 := hd (HC9z.out.blk HX4_8.out (by simp [NX4_b]))
    have HX6_9 : Hid (Blk w9z X6 [.string ⟨x5.toArray⟩, .slice vo rs.length vc, .int .i64 (at9 : Nat)] 51) := hd (HC9z.out.blk HX6.out (by simp [NX6_b]))
    have C9 := hd (C8.out.trans HC9z.out (al1 (.inl (by simp))))
    have Kk_9 := hd (Kk_8.out.trans HC9z.out (al1 (.inl (by simp))))
    have Ko_9 := hd ((Chg.refl [b, X6] wo).trans HC9z.out (al1 (.inl (by simp))))
    clear cb2
    have HRF := hd (gli_over HMI.out HE.out HR9z.out rs)
    have HLe : Hid (ListS B 54 8 (Crw B) rs (.slice vo rs.length vc) w9z) := hd ((HL.out.keep (kp_rw _) Ko_9.out (TyB.lower (by intro z hz; simp only [List.mem_cons, List.not_mem_nil, or_false] at hz; rcases hz with h9 | h9; (rw [h9]; exact HbL.out); (rw [h9]; exact HXL.out)) _)).mono HWL.out (mono_rw HWL.out))
    have HLn : Hid (LX B L (.slice o1 L.blocks.length k1) (.slice o2 L.areas.length k2) (.slice o3 L.aisles.length k3) (.slice o4 L.pillars.length k4) (.slice o5 L.doors.length k5) w9z) := hd (HLX.out.keep Kk_9.out (TyB.lower (fun z hz => by simp only [List.mem_cons, List.not_mem_nil, or_false] at hz; rw [hz]; exact HbB.out) _))
    have NX3_X4 : X3 ≠ X4 := by have OX4_ := OX4.out; omega
    have NX4_X3 : X4 ≠ X3 := NX3_X4.symm
    have MX3 : Hid (w.heap.size ≤ X3) := Mk_X3
    have MX4 : Hid (w.heap.size ≤ X4) := Mk_X4
    have HLk : Hid (LX B L (.slice o1 L.blocks.length k1) (.slice o2 L.areas.length k2) (.slice o3 L.aisles.length k3) (.slice o4 L.pillars.length k4) (.slice o5 L.doors.length k5) (w9z.alloc (.cells #[.string ⟨x5.toArray⟩, .slice vo rs.length vc, .int .i64 (at9 : Nat)] 51))) := hd (HLn.out.keep ((Chg.refl [] _).alloc _) (TyB.nil _ _ _))
    have HCk : Hid (Chg [b] w w9z) := hd Kk_9.out
    have hsz0 : B ≤ w9z.heap.size := Nat.le_trans HBs.out HCk.out.size
    have HSZ8 : Hid (B ≤ (w9z.alloc (.cells #[.string ⟨x5.toArray⟩, .slice vo rs.length vc, .int .i64 (at9 : Nat)] 51)).heap.size) := hd (Nat.le_trans hsz0 ((Chg.refl [] _).alloc _).size)
    clear hsz0
    have HPk : Hid (Rp w9z b q9z e9z a9z en) := hd HP9z.out
    obtain ⟨cX3_0, cX3_1, cX3_2, cX3_3, cX3_4, cX3_5, cX3_6, cX3_7⟩ := HX3_9.out.c8
    obtain ⟨cX6_0, cX6_1, cX6_2⟩ := HX6_9.out.c3
    go_wp2_with (at_builtin; refine wpList_snoc6 rfl (.tmp 46) (.tmp 48) 42 rfl 51 i1 _ 3 48 Tryd.underlying42 hi1 iz0 iz1 iz2 rfl (by decide) (C := (Cbk B)) (Es := [54, 64]) (.slice o1 L.blocks.length k1) L.blocks.length rfl HLk.out.1.1 rfl (kp_bk B) (by decide) (⟨x5, rs, at9⟩ : Pn.Bl) [.string ⟨x5.toArray⟩, .slice vo rs.length vc, .int .i64 (at9 : Nat)] ⟨_, rfl, HLe.out.keep (kp_rw _) ((Chg.refl [] _).alloc _) (TyB.nil _ _ _)⟩ rfl (by intro u hu; simp at hu; rcases hu with rfl | rfl | rfl <;> rfl) w9z.heap.size rfl (Blk.new w9z [.string ⟨x5.toArray⟩, .slice vo rs.length vc, .int .i64 (at9 : Nat)] 51) (by unfold maxLen; omega) (by omega) HSZ8.out ?kk)
    case kk =>
     intro g8 c8 v8 hl8 hg8 ho8 hk8
     have HAK := hd (appk HLk.out.1.1 hg8)
     have HLX8 : Hid (LX B { L with blocks := L.blocks ++ [(⟨x5, rs, at9⟩ : Pn.Bl)] } (.slice (some ⟨g8, 0, none⟩) (L.blocks.length + 1) c8) (.slice o2 L.areas.length k2) (.slice o3 L.aisles.length k3) (.slice o4 L.pillars.length k4) (.slice o5 L.doors.length k5) v8) := hd (HLk.out.app1 hg8 (⟨x5, rs, at9⟩ : Pn.Bl) hl8)
     have HC8 : Hid (Chg [b] Wb v8) := hd (HAK.out.2 _ _ (C9.out.alloc _) HWB.out)
     have HP8 : Hid (Rp v8 b q9z e9z a9z en) := hd (HPk.out.via (W := Wb) (own := [b]) C9.out HC8.out (fun ds S h => HAK.out.1 _ _ _ (h.alloc _) (.inl HbB.out)) (fun z hz => by simp only [List.mem_cons, List.not_mem_nil, or_false] at hz; rw [hz]; exact Nat.le_refl _) HBW.out)
     have HKK : Hid (∀ K ds, Blk w K ds 47 → K ≠ b → Blk v8 K ds 47) := hd (fun K ds hK hn => HAK.out.1 _ _ _ ((Kk_9.out.blk hK (by simp [hn])).alloc _) (.inr (by decide)))
     have HX3_8 := hd (HAK.out.1 _ _ _ (HX3_9.out.alloc _) (.inr (by decide)))
     have HX4_8 := hd (HAK.out.1 _ _ _ (HX4_9.out.alloc _) (.inr (by decide)))
     have HTY : Hid (TyB [b, X3, X4] v8 B [51, 54, 64, 58, 56, 24]) := hd (tyb_lv HbB.out HX3_8.out HX4_8.out (by decide))
     clear hl8 hg8 ho8 hk8
     clear HX6_9
     clear cX3_0 cX3_1 cX3_2 cX3_3 cX3_4 cX3_5 cX3_6 cX3_7 cX6_0 cX6_1 cX6_2
     obtain ⟨cX3_0, cX3_1, cX3_2, cX3_3, cX3_4, cX3_5, cX3_6, cX3_7⟩ := HX3_8.out.c8
     obtain ⟨cX3_f0, cX3_f1, cX3_f2, cX3_f3, cX3_f4, cX3_f5, cX3_f6, cX3_f7⟩ := HX3_8.out.f8
     go_upto_region 10 with fail
     clear cX3_0 cX3_1 cX3_2 cX3_3 cX3_4 cX3_5 cX3_6 cX3_7 cX3_f0 cX3_f1 cX3_f2 cX3_f3 cX3_f4 cX3_f5 cX3_f6 cX3_f7
     obtain ⟨W10, hW⟩ : ∃ W, W = (v8.setCell ⟨X3, 2, none⟩ (.slice (some ⟨g8, 0, none⟩) (L.blocks.length + 1) c8)) := ⟨_, rfl⟩
     rw [← hW]
     have HX3_10 : Hid (Blk W10 X3 [.string ⟨L.name.toArray⟩, .int .i64 (L.height : Nat), .slice (some ⟨g8, 0, none⟩) (L.blocks.length + 1) c8, .slice o2 L.areas.length k2, .slice o3 L.aisles.length k3, .slice o4 L.pillars.length k4, .slice o5 L.doors.length k5, .int .i64 (L.at_ : Nat)] 47) := hd (by rw [hW]; exact (HX3_8.out.set 2 (.slice (some ⟨g8, 0, none⟩) (L.blocks.length + 1) c8)))
     have HX4_10 := hd (HX4_8.out.o1 hW NX4_X3)
     have C10 := hd (HC8.out.s1 hW (.inr (by have OX3_ := OX3.out; show Wb.heap.size ≤ X3; omega)))
     have Ke_10 := hd ((Chg.refl [b, X3, X4] v8).s1 hW (.inl (by simp)))
     have KP_10 := hd ((Chg.refl [X3, X4] v8).s1 hW (.inl (by simp)))
     clear hW
     obtain ⟨cX3_0, cX3_1, cX3_2, cX3_3, cX3_4, cX3_5, cX3_6, cX3_7⟩ := HX3_10.out.c8
     obtain ⟨cX4_0, cX4_1, cX4_2, cX4_3, cX4_4, cX4_5, cX4_6, cX4_7⟩ := HX4_10.out.c8
     obtain ⟨cX4_f0, cX4_f1, cX4_f2, cX4_f3, cX4_f4, cX4_f5, cX4_f6, cX4_f7⟩ := HX4_10.out.f8
     go_wp2_with fail
     clear cX3_0 cX3_1 cX3_2 cX3_3 cX3_4 cX3_5 cX3_6 cX3_7 cX4_0 cX4_1 cX4_2 cX4_3 cX4_4 cX4_5 cX4_6 cX4_7 cX4_f0 cX4_f1 cX4_f2 cX4_f3 cX4_f4 cX4_f5 cX4_f6 cX4_f7
     obtain ⟨W11, hW⟩ : ∃ W, W = ((((((((W10.setCell ⟨X4, 0, none⟩ (.string ⟨L.name.toArray⟩)).setCell ⟨X4, 1, none⟩ (.int .i64 (L.height : Nat))).setCell ⟨X4, 2, none⟩ (.slice (some ⟨g8, 0, none⟩) (L.blocks.length + 1) c8)).setCell ⟨X4, 3, none⟩ (.slice o2 L.areas.length k2)).setCell ⟨X4, 4, none⟩ (.slice o3 L.aisles.length k3)).setCell ⟨X4, 5, none⟩ (.slice o4 L.pillars.length k4)).setCell ⟨X4, 6, none⟩ (.slice o5 L.doors.length k5)).setCell ⟨X4, 7, none⟩ (.int .i64 (L.at_ : Nat))) := ⟨_, rfl⟩
     rw [← hW]
     have HX4_11 : Hid (Blk W11 X4 [.string ⟨L.name.toArray⟩, .int .i64 (L.height : Nat), .slice (some ⟨g8, 0, none⟩) (L.blocks.length + 1) c8, .slice o2 L.areas.length k2, .slice o3 L.aisles.length k3, .slice o4 L.pillars.length k4, .slice o5 L.doors.length k5, .int .i64 (L.at_ : Nat)] 47) := hd (by rw [hW]; exact ((((((((HX4_10.out.set 0 (.string ⟨L.name.toArray⟩)).set 1 (.int .i64 (L.height : Nat))).set 2 (.slice (some ⟨g8, 0, none⟩) (L.blocks.length + 1) c8)).set 3 (.slice o2 L.areas.length k2)).set 4 (.slice o3 L.aisles.length k3)).set 5 (.slice o4 L.pillars.length k4)).set 6 (.slice o5 L.doors.length k5)).set 7 (.int .i64 (L.at_ : Nat))))
     have C11 := hd (C10.out.s8 hW (.inr (by have OX3_ := OX3.out; have OX4_ := OX4.out; show Wb.heap.size ≤ X4; omega)))
     have Ke_11 := hd (Ke_10.out.s8 hW (.inl (by simp)))
     have KP_11 := hd (KP_10.out.s8 hW (.inl (by simp)))
     clear hW
     (try simp only [Exit.inBlock, Exit.then])
     have HLF : Hid (LX B { L with blocks := L.blocks ++ [(⟨x5, rs, at9⟩ : Pn.Bl)] } (.slice (some ⟨g8, 0, none⟩) (L.blocks.length + 1) c8) (.slice o2 L.areas.length k2) (.slice o3 L.aisles.length k3) (.slice o4 L.pillars.length k4) (.slice o5 L.doors.length k5) W11) := hd (HLX8.out.keep Ke_11.out HTY.out)
     have HRR : RR Pn.item en (t1 :: r1) 0 a (Pn.It.block (⟨x5, rs, at9⟩ : Pn.Bl)) q9z e9z a9z := rr_item HIT.out ((show RR (Pn.block at9) en r1 0 a (⟨x5, rs, at9⟩ : Pn.Bl) q9z e9z a9z from HR5.out.bind (HR6.out.bind (HRF.out.map (fun rs => (⟨x5, rs, at9⟩ : Pn.Bl))))).map Pn.It.block)
     refine bodyPost_ret (results_cell_row rfl _ _ X4 47 #[.string ⟨L.name.toArray⟩, .int .i64 (L.height : Nat), .slice (some ⟨g8, 0, none⟩) (L.blocks.length + 1) c8, .slice o2 L.areas.length k2, .slice o3 L.aisles.length k3, .slice o4 L.pillars.length k4, .slice o5 L.doors.length k5, .int .i64 (L.at_ : Nat)] (0, 0) _ rfl HX4_11.out Tryd.underlying47 rfl (by kernel_rfl)) rfl ⟨{ L with blocks := L.blocks ++ [(⟨x5, rs, at9⟩ : Pn.Bl)] }, _, _, _, _, _, Pn.It.block (⟨x5, rs, at9⟩ : Pn.Bl), q9z, e9z, a9z, rfl, HLF.out, HRR, .inl rfl, (HP8.out.keep KP_11.out (al2 BX3.out BX4.out)), C11.out, fun K ds hK hn => Ke_11.out.blk (HKK.out K ds hK hn) (by
      have h1 := hK.lt
      have h2 := MX3.out
      have h3 := MX4.out
      simp only [List.mem_cons, List.not_mem_nil, or_false, not_or]
      exact ⟨hn, by omega, by omega⟩)⟩
end Go.Proofs.YtocadlcglgpdcaaDoor
