/-
 Plan, the reference, layer 5: item, kind 3. Printed by genpqe06.py.
-/
import Derived.Test.YtocadlcglgpdcaaDoorPqD
namespace Go.Proofs.YtocadlcglgpdcaaDoor
set_option linter.unusedVariables false
set_option linter.unusedSimpArgs false
open Go Go.RowKit Go.Shelf
open Lx (Tk)
attribute [local go_sem ↓] Go.wp_at_zero Go.wp_at_succ
attribute [local irreducible] Go.wpStill
set_option maxHeartbeats 8000000 in
set_option maxRecDepth 100000 in
theorem ritem3_spec (w Wb : World) (b a en B : Nat) (q : List Tk) (L : Pn.Lv) (u1 u2 u3 u4 u5 : Value) (HP : Hid (Rp w b q 0 a en)) (HWK : Hid (∀ t ∈ q, Pn.Wk t)) (HLX : Hid (LX B L u1 u2 u3 u4 u5 w)) (HSZ : Hid (L.blocks.length ≤ 2000000 ∧ L.areas.length ≤ 2000000 ∧ L.aisles.length ≤ 2000000 ∧ L.pillars.length ≤ 2000000 ∧ L.doors.length ≤ 2000000)) (HBW : Hid (b < Wb.heap.size)) (HWB : Hid (Wb.heap.size ≤ B)) (HBs : Hid (B ≤ w.heap.size)) (HCb : Hid (Chg [b] Wb w)) (HS0 : Hid (Pn.isw [98, 108, 111, 99, 107] q = false)) (HS1 : Hid (Pn.isw [97, 114, 101, 97] q = false)) (HST : Hid (Pn.isw [97, 105, 115, 108, 101] q = true)) : Calls Tryd.prog 41 #[.pointer (some ⟨b, 0, none⟩), .agg #[.string ⟨L.name.toArray⟩, .int .i64 (L.height : Nat), u1, u2, u3, u4, u5, .int .i64 (L.at_ : Nat)]] w (ItemR Wb b B en q 0 a L w) := by
 obtain ⟨o1, k1, rfl⟩ := HLX.out.1.1.form
 obtain ⟨o2, k2, rfl⟩ := HLX.out.1.2.1.form
 obtain ⟨o3, k3, rfl⟩ := HLX.out.1.2.2.1.form
 obtain ⟨o4, k4, rfl⟩ := HLX.out.1.2.2.2.1.form
 obtain ⟨o5, k5, rfl⟩ := HLX.out.1.2.2.2.2.form
 have HbB : Hid (b < B) := hd (by have h1 := HBW.out; have h2 := HWB.out; omega)
 obtain ⟨t1, r1, rfl, -⟩ := isw_cons HST.out
 have HIT : Hid (Pn.item (t1 :: r1) = Pn.itemK 3 (Rl.place en (t1 :: r1)) r1) := hd (Pn.itm_of 2 en (by omega) HST.out)
 obtain ⟨i3, hi3, iz0, iz1, iz2⟩ := info_parts info_it3
 have hml : L.aisles.length ≤ 2000000 := HSZ.out.2.2.1
 go_enter Tryd.func41, Tryd.ntmps41
 go_upto_region 1 with fail
 obtain ⟨W1, hW⟩ : ∃ W, W = ((w.alloc (.cells #[.string ⟨L.name.toArray⟩, .int .i64 (L.height : Nat), .slice o1 L.blocks.length k1, .slice o2 L.areas.length k2, .slice o3 L.aisles.length k3, .slice o4 L.pillars.length k4, .slice o5 L.doors.length k5, .int .i64 (L.at_ : Nat)] 47)).alloc (.cells #[.string ⟨#[]⟩, .int .i64 0, .slice none 0 0, .slice none 0 0, .slice none 0 0, .slice none 0 0, .slice none 0 0, .int .i64 0] 47)) := ⟨_, rfl⟩
 rw [← hW]
 obtain ⟨X4, hX4⟩ : ∃ T, T = w.heap.size + 1 := ⟨_, rfl⟩
 try rw [← hX4]
 obtain ⟨X3, hX3⟩ : ∃ T, T = w.heap.size := ⟨_, rfl⟩
 try rw [← hX3]
 have OX3 : Hid (Wb.heap.size ≤ X3) := hd (by rw [hX3]; exact HCb.out.size)
 have OX4 : Hid (X3 < X4) := hd (by rw [hX4, hX3]; omega)
 have HX3_1 : Hid (Blk W1 X3 [.string ⟨L.name.toArray⟩, .int .i64 (L.height : Nat), .slice o1 L.blocks.length k1, .slice o2 L.areas.length k2, .slice o3 L.aisles.length k3, .slice o4 L.pillars.length k4, .slice o5 L.doors.length k5, .int .i64 (L.at_ : Nat)] 47) := hd (by
  have h1 := Blk.new w [.string ⟨L.name.toArray⟩, .int .i64 (L.height : Nat), .slice o1 L.blocks.length k1, .slice o2 L.areas.length k2, .slice o3 L.aisles.length k3, .slice o4 L.pillars.length k4, .slice o5 L.doors.length k5, .int .i64 (L.at_ : Nat)] 47
  have h2 : w.heap.size = X3 := by simp [hX3]
  rw [h2] at h1
  rw [hW]
  exact (h1.alloc _))
 have HX4_1 : Hid (Blk W1 X4 [.string ⟨#[]⟩, .int .i64 0, .slice none 0 0, .slice none 0 0, .slice none 0 0, .slice none 0 0, .slice none 0 0, .int .i64 0] 47) := hd (by
  have h1 := Blk.new (w.alloc (.cells #[.string ⟨L.name.toArray⟩, .int .i64 (L.height : Nat), .slice o1 L.blocks.length k1, .slice o2 L.areas.length k2, .slice o3 L.aisles.length k3, .slice o4 L.pillars.length k4, .slice o5 L.doors.length k5, .int .i64 (L.at_ : Nat)] 47)) [.string ⟨#[]⟩, .int .i64 0, .slice none 0 0, .slice none 0 0, .slice none 0 0, .slice none 0 0, .slice none 0 0, .int .i64 0] 47
  have h2 : (w.alloc (.cells #[.string ⟨L.name.toArray⟩, .int .i64 (L.height : Nat), .slice o1 L.blocks.length k1, .slice o2 L.areas.length k2, .slice o3 L.aisles.length k3, .slice o4 L.pillars.length k4, .slice o5 L.doors.length k5, .int .i64 (L.at_ : Nat)] 47)).heap.size = X4 := by simp [hX4]
  rw [h2] at h1
  rw [hW]
  exact h1)
 have BX3 : Hid (b < X3) := hd (by have h1 := HBW.out; have OX3_ := OX3.out; omega)
 have BX4 : Hid (b < X4) := hd (by have h1 := HBW.out; have OX3_ := OX3.out; have OX4_ := OX4.out; omega)
 have C1 : Hid (Chg [b] Wb W1) := hd (by rw [hW]; exact ((HCb.out.alloc _).alloc _))
 have KP_1 : Hid (Chg [] w W1) := hd (by rw [hW]; exact (((Chg.refl [] w).alloc _).alloc _))
 have Kk_1 : Hid (Chg [b] w W1) := hd (by rw [hW]; exact (((Chg.refl [b] w).alloc _).alloc _))
 have Mk_X3 : Hid (w.heap.size ≤ X3) := hd (by rw [hX3]; have h1 := (Chg.refl [b] w).size; omega)
 have Mk_X4 : Hid (w.heap.size ≤ X4) := hd (by rw [hX4]; have h1 := (Chg.refl [b] w).size; omega)
 clear hW hX3 hX4
 go_wp2_with fail
 refine rat_r (hd (HP.out.keep KP_1.out (by simp))) (fun w1 HP1 HC1 => ?_)
 have HX3_2 : Hid (Blk w1 X3 [.string ⟨L.name.toArray⟩, .int .i64 (L.height : Nat), .slice o1 L.blocks.length k1, .slice o2 L.areas.length k2, .slice o3 L.aisles.length k3, .slice o4 L.pillars.length k4, .slice o5 L.doors.length k5, .int .i64 (L.at_ : Nat)] 47) := hd (HC1.out.blk HX3_1.out (by simp))
 have HX4_2 : Hid (Blk w1 X4 [.string ⟨#[]⟩, .int .i64 0, .slice none 0 0, .slice none 0 0, .slice none 0 0, .slice none 0 0, .slice none 0 0, .int .i64 0] 47) := hd (HC1.out.blk HX4_1.out (by simp))
 have C2 := hd (C1.out.trans HC1.out (by simp))
 have Kk_2 := hd (Kk_1.out.trans HC1.out (by simp))
 obtain ⟨at9, hat9⟩ : ∃ x, x = Rl.place en (t1 :: r1) := ⟨_, rfl⟩
 rw [← hat9]
 have HAT := hd hat9
 clear hat9
 rw [← HAT.out] at HIT
 go_wp2_with fail
 refine sees_r (hd HP1.out) [98, 108, 111, 99, 107] (fun bo w20 HB HP20 HC20 => ?_)
 obtain rfl : bo = false := by rw [← HB.out]; unfold seesB; rw [HS0.out]; rfl
 clear HB
 have HX3_3 := hd (HC20.out.blk HX3_2.out (by simp))
 have HX4_3 := hd (HC20.out.blk HX4_2.out (by simp))
 have C3 := hd (C2.out.trans HC20.out (by simp))
 have Kk_3 := hd (Kk_2.out.trans HC20.out (by simp))
 go_wp2_with fail
 refine sees_r (hd HP20.out) [97, 114, 101, 97] (fun bo w21 HB HP21 HC21 => ?_)
 obtain rfl : bo = false := by rw [← HB.out]; unfold seesB; rw [HS1.out]; rfl
 clear HB
 have HX3_4 := hd (HC21.out.blk HX3_3.out (by simp))
 have HX4_4 := hd (HC21.out.blk HX4_3.out (by simp))
 have C4 := hd (C3.out.trans HC21.out (by simp))
 have Kk_4 := hd (Kk_3.out.trans HC21.out (by simp))
 go_wp2_with fail
 refine sees_r (hd HP21.out) [97, 105, 115, 108, 101] (fun bo w22 HB HP22 HC22 => ?_)
 obtain rfl : bo = true := by rw [← HB.out]; unfold seesB; rw [HST.out]; rfl
 clear HB
 have HX3_5 := hd (HC22.out.blk HX3_4.out (by simp))
 have HX4_5 := hd (HC22.out.blk HX4_4.out (by simp))
 have C5 := hd (C4.out.trans HC22.out (by simp))
 have Kk_5 := hd (Kk_4.out.trans HC22.out (by simp))
 obtain ⟨n9, i9, ao9, cap9, k1, k2, hb9, hst9⟩ := step_over HP22.out
 have c1 := hb9.cell (i := 1) rfl
 have f1 := hb9.free 1
 have hw9 : IntKind.i64.wrap ((i9 : Int) + 1) = (i9 : Int) + 1 := IntWalk.i64_in _ (by omega)
 obtain ⟨hs1, hs2⟩ := hst9 w22 (Chg.refl _ _)
 have HS1 := hd hs1
 have HS2 := hd hs2
 clear hb9 hst9 hs1 hs2 k1 k2
 go_upto_region 19 with fail
 obtain ⟨w25, hw25⟩ : ∃ x, x = w22.setCell ⟨b, 1, none⟩ (.int .i64 ((i9 : Int) + 1)) := ⟨_, rfl⟩
 rw [← hw25]
 rw [← hw25] at HS1 HS2
 clear hw25 c1 f1 hw9
 have NX3_b : X3 ≠ b := by have h1 := HBW.out; have OX3_ := OX3.out; omega
 have Nb_X3 : b ≠ X3 := NX3_b.symm
 have NX4_b : X4 ≠ b := by have h1 := HBW.out; have OX3_ := OX3.out; have OX4_ := OX4.out; omega
 have Nb_X4 : b ≠ X4 := NX4_b.symm
 have HX3_6 := hd (HS2.out.blk HX3_5.out (by simp [NX3_b]))
 have HX4_6 := hd (HS2.out.blk HX4_5.out (by simp [NX4_b]))
 have C6 := hd (C5.out.trans HS2.out (al1 (.inl (by simp))))
 have Kk_6 := hd (Kk_5.out.trans HS2.out (al1 (.inl (by simp))))
 have NX3_X4 : X3 ≠ X4 := by have OX4_ := OX4.out; omega
 have NX4_X3 : X4 ≠ X3 := NX3_X4.symm
 have MX3 : Hid (w.heap.size ≤ X3) := Mk_X3
 have MX4 : Hid (w.heap.size ≤ X4) := Mk_X4
 refine wp_region_held_drew (S := fun W' => True) (by kernel_rfl) trivial (fun hHeld => ?_)
 refine tk 0 (v := ?vr0) rfl (by kernel_rfl) (fun _ _ _ h => h) ?hyr0 (by assumption) ?rsr0
 case hyr0 => (intro w9 hSw; go_simp; try with_reducible rfl)
 try simp only [qq, qr]
 refine tk 2 (v := ?vr2) rfl (by kernel_rfl) (fun _ _ _ h => h) ?hyr2 (by assumption) ?rsr2
 case hyr2 => (intro w9 hSw; go_simp; try with_reducible rfl)
 try simp only [qq, qr]
 refine rd2 1 3 (by kernel_rfl) rfl rfl (fun K hK => ?_) (fun K hK => ?_)
 · have x0 := (HX3_6.out.drew).cell (i := 4) rfl
   go_simp
   refine hK.out _ _ trivial (fun _ => ?_)
   clear hK K
   try simp only [qq, qr]
   clear x0
   refine rd1 3 (by kernel_rfl) rfl (fun K hK => ?_)
   go_simp
   refine rbox_r (hd (Rp.quiet HS1.out (Chg.refl _ _).drew)) (fun x q8 e8 a8 wx HRx HPx HCd => ?_)
   have HCx : Hid (Chg [b] w25 wx) := hd (Chg.ofDrew HCd.out)
   have HX3_7 := hd (HCx.out.blk HX3_6.out (by simp [NX3_b]))
   have HX4_7 := hd (HCx.out.blk HX4_6.out (by simp [NX4_b]))
   have C7 := hd (C6.out.trans HCx.out (al1 (.inl (by simp))))
   have Kk_7 := hd (Kk_6.out.trans HCx.out (al1 (.inl (by simp))))
   refine hK.out _ _ trivial (fun _ => ?_)
   clear hK K
   try simp only [qq, qr]
   refine rd1 4 (by kernel_rfl) rfl (fun K hK => ?_)
   go_simp
   refine hK.out _ _ trivial (fun _ => ?_)
   clear hK K
   try simp only [qq, qr]
   refine rd1 5 (by kernel_rfl) rfl (fun K hK => ?_)
   have HLn : Hid (LX B L (.slice o1 L.blocks.length k1) (.slice o2 L.areas.length k2) (.slice o3 L.aisles.length k3) (.slice o4 L.pillars.length k4) (.slice o5 L.doors.length k5) wx) := hd (HLX.out.keep Kk_7.out (TyB.lower (fun z hz => by simp only [List.mem_cons, List.not_mem_nil, or_false] at hz; rw [hz]; exact HbB.out) _))
   have HLk : Hid (LX B L (.slice o1 L.blocks.length k1) (.slice o2 L.areas.length k2) (.slice o3 L.aisles.length k3) (.slice o4 L.pillars.length k4) (.slice o5 L.doors.length k5) (wx.alloc (.cells #[.int .i64 (x.x : Nat), .int .i64 (x.y : Nat), .int .i64 (x.x2 : Nat), .int .i64 (x.y2 : Nat)] 56))) := hd (HLn.out.keep ((Chg.refl [] _).alloc _) (TyB.nil _ _ _))
   have HCk : Hid (Chg [b] w wx) := hd Kk_7.out
   have hsz0 : B ≤ wx.heap.size := Nat.le_trans HBs.out HCk.out.size
   have HSZ8 : Hid (B ≤ (wx.alloc (.cells #[.int .i64 (x.x : Nat), .int .i64 (x.y : Nat), .int .i64 (x.x2 : Nat), .int .i64 (x.y2 : Nat)] 56)).heap.size) := hd (Nat.le_trans hsz0 ((Chg.refl [] _).alloc _).size)
   clear hsz0
   refine step_snoc2 rfl (.tmp 88) (.tmp 91) 44 rfl 56 i3 _ 4 32 Tryd.underlying44 hi3 iz0 iz1 iz2 rfl (by decide) (C := Cbx) (Es := []) (.slice o3 L.aisles.length k3) L.aisles.length rfl HLk.out.1.2.2.1 rfl (kp_bx B) (by decide) x [.int .i64 (x.x : Nat), .int .i64 (x.y : Nat), .int .i64 (x.x2 : Nat), .int .i64 (x.y2 : Nat)] rfl rfl (by intro u hu; simp at hu; rcases hu with rfl | rfl | rfl | rfl <;> rfl) wx.heap.size rfl (Blk.new wx [.int .i64 (x.x : Nat), .int .i64 (x.y : Nat), .int .i64 (x.x2 : Nat), .int .i64 (x.y2 : Nat)] 56) (by unfold maxLen; omega) (by omega) HSZ8.out ?kk
   case kk =>
    intro g8 c8 v8 hl8 hg8 ho8 hk8
    have HAK := hd (appk HLk.out.1.2.2.1 hg8)
    have HLX8 : Hid (LX B { L with aisles := L.aisles ++ [x] } (.slice o1 L.blocks.length k1) (.slice o2 L.areas.length k2) (.slice (some ⟨g8, 0, none⟩) (L.aisles.length + 1) c8) (.slice o4 L.pillars.length k4) (.slice o5 L.doors.length k5) v8) := hd (HLk.out.app3 hg8 x hl8 (ho8.imp (fun h => h.symm) (fun h => ⟨g8, rfl, fun k hk => by rw [h]; exact HLk.out.1.2.2.2.1.below k hk⟩)))
    have HC8 : Hid (Chg [b] Wb v8) := hd (HAK.out.2 _ _ (C7.out.alloc _) HWB.out)
    have HP8 : Hid (Rp v8 b q8 e8 a8 en) := hd (HPx.out.via (W := Wb) (own := [b]) C7.out HC8.out (fun ds S h => HAK.out.1 _ _ _ (h.alloc _) (.inl HbB.out)) (fun z hz => by simp only [List.mem_cons, List.not_mem_nil, or_false] at hz; rw [hz]; exact Nat.le_refl _) HBW.out)
    have HKK : Hid (∀ K ds, Blk w K ds 47 → K ≠ b → Blk v8 K ds 47) := hd (fun K ds hK hn => HAK.out.1 _ _ _ ((Kk_7.out.blk hK (by simp [hn])).alloc _) (.inr (by decide)))
    have HX3_8 := hd (HAK.out.1 _ _ _ (HX3_7.out.alloc _) (.inr (by decide)))
    have HX4_8 := hd (HAK.out.1 _ _ _ (HX4_7.out.alloc _) (.inr (by decide)))
    have HTY : Hid (TyB [b, X3, X4] v8 B [51, 54, 64, 58, 56, 24]) := hd (tyb_lv HbB.out HX3_8.out HX4_8.out (by decide))
    clear hl8 hg8 ho8 hk8
    refine hK.out _ _ trivial (fun _ => ?_)
    clear hK K
    try simp only [qq, qr]
    refine tk 6 (v := ?vwa6) rfl (by kernel_rfl) (fun _ _ _ h => h) ?hywa6 (by assumption) ?rswa6
    case hywa6 => (intro w9 hSw; go_simp; try with_reducible rfl)
    try simp only [qq, qr]
    refine rd1 7 (by kernel_rfl) rfl (fun K hK => ?_)
    obtain ⟨cX3_0, cX3_1, cX3_2, cX3_3, cX3_4, cX3_5, cX3_6, cX3_7⟩ := HX3_8.out.c8
    obtain ⟨cX3_f0, cX3_f1, cX3_f2, cX3_f3, cX3_f4, cX3_f5, cX3_f6, cX3_f7⟩ := HX3_8.out.f8
    go_simp
    refine hK.out _ _ trivial (fun _ => ?_)
    clear hK K
    try simp only [qq, qr]
    clear cX3_0 cX3_1 cX3_2 cX3_3 cX3_4 cX3_5 cX3_6 cX3_7 cX3_f0 cX3_f1 cX3_f2 cX3_f3 cX3_f4 cX3_f5 cX3_f6 cX3_f7
    obtain ⟨W8, hW⟩ : ∃ W, W = (v8.setCell ⟨X3, 4, none⟩ (.slice (some ⟨g8, 0, none⟩) (L.aisles.length + 1) c8)) := ⟨_, rfl⟩
    rw [← hW]
    have HX3_8 : Hid (Blk W8 X3 [.string ⟨L.name.toArray⟩, .int .i64 (L.height : Nat), .slice o1 L.blocks.length k1, .slice o2 L.areas.length k2, .slice (some ⟨g8, 0, none⟩) (L.aisles.length + 1) c8, .slice o4 L.pillars.length k4, .slice o5 L.doors.length k5, .int .i64 (L.at_ : Nat)] 47) := hd (by rw [hW]; exact (HX3_8.out.set 4 (.slice (some ⟨g8, 0, none⟩) (L.aisles.length + 1) c8)))
    have HX4_8 := hd (HX4_8.out.o1 hW NX4_X3)
    have C8 := hd (HC8.out.s1 hW (.inr (by have OX3_ := OX3.out; show Wb.heap.size ≤ X3; omega)))
    have Ke_8 := hd ((Chg.refl [b, X3, X4] v8).s1 hW (.inl (by simp)))
    have KP_8 := hd ((Chg.refl [X3, X4] v8).s1 hW (.inl (by simp)))
    clear hW
    refine wpAnyH_done (by kernel_rfl) ?_ _
    try simp only [qq, qr]
    go_wp2_with fail
    refine rmust_r (hd (HP8.out.keep KP_8.out (al2 BX3.out BX4.out))) [59] (fun q9 e9 a9 w9 HR9 HP9 HC9 => ?_)
    have HX3_9 := hd (HC9.out.blk HX3_8.out (by simp [NX3_b]))
    have HX4_9 := hd (HC9.out.blk HX4_8.out (by simp [NX4_b]))
    have C9 := hd (C8.out.trans HC9.out (al1 (.inl (by simp))))
    have Ke_9 := hd (Ke_8.out.trans HC9.out (al1 (.inl (by simp))))
    obtain ⟨cX3_0, cX3_1, cX3_2, cX3_3, cX3_4, cX3_5, cX3_6, cX3_7⟩ := HX3_9.out.c8
    obtain ⟨cX4_0, cX4_1, cX4_2, cX4_3, cX4_4, cX4_5, cX4_6, cX4_7⟩ := HX4_9.out.c8
    obtain ⟨cX4_f0, cX4_f1, cX4_f2, cX4_f3, cX4_f4, cX4_f5, cX4_f6, cX4_f7⟩ := HX4_9.out.f8
    go_wp2_with fail
    clear cX3_0 cX3_1 cX3_2 cX3_3 cX3_4 cX3_5 cX3_6 cX3_7 cX4_0 cX4_1 cX4_2 cX4_3 cX4_4 cX4_5 cX4_6 cX4_7 cX4_f0 cX4_f1 cX4_f2 cX4_f3 cX4_f4 cX4_f5 cX4_f6 cX4_f7
    obtain ⟨W10, hW⟩ : ∃ W, W = ((((((((w9.setCell ⟨X4, 0, none⟩ (.string ⟨L.name.toArray⟩)).setCell ⟨X4, 1, none⟩ (.int .i64 (L.height : Nat))).setCell ⟨X4, 2, none⟩ (.slice o1 L.blocks.length k1)).setCell ⟨X4, 3, none⟩ (.slice o2 L.areas.length k2)).setCell ⟨X4, 4, none⟩ (.slice (some ⟨g8, 0, none⟩) (L.aisles.length + 1) c8)).setCell ⟨X4, 5, none⟩ (.slice o4 L.pillars.length k4)).setCell ⟨X4, 6, none⟩ (.slice o5 L.doors.length k5)).setCell ⟨X4, 7, none⟩ (.int .i64 (L.at_ : Nat))) := ⟨_, rfl⟩
    rw [← hW]
    have HX4_10 : Hid (Blk W10 X4 [.string ⟨L.name.toArray⟩, .int .i64 (L.height : Nat), .slice o1 L.blocks.length k1, .slice o2 L.areas.length k2, .slice (some ⟨g8, 0, none⟩) (L.aisles.length + 1) c8, .slice o4 L.pillars.length k4, .slice o5 L.doors.length k5, .int .i64 (L.at_ : Nat)] 47) := hd (by rw [hW]; exact ((((((((HX4_9.out.set 0 (.string ⟨L.name.toArray⟩)).set 1 (.int .i64 (L.height : Nat))).set 2 (.slice o1 L.blocks.length k1)).set 3 (.slice o2 L.areas.length k2)).set 4 (.slice (some ⟨g8, 0, none⟩) (L.aisles.length + 1) c8)).set 5 (.slice o4 L.pillars.length k4)).set 6 (.slice o5 L.doors.length k5)).set 7 (.int .i64 (L.at_ : Nat))))
    have C10 := hd (C9.out.s8 hW (.inr (by have OX3_ := OX3.out; have OX4_ := OX4.out; show Wb.heap.size ≤ X4; omega)))
    have Ke_10 := hd (Ke_9.out.s8 hW (.inl (by simp)))
    have KP_10 := hd ((Chg.refl [X3, X4] w9).s8 hW (.inl (by simp)))
    clear hW
    (try simp only [Exit.inBlock, Exit.then])
    have HLF : Hid (LX B { L with aisles := L.aisles ++ [x] } (.slice o1 L.blocks.length k1) (.slice o2 L.areas.length k2) (.slice (some ⟨g8, 0, none⟩) (L.aisles.length + 1) c8) (.slice o4 L.pillars.length k4) (.slice o5 L.doors.length k5) W10) := hd (HLX8.out.keep Ke_10.out HTY.out)
    have HRR : RR Pn.item en (t1 :: r1) 0 a (Pn.It.aisle x) q9 e9 a9 := rr_item HIT.out ((show RR Pn.boxS en r1 0 a x q9 e9 a9 from HRx.out.bind (HR9.out.map (fun _ => x))).map Pn.It.aisle)
    refine bodyPost_ret (results_cell_row rfl _ _ X4 47 #[.string ⟨L.name.toArray⟩, .int .i64 (L.height : Nat), .slice o1 L.blocks.length k1, .slice o2 L.areas.length k2, .slice (some ⟨g8, 0, none⟩) (L.aisles.length + 1) c8, .slice o4 L.pillars.length k4, .slice o5 L.doors.length k5, .int .i64 (L.at_ : Nat)] (0, 0) _ rfl HX4_10.out Tryd.underlying47 rfl (by kernel_rfl)) rfl ⟨{ L with aisles := L.aisles ++ [x] }, _, _, _, _, _, Pn.It.aisle x, q9, e9, a9, rfl, HLF.out, HRR, .inl rfl, (HP9.out.keep KP_10.out (al2 BX3.out BX4.out)), C10.out, fun K ds hK hn => Ke_10.out.blk (HKK.out K ds hK hn) (by
     have h1 := hK.lt
     have h2 := MX3.out
     have h3 := MX4.out
     simp only [List.mem_cons, List.not_mem_nil, or_false, not_or]
     exact ⟨hn, by omega, by omega⟩)⟩
 · skip
   go_simp
   refine rbox_r (hd (Rp.quiet HS1.out (Chg.refl _ _).drew)) (fun x q8 e8 a8 wx HRx HPx HCd => ?_)
   have HCx : Hid (Chg [b] w25 wx) := hd (Chg.ofDrew HCd.out)
   have HX3_7 := hd (HCx.out.blk HX3_6.out (by simp [NX3_b]))
   have HX4_7 := hd (HCx.out.blk HX4_6.out (by simp [NX4_b]))
   have C7 := hd (C6.out.trans HCx.out (al1 (.inl (by simp))))
   have Kk_7 := hd (Kk_6.out.trans HCx.out (al1 (.inl (by simp))))
   refine hK.out _ _ trivial (fun _ => ?_)
   clear hK K
   try simp only [qq, qr]
   refine rd2 1 4 (by kernel_rfl) rfl rfl (fun K hK => ?_) (fun K hK => ?_)
   · have x0 := HX3_7.out.cell (i := 4) rfl
     go_simp
     refine hK.out _ _ trivial (fun _ => ?_)
     clear hK K
     try simp only [qq, qr]
     clear x0
     refine rd1 4 (by kernel_rfl) rfl (fun K hK => ?_)
     go_simp
     refine hK.out _ _ trivial (fun _ => ?_)
     clear hK K
     try simp only [qq, qr]
     refine rd1 5 (by kernel_rfl) rfl (fun K hK => ?_)
     have HLn : Hid (LX B L (.slice o1 L.blocks.length k1) (.slice o2 L.areas.length k2) (.slice o3 L.aisles.length k3) (.slice o4 L.pillars.length k4) (.slice o5 L.doors.length k5) wx) := hd (HLX.out.keep Kk_7.out (TyB.lower (fun z hz => by simp only [List.mem_cons, List.not_mem_nil, or_false] at hz; rw [hz]; exact HbB.out) _))
     have HLk : Hid (LX B L (.slice o1 L.blocks.length k1) (.slice o2 L.areas.length k2) (.slice o3 L.aisles.length k3) (.slice o4 L.pillars.length k4) (.slice o5 L.doors.length k5) (wx.alloc (.cells #[.int .i64 (x.x : Nat), .int .i64 (x.y : Nat), .int .i64 (x.x2 : Nat), .int .i64 (x.y2 : Nat)] 56))) := hd (HLn.out.keep ((Chg.refl [] _).alloc _) (TyB.nil _ _ _))
     have HCk : Hid (Chg [b] w wx) := hd Kk_7.out
     have hsz0 : B ≤ wx.heap.size := Nat.le_trans HBs.out HCk.out.size
     have HSZ8 : Hid (B ≤ (wx.alloc (.cells #[.int .i64 (x.x : Nat), .int .i64 (x.y : Nat), .int .i64 (x.x2 : Nat), .int .i64 (x.y2 : Nat)] 56)).heap.size) := hd (Nat.le_trans hsz0 ((Chg.refl [] _).alloc _).size)
     clear hsz0
     refine step_snoc2 rfl (.tmp 88) (.tmp 91) 44 rfl 56 i3 _ 4 32 Tryd.underlying44 hi3 iz0 iz1 iz2 rfl (by decide) (C := Cbx) (Es := []) (.slice o3 L.aisles.length k3) L.aisles.length rfl HLk.out.1.2.2.1 rfl (kp_bx B) (by decide) x [.int .i64 (x.x : Nat), .int .i64 (x.y : Nat), .int .i64 (x.x2 : Nat), .int .i64 (x.y2 : Nat)] rfl rfl (by intro u hu; simp at hu; rcases hu with rfl | rfl | rfl | rfl <;> rfl) wx.heap.size rfl (Blk.new wx [.int .i64 (x.x : Nat), .int .i64 (x.y : Nat), .int .i64 (x.x2 : Nat), .int .i64 (x.y2 : Nat)] 56) (by unfold maxLen; omega) (by omega) HSZ8.out ?kk
     case kk =>
      intro g8 c8 v8 hl8 hg8 ho8 hk8
      have HAK := hd (appk HLk.out.1.2.2.1 hg8)
      have HLX8 : Hid (LX B { L with aisles := L.aisles ++ [x] } (.slice o1 L.blocks.length k1) (.slice o2 L.areas.length k2) (.slice (some ⟨g8, 0, none⟩) (L.aisles.length + 1) c8) (.slice o4 L.pillars.length k4) (.slice o5 L.doors.length k5) v8) := hd (HLk.out.app3 hg8 x hl8 (ho8.imp (fun h => h.symm) (fun h => ⟨g8, rfl, fun k hk => by rw [h]; exact HLk.out.1.2.2.2.1.below k hk⟩)))
      have HC8 : Hid (Chg [b] Wb v8) := hd (HAK.out.2 _ _ (C7.out.alloc _) HWB.out)
      have HP8 : Hid (Rp v8 b q8 e8 a8 en) := hd (HPx.out.via (W := Wb) (own := [b]) C7.out HC8.out (fun ds S h => HAK.out.1 _ _ _ (h.alloc _) (.inl HbB.out)) (fun z hz => by simp only [List.mem_cons, List.not_mem_nil, or_false] at hz; rw [hz]; exact Nat.le_refl _) HBW.out)
      have HKK : Hid (∀ K ds, Blk w K ds 47 → K ≠ b → Blk v8 K ds 47) := hd (fun K ds hK hn => HAK.out.1 _ _ _ ((Kk_7.out.blk hK (by simp [hn])).alloc _) (.inr (by decide)))
      have HX3_8 := hd (HAK.out.1 _ _ _ (HX3_7.out.alloc _) (.inr (by decide)))
      have HX4_8 := hd (HAK.out.1 _ _ _ (HX4_7.out.alloc _) (.inr (by decide)))
      have HTY : Hid (TyB [b, X3, X4] v8 B [51, 54, 64, 58, 56, 24]) := hd (tyb_lv HbB.out HX3_8.out HX4_8.out (by decide))
      clear hl8 hg8 ho8 hk8
      refine hK.out _ _ trivial (fun _ => ?_)
      clear hK K
      try simp only [qq, qr]
      refine tk 6 (v := ?vwb6) rfl (by kernel_rfl) (fun _ _ _ h => h) ?hywb6 (by assumption) ?rswb6
      case hywb6 => (intro w9 hSw; go_simp; try with_reducible rfl)
      try simp only [qq, qr]
      refine rd1 7 (by kernel_rfl) rfl (fun K hK => ?_)
      obtain ⟨cX3_0, cX3_1, cX3_2, cX3_3, cX3_4, cX3_5, cX3_6, cX3_7⟩ := HX3_8.out.c8
      obtain ⟨cX3_f0, cX3_f1, cX3_f2, cX3_f3, cX3_f4, cX3_f5, cX3_f6, cX3_f7⟩ := HX3_8.out.f8
      go_simp
      refine hK.out _ _ trivial (fun _ => ?_)
      clear hK K
      try simp only [qq, qr]
      clear cX3_0 cX3_1 cX3_2 cX3_3 cX3_4 cX3_5 cX3_6 cX3_7 cX3_f0 cX3_f1 cX3_f2 cX3_f3 cX3_f4 cX3_f5 cX3_f6 cX3_f7
      obtain ⟨W8, hW⟩ : ∃ W, W = (v8.setCell ⟨X3, 4, none⟩ (.slice (some ⟨g8, 0, none⟩) (L.aisles.length + 1) c8)) := ⟨_, rfl⟩
      rw [← hW]
      have HX3_8 : Hid (Blk W8 X3 [.string ⟨L.name.toArray⟩, .int .i64 (L.height : Nat), .slice o1 L.blocks.length k1, .slice o2 L.areas.length k2, .slice (some ⟨g8, 0, none⟩) (L.aisles.length + 1) c8, .slice o4 L.pillars.length k4, .slice o5 L.doors.length k5, .int .i64 (L.at_ : Nat)] 47) := hd (by rw [hW]; exact (HX3_8.out.set 4 (.slice (some ⟨g8, 0, none⟩) (L.aisles.length + 1) c8)))
      have HX4_8 := hd (HX4_8.out.o1 hW NX4_X3)
      have C8 := hd (HC8.out.s1 hW (.inr (by have OX3_ := OX3.out; show Wb.heap.size ≤ X3; omega)))
      have Ke_8 := hd ((Chg.refl [b, X3, X4] v8).s1 hW (.inl (by simp)))
      have KP_8 := hd ((Chg.refl [X3, X4] v8).s1 hW (.inl (by simp)))
      clear hW
      refine wpAnyH_done (by kernel_rfl) ?_ _
      try simp only [qq, qr]
      go_wp2_with fail
      refine rmust_r (hd (HP8.out.keep KP_8.out (al2 BX3.out BX4.out))) [59] (fun q9 e9 a9 w9 HR9 HP9 HC9 => ?_)
      have HX3_9 := hd (HC9.out.blk HX3_8.out (by simp [NX3_b]))
      have HX4_9 := hd (HC9.out.blk HX4_8.out (by simp [NX4_b]))
      have C9 := hd (C8.out.trans HC9.out (al1 (.inl (by simp))))
      have Ke_9 := hd (Ke_8.out.trans HC9.out (al1 (.inl (by simp))))
      obtain ⟨cX3_0, cX3_1, cX3_2, cX3_3, cX3_4, cX3_5, cX3_6, cX3_7⟩ := HX3_9.out.c8
      obtain ⟨cX4_0, cX4_1, cX4_2, cX4_3, cX4_4, cX4_5, cX4_6, cX4_7⟩ := HX4_9.out.c8
      obtain ⟨cX4_f0, cX4_f1, cX4_f2, cX4_f3, cX4_f4, cX4_f5, cX4_f6, cX4_f7⟩ := HX4_9.out.f8
      go_wp2_with fail
      clear cX3_0 cX3_1 cX3_2 cX3_3 cX3_4 cX3_5 cX3_6 cX3_7 cX4_0 cX4_1 cX4_2 cX4_3 cX4_4 cX4_5 cX4_6 cX4_7 cX4_f0 cX4_f1 cX4_f2 cX4_f3 cX4_f4 cX4_f5 cX4_f6 cX4_f7
      obtain ⟨W10, hW⟩ : ∃ W, W = ((((((((w9.setCell ⟨X4, 0, none⟩ (.string ⟨L.name.toArray⟩)).setCell ⟨X4, 1, none⟩ (.int .i64 (L.height : Nat))).setCell ⟨X4, 2, none⟩ (.slice o1 L.blocks.length k1)).setCell ⟨X4, 3, none⟩ (.slice o2 L.areas.length k2)).setCell ⟨X4, 4, none⟩ (.slice (some ⟨g8, 0, none⟩) (L.aisles.length + 1) c8)).setCell ⟨X4, 5, none⟩ (.slice o4 L.pillars.length k4)).setCell ⟨X4, 6, none⟩ (.slice o5 L.doors.length k5)).setCell ⟨X4, 7, none⟩ (.int .i64 (L.at_ : Nat))) := ⟨_, rfl⟩
      rw [← hW]
      have HX4_10 : Hid (Blk W10 X4 [.string ⟨L.name.toArray⟩, .int .i64 (L.height : Nat), .slice o1 L.blocks.length k1, .slice o2 L.areas.length k2, .slice (some ⟨g8, 0, none⟩) (L.aisles.length + 1) c8, .slice o4 L.pillars.length k4, .slice o5 L.doors.length k5, .int .i64 (L.at_ : Nat)] 47) := hd (by rw [hW]; exact ((((((((HX4_9.out.set 0 (.string ⟨L.name.toArray⟩)).set 1 (.int .i64 (L.height : Nat))).set 2 (.slice o1 L.blocks.length k1)).set 3 (.slice o2 L.areas.length k2)).set 4 (.slice (some ⟨g8, 0, none⟩) (L.aisles.length + 1) c8)).set 5 (.slice o4 L.pillars.length k4)).set 6 (.slice o5 L.doors.length k5)).set 7 (.int .i64 (L.at_ : Nat))))
      have C10 := hd (C9.out.s8 hW (.inr (by have OX3_ := OX3.out; have OX4_ := OX4.out; show Wb.heap.size ≤ X4; omega)))
      have Ke_10 := hd (Ke_9.out.s8 hW (.inl (by simp)))
      have KP_10 := hd ((Chg.refl [X3, X4] w9).s8 hW (.inl (by simp)))
      clear hW
      (try simp only [Exit.inBlock, Exit.then])
      have HLF : Hid (LX B { L with aisles := L.aisles ++ [x] } (.slice o1 L.blocks.length k1) (.slice o2 L.areas.length k2) (.slice (some ⟨g8, 0, none⟩) (L.aisles.length + 1) c8) (.slice o4 L.pillars.length k4) (.slice o5 L.doors.length k5) W10) := hd (HLX8.out.keep Ke_10.out HTY.out)
      have HRR : RR Pn.item en (t1 :: r1) 0 a (Pn.It.aisle x) q9 e9 a9 := rr_item HIT.out ((show RR Pn.boxS en r1 0 a x q9 e9 a9 from HRx.out.bind (HR9.out.map (fun _ => x))).map Pn.It.aisle)
      refine bodyPost_ret (results_cell_row rfl _ _ X4 47 #[.string ⟨L.name.toArray⟩, .int .i64 (L.height : Nat), .slice o1 L.blocks.length k1, .slice o2 L.areas.length k2, .slice (some ⟨g8, 0, none⟩) (L.aisles.length + 1) c8, .slice o4 L.pillars.length k4, .slice o5 L.doors.length k5, .int .i64 (L.at_ : Nat)] (0, 0) _ rfl HX4_10.out Tryd.underlying47 rfl (by kernel_rfl)) rfl ⟨{ L with aisles := L.aisles ++ [x] }, _, _, _, _, _, Pn.It.aisle x, q9, e9, a9, rfl, HLF.out, HRR, .inl rfl, (HP9.out.keep KP_10.out (al2 BX3.out BX4.out)), C10.out, fun K ds hK hn => Ke_10.out.blk (HKK.out K ds hK hn) (by
       have h1 := hK.lt
       have h2 := MX3.out
       have h3 := MX4.out
       simp only [List.mem_cons, List.not_mem_nil, or_false, not_or]
       exact ⟨hn, by omega, by omega⟩)⟩
   · skip
     go_simp
     refine hK.out _ _ trivial (fun _ => ?_)
     clear hK K
     try simp only [qq, qr]
     have x0 := (HX3_7.out.alloc (.cells #[.int .i64 (x.x : Nat), .int .i64 (x.y : Nat), .int .i64 (x.x2 : Nat), .int .i64 (x.y2 : Nat)] 56)).cell (i := 4) rfl
     refine rd1 1 (by kernel_rfl) rfl (fun K hK => ?_)
     go_simp
     refine hK.out _ _ trivial (fun _ => ?_)
     clear hK K
     try simp only [qq, qr]
     clear x0
     refine rd1 5 (by kernel_rfl) rfl (fun K hK => ?_)
     have HLn : Hid (LX B L (.slice o1 L.blocks.length k1) (.slice o2 L.areas.length k2) (.slice o3 L.aisles.length k3) (.slice o4 L.pillars.length k4) (.slice o5 L.doors.length k5) wx) := hd (HLX.out.keep Kk_7.out (TyB.lower (fun z hz => by simp only [List.mem_cons, List.not_mem_nil, or_false] at hz; rw [hz]; exact HbB.out) _))
     have HLk : Hid (LX B L (.slice o1 L.blocks.length k1) (.slice o2 L.areas.length k2) (.slice o3 L.aisles.length k3) (.slice o4 L.pillars.length k4) (.slice o5 L.doors.length k5) (wx.alloc (.cells #[.int .i64 (x.x : Nat), .int .i64 (x.y : Nat), .int .i64 (x.x2 : Nat), .int .i64 (x.y2 : Nat)] 56))) := hd (HLn.out.keep ((Chg.refl [] _).alloc _) (TyB.nil _ _ _))
     have HCk : Hid (Chg [b] w wx) := hd Kk_7.out
     have hsz0 : B ≤ wx.heap.size := Nat.le_trans HBs.out HCk.out.size
     have HSZ8 : Hid (B ≤ (wx.alloc (.cells #[.int .i64 (x.x : Nat), .int .i64 (x.y : Nat), .int .i64 (x.x2 : Nat), .int .i64 (x.y2 : Nat)] 56)).heap.size) := hd (Nat.le_trans hsz0 ((Chg.refl [] _).alloc _).size)
     clear hsz0
     refine step_snoc2 rfl (.tmp 88) (.tmp 91) 44 rfl 56 i3 _ 4 32 Tryd.underlying44 hi3 iz0 iz1 iz2 rfl (by decide) (C := Cbx) (Es := []) (.slice o3 L.aisles.length k3) L.aisles.length rfl HLk.out.1.2.2.1 rfl (kp_bx B) (by decide) x [.int .i64 (x.x : Nat), .int .i64 (x.y : Nat), .int .i64 (x.x2 : Nat), .int .i64 (x.y2 : Nat)] rfl rfl (by intro u hu; simp at hu; rcases hu with rfl | rfl | rfl | rfl <;> rfl) wx.heap.size rfl (Blk.new wx [.int .i64 (x.x : Nat), .int .i64 (x.y : Nat), .int .i64 (x.x2 : Nat), .int .i64 (x.y2 : Nat)] 56) (by unfold maxLen; omega) (by omega) HSZ8.out ?kk
     case kk =>
      intro g8 c8 v8 hl8 hg8 ho8 hk8
      have HAK := hd (appk HLk.out.1.2.2.1 hg8)
      have HLX8 : Hid (LX B { L with aisles := L.aisles ++ [x] } (.slice o1 L.blocks.length k1) (.slice o2 L.areas.length k2) (.slice (some ⟨g8, 0, none⟩) (L.aisles.length + 1) c8) (.slice o4 L.pillars.length k4) (.slice o5 L.doors.length k5) v8) := hd (HLk.out.app3 hg8 x hl8 (ho8.imp (fun h => h.symm) (fun h => ⟨g8, rfl, fun k hk => by rw [h]; exact HLk.out.1.2.2.2.1.below k hk⟩)))
      have HC8 : Hid (Chg [b] Wb v8) := hd (HAK.out.2 _ _ (C7.out.alloc _) HWB.out)
      have HP8 : Hid (Rp v8 b q8 e8 a8 en) := hd (HPx.out.via (W := Wb) (own := [b]) C7.out HC8.out (fun ds S h => HAK.out.1 _ _ _ (h.alloc _) (.inl HbB.out)) (fun z hz => by simp only [List.mem_cons, List.not_mem_nil, or_false] at hz; rw [hz]; exact Nat.le_refl _) HBW.out)
      have HKK : Hid (∀ K ds, Blk w K ds 47 → K ≠ b → Blk v8 K ds 47) := hd (fun K ds hK hn => HAK.out.1 _ _ _ ((Kk_7.out.blk hK (by simp [hn])).alloc _) (.inr (by decide)))
      have HX3_8 := hd (HAK.out.1 _ _ _ (HX3_7.out.alloc _) (.inr (by decide)))
      have HX4_8 := hd (HAK.out.1 _ _ _ (HX4_7.out.alloc _) (.inr (by decide)))
      have HTY : Hid (TyB [b, X3, X4] v8 B [51, 54, 64, 58, 56, 24]) := hd (tyb_lv HbB.out HX3_8.out HX4_8.out (by decide))
      clear hl8 hg8 ho8 hk8
      refine hK.out _ _ trivial (fun _ => ?_)
      clear hK K
      try simp only [qq, qr]
      refine tk 6 (v := ?vwc6) rfl (by kernel_rfl) (fun _ _ _ h => h) ?hywc6 (by assumption) ?rswc6
      case hywc6 => (intro w9 hSw; go_simp; try with_reducible rfl)
      try simp only [qq, qr]
      refine rd1 7 (by kernel_rfl) rfl (fun K hK => ?_)
      obtain ⟨cX3_0, cX3_1, cX3_2, cX3_3, cX3_4, cX3_5, cX3_6, cX3_7⟩ := HX3_8.out.c8
      obtain ⟨cX3_f0, cX3_f1, cX3_f2, cX3_f3, cX3_f4, cX3_f5, cX3_f6, cX3_f7⟩ := HX3_8.out.f8
      go_simp
      refine hK.out _ _ trivial (fun _ => ?_)
      clear hK K
      try simp only [qq, qr]
      clear cX3_0 cX3_1 cX3_2 cX3_3 cX3_4 cX3_5 cX3_6 cX3_7 cX3_f0 cX3_f1 cX3_f2 cX3_f3 cX3_f4 cX3_f5 cX3_f6 cX3_f7
      obtain ⟨W8, hW⟩ : ∃ W, W = (v8.setCell ⟨X3, 4, none⟩ (.slice (some ⟨g8, 0, none⟩) (L.aisles.length + 1) c8)) := ⟨_, rfl⟩
      rw [← hW]
      have HX3_8 : Hid (Blk W8 X3 [.string ⟨L.name.toArray⟩, .int .i64 (L.height : Nat), .slice o1 L.blocks.length k1, .slice o2 L.areas.length k2, .slice (some ⟨g8, 0, none⟩) (L.aisles.length + 1) c8, .slice o4 L.pillars.length k4, .slice o5 L.doors.length k5, .int .i64 (L.at_ : Nat)] 47) := hd (by rw [hW]; exact (HX3_8.out.set 4 (.slice (some ⟨g8, 0, none⟩) (L.aisles.length + 1) c8)))
      have HX4_8 := hd (HX4_8.out.o1 hW NX4_X3)
      have C8 := hd (HC8.out.s1 hW (.inr (by have OX3_ := OX3.out; show Wb.heap.size ≤ X3; omega)))
      have Ke_8 := hd ((Chg.refl [b, X3, X4] v8).s1 hW (.inl (by simp)))
      have KP_8 := hd ((Chg.refl [X3, X4] v8).s1 hW (.inl (by simp)))
      clear hW
      refine wpAnyH_done (by kernel_rfl) ?_ _
      try simp only [qq, qr]
      go_wp2_with fail
      refine rmust_r (hd (HP8.out.keep KP_8.out (al2 BX3.out BX4.out))) [59] (fun q9 e9 a9 w9 HR9 HP9 HC9 => ?_)
      have HX3_9 := hd (HC9.out.blk HX3_8.out (by simp [NX3_b]))
      have HX4_9 := hd (HC9.out.blk HX4_8.out (by simp [NX4_b]))
      have C9 := hd (C8.out.trans HC9.out (al1 (.inl (by simp))))
      have Ke_9 := hd (Ke_8.out.trans HC9.out (al1 (.inl (by simp))))
      obtain ⟨cX3_0, cX3_1, cX3_2, cX3_3, cX3_4, cX3_5, cX3_6, cX3_7⟩ := HX3_9.out.c8
      obtain ⟨cX4_0, cX4_1, cX4_2, cX4_3, cX4_4, cX4_5, cX4_6, cX4_7⟩ := HX4_9.out.c8
      obtain ⟨cX4_f0, cX4_f1, cX4_f2, cX4_f3, cX4_f4, cX4_f5, cX4_f6, cX4_f7⟩ := HX4_9.out.f8
      go_wp2_with fail
      clear cX3_0 cX3_1 cX3_2 cX3_3 cX3_4 cX3_5 cX3_6 cX3_7 cX4_0 cX4_1 cX4_2 cX4_3 cX4_4 cX4_5 cX4_6 cX4_7 cX4_f0 cX4_f1 cX4_f2 cX4_f3 cX4_f4 cX4_f5 cX4_f6 cX4_f7
      obtain ⟨W10, hW⟩ : ∃ W, W = ((((((((w9.setCell ⟨X4, 0, none⟩ (.string ⟨L.name.toArray⟩)).setCell ⟨X4, 1, none⟩ (.int .i64 (L.height : Nat))).setCell ⟨X4, 2, none⟩ (.slice o1 L.blocks.length k1)).setCell ⟨X4, 3, none⟩ (.slice o2 L.areas.length k2)).setCell ⟨X4, 4, none⟩ (.slice (some ⟨g8, 0, none⟩) (L.aisles.length + 1) c8)).setCell ⟨X4, 5, none⟩ (.slice o4 L.pillars.length k4)).setCell ⟨X4, 6, none⟩ (.slice o5 L.doors.length k5)).setCell ⟨X4, 7, none⟩ (.int .i64 (L.at_ : Nat))) := ⟨_, rfl⟩
      rw [← hW]
      have HX4_10 : Hid (Blk W10 X4 [.string ⟨L.name.toArray⟩, .int .i64 (L.height : Nat), .slice o1 L.blocks.length k1, .slice o2 L.areas.length k2, .slice (some ⟨g8, 0, none⟩) (L.aisles.length + 1) c8, .slice o4 L.pillars.length k4, .slice o5 L.doors.length k5, .int .i64 (L.at_ : Nat)] 47) := hd (by rw [hW]; exact ((((((((HX4_9.out.set 0 (.string ⟨L.name.toArray⟩)).set 1 (.int .i64 (L.height : Nat))).set 2 (.slice o1 L.blocks.length k1)).set 3 (.slice o2 L.areas.length k2)).set 4 (.slice (some ⟨g8, 0, none⟩) (L.aisles.length + 1) c8)).set 5 (.slice o4 L.pillars.length k4)).set 6 (.slice o5 L.doors.length k5)).set 7 (.int .i64 (L.at_ : Nat))))
      have C10 := hd (C9.out.s8 hW (.inr (by have OX3_ := OX3.out; have OX4_ := OX4.out; show Wb.heap.size ≤ X4; omega)))
      have Ke_10 := hd (Ke_9.out.s8 hW (.inl (by simp)))
      have KP_10 := hd ((Chg.refl [X3, X4] w9).s8 hW (.inl (by simp)))
      clear hW
      (try simp only [Exit.inBlock, Exit.then])
      have HLF : Hid (LX B { L with aisles := L.aisles ++ [x] } (.slice o1 L.blocks.length k1) (.slice o2 L.areas.length k2) (.slice (some ⟨g8, 0, none⟩) (L.aisles.length + 1) c8) (.slice o4 L.pillars.length k4) (.slice o5 L.doors.length k5) W10) := hd (HLX8.out.keep Ke_10.out HTY.out)
      have HRR : RR Pn.item en (t1 :: r1) 0 a (Pn.It.aisle x) q9 e9 a9 := rr_item HIT.out ((show RR Pn.boxS en r1 0 a x q9 e9 a9 from HRx.out.bind (HR9.out.map (fun _ => x))).map Pn.It.aisle)
      refine bodyPost_ret (results_cell_row rfl _ _ X4 47 #[.string ⟨L.name.toArray⟩, .int .i64 (L.height : Nat), .slice o1 L.blocks.length k1, .slice o2 L.areas.length k2, .slice (some ⟨g8, 0, none⟩) (L.aisles.length + 1) c8, .slice o4 L.pillars.length k4, .slice o5 L.doors.length k5, .int .i64 (L.at_ : Nat)] (0, 0) _ rfl HX4_10.out Tryd.underlying47 rfl (by kernel_rfl)) rfl ⟨{ L with aisles := L.aisles ++ [x] }, _, _, _, _, _, Pn.It.aisle x, q9, e9, a9, rfl, HLF.out, HRR, .inl rfl, (HP9.out.keep KP_10.out (al2 BX3.out BX4.out)), C10.out, fun K ds hK hn => Ke_10.out.blk (HKK.out K ds hK hn) (by
       have h1 := hK.lt
       have h2 := MX3.out
       have h3 := MX4.out
       simp only [List.mem_cons, List.not_mem_nil, or_false, not_or]
       exact ⟨hn, by omega, by omega⟩)⟩
end Go.Proofs.YtocadlcglgpdcaaDoor
