/-
 Plan, the reference, layer 6: item in one; level. Printed by genpqf06.py.
-/
import Derived.Test.YtocadlcglgpdcaaDoorPqE0
import Derived.Test.YtocadlcglgpdcaaDoorPqE1
import Derived.Test.YtocadlcglgpdcaaDoorPqE2
import Derived.Test.YtocadlcglgpdcaaDoorPqE3
import Derived.Test.YtocadlcglgpdcaaDoorPqE4
import Derived.Test.YtocadlcglgpdcaaDoorPqE5
namespace Go.Proofs.YtocadlcglgpdcaaDoor
set_option linter.unusedVariables false
set_option linter.unusedSimpArgs false
open Go Go.RowKit Go.Shelf
open Lx (Tk)
attribute [local go_sem ↓] Go.wp_at_zero Go.wp_at_succ
attribute [local irreducible] Go.wpStill
theorem ritem_r (w Wb : World) (b a en B : Nat) (q : List Tk) (L : Pn.Lv) (u1 u2 u3 u4 u5 : Value) (HP : Hid (Rp w b q 0 a en)) (HWK : Hid (∀ t ∈ q, Pn.Wk t)) (HLX : Hid (LX B L u1 u2 u3 u4 u5 w)) (HSZ : Hid (L.blocks.length ≤ 2000000 ∧ L.areas.length ≤ 2000000 ∧ L.aisles.length ≤ 2000000 ∧ L.pillars.length ≤ 2000000 ∧ L.doors.length ≤ 2000000)) (HBW : Hid (b < Wb.heap.size)) (HWB : Hid (Wb.heap.size ≤ B)) (HBs : Hid (B ≤ w.heap.size)) (HCb : Hid (Chg [b] Wb w)) (HWZ : Hid (∀ t ∈ q, Pn.Wz t)) {R : Ending → World → Prop}
 (h : ∀ (L' : Pn.Lv) (v1 v2 v3 v4 v5 : Value) (it : Pn.It) (q' : List Tk) (er' a' : Nat) (w' : World), Hid (LX B L' v1 v2 v3 v4 v5 w') → Hid (RR Pn.item en q 0 a it q' er' a') → Hid (L' = Pn.addIt L it ∨ (L' = L ∧ er' ≠ 0)) → Hid (Rp w' b q' er' a' en) → Hid (Chg [b] Wb w') → Hid (∀ K ds, Blk w K ds 47 → K ≠ b → Blk w' K ds 47) → R (.returned (.agg #[.string ⟨L'.name.toArray⟩, .int .i64 (L'.height : Nat), v1, v2, v3, v4, v5, .int .i64 (L'.at_ : Nat)])) w') :
 Calls Tryd.prog 41 #[.pointer (some ⟨b, 0, none⟩), .agg #[.string ⟨L.name.toArray⟩, .int .i64 (L.height : Nat), u1, u2, u3, u4, u5, .int .i64 (L.at_ : Nat)]] w R := by
 have hm : ∀ e w', ItemR Wb b B en q 0 a L w e w' → R e w' := fun e w' hx => by
  obtain ⟨L', v1, v2, v3, v4, v5, it, q', er', a', rfl, h1, h2, h3, h4, h5, h6⟩ := hx
  exact h L' v1 v2 v3 v4 v5 it q' er' a' w' (hd h1) (hd h2) (hd h3) (hd h4) (hd h5) (hd h6)
 clear h
 cases h1 : Pn.isw [98, 108, 111, 99, 107] q with
 | true => exact (ritem1_spec w Wb b a en B q L u1 u2 u3 u4 u5 HP HWK HLX HSZ HBW HWB HBs HCb (hd h1)).mono hm
 | false =>
 cases h2 : Pn.isw [97, 114, 101, 97] q with
 | true => exact (ritem2_spec w Wb b a en B q L u1 u2 u3 u4 u5 HP HWK HLX HSZ HBW HWB HBs HCb (hd h1) (hd h2)).mono hm
 | false =>
 cases h3 : Pn.isw [97, 105, 115, 108, 101] q with
 | true => exact (ritem3_spec w Wb b a en B q L u1 u2 u3 u4 u5 HP HWK HLX HSZ HBW HWB HBs HCb (hd h1) (hd h2) (hd h3)).mono hm
 | false =>
 cases h4 : Pn.isw [112, 105, 108, 108, 97, 114] q with
 | true => exact (ritem4_spec w Wb b a en B q L u1 u2 u3 u4 u5 HP HWK HLX HSZ HBW HWB HBs HCb (hd h1) (hd h2) (hd h3) (hd h4)).mono hm
 | false =>
 cases h5 : Pn.isw [100, 111, 111, 114] q with
 | true => exact (ritem5_spec w Wb b a en B q L u1 u2 u3 u4 u5 HP HWK HLX HSZ HBW HWB HBs HCb (hd h1) (hd h2) (hd h3) (hd h4) (hd h5)).mono hm
 | false =>
 exact (ritem0_spec w Wb b a en B q L u1 u2 u3 u4 u5 HP HWK HLX HSZ HBW HWB HBs HCb (hd h1) (hd h2) (hd h3) (hd h4) (hd h5) HWZ).mono hm
def Pn.levelA (at_ : Nat) (l : List Tk) : Rl.Out Pn.Lv :=
 (Pn.must Pn.wLevel l).bind fun _ l1 => (Pn.name l1).bind fun nm l2 => (Pn.must Pn.wHeight l2).bind fun _ l3 => (Pn.num l3).bind fun h l4 => (Pn.must Pn.cOpen l4).bind fun _ l5 =>
  (Pn.braced Pn.item l5).bind fun its l6 => .ok (Pn.lev nm h its at_) l6
theorem rr_level {en : Nat} {q q' : List Tk} {er a er' a' : Nat} {x : Pn.Lv} (h : RR (Pn.levelA (Rl.place en q)) en q er a x q' er' a') : RR Pn.level en q er a x q' er' a' := h.eqv (by cases q <;> rfl)
theorem lev_sizes (nm : Bytes) (h : Nat) (its : List Pn.It) (at_ : Nat) (hl : its.length ≤ 1000001) : (Pn.lev nm h its at_).blocks.length ≤ 2000000 ∧ (Pn.lev nm h its at_).areas.length ≤ 2000000 ∧ (Pn.lev nm h its at_).aisles.length ≤ 2000000 ∧ (Pn.lev nm h its at_).pillars.length ≤ 2000000 ∧ (Pn.lev nm h its at_).doors.length ≤ 2000000 := by
 have h1 := Pn.lev_len nm h its at_
 omega
theorem lx_nil (B : Nat) (nm : Bytes) (h at_ : Nat) (w : World) : LX B (Pn.lev nm h [] at_) (.slice none 0 0) (.slice none 0 0) (.slice none 0 0) (.slice none 0 0) (.slice none 0 0) w := ⟨⟨ListS.nil _ _ _ _ _, ListS.nil _ _ _ _ _, ListS.nil _ _ _ _ _, ListS.nil _ _ _ _ _, ListS.nil _ _ _ _ _⟩, fun k hk => by simp [Value.ownBlock] at hk⟩
/-- A level with one item more, or none if there was an error. -/
theorem item_its {nm : Bytes} {h at_ er' : Nat} {its its' : List Pn.It} {L' : Pn.Lv} {it : Pn.It} {n : Nat} (e : its' = its) (hL : L' = Pn.addIt (Pn.lev nm h its' at_) it ∨ (L' = Pn.lev nm h its' at_ ∧ er' ≠ 0)) (hn : (its ++ [it]).length ≤ n) : ∃ its2, L' = Pn.lev nm h its2 at_ ∧ its2.length ≤ n ∧ (er' = 0 → its2 = its ++ [it]) := by
 subst e
 rcases hL with rfl | ⟨rfl, h2⟩
 · exact ⟨its' ++ [it], Pn.lev_add _ _ _ _ _, hn, fun _ => rfl⟩
 · exact ⟨its', rfl, by simp only [List.length_append, List.length_singleton] at hn; omega, fun h3 => absurd h3 h2⟩
set_option maxHeartbeats 8000000 in
set_option maxRecDepth 100000 in
theorem rlevel_spec (w : World) (b er a en : Nat) (q : List Tk) (HP : Hid (Rp w b q er a en)) (HWK : Hid (∀ t ∈ q, Pn.Wk t)) (HWZ : Hid (∀ t ∈ q, Pn.Wz t)) : Calls Tryd.prog 30 #[.pointer (some ⟨b, 0, none⟩)] w fun e w' => ∃ (x : Pn.Lv) (v1 v2 v3 v4 v5 : Value) (q' : List Tk) (er' a' : Nat), e = .returned (.agg #[.string ⟨x.name.toArray⟩, .int .i64 (x.height : Nat), v1, v2, v3, v4, v5, .int .i64 (x.at_ : Nat)]) ∧ RR Pn.level en q er a x q' er' a' ∧ Rp w' b q' er' a' en ∧ Chg [b] w w' ∧ LX w.heap.size x v1 v2 v3 v4 v5 w' := by
 have HBW : Hid (b < w.heap.size) := hd HP.out.lt
 go_enter Tryd.func30, Tryd.ntmps30
 go_upto_region 1 with fail
 obtain ⟨W1, hW⟩ : ∃ W, W = (w.alloc (.cells #[.string ⟨#[]⟩, .int .i64 0, .slice none 0 0, .slice none 0 0, .slice none 0 0, .slice none 0 0, .slice none 0 0, .int .i64 0] 47)) := ⟨_, rfl⟩
 rw [← hW]
 obtain ⟨X2, hX2⟩ : ∃ T, T = w.heap.size := ⟨_, rfl⟩
 try rw [← hX2]
 have OX2 : Hid (w.heap.size ≤ X2) := hd (by rw [hX2]; exact Nat.le_refl _)
 have HX2_1 : Hid (Blk W1 X2 [.string ⟨#[]⟩, .int .i64 0, .slice none 0 0, .slice none 0 0, .slice none 0 0, .slice none 0 0, .slice none 0 0, .int .i64 0] 47) := hd (by
  have h1 := Blk.new w [.string ⟨#[]⟩, .int .i64 0, .slice none 0 0, .slice none 0 0, .slice none 0 0, .slice none 0 0, .slice none 0 0, .int .i64 0] 47
  have h2 : w.heap.size = X2 := by simp [hX2]
  rw [h2] at h1
  rw [hW]
  exact h1)
 have BX2 : Hid (b < X2) := hd (by have h1 := HBW.out; have OX2_ := OX2.out; omega)
 have C1 : Hid (Chg [b] w W1) := hd (by rw [hW]; exact ((Chg.refl [b] w).alloc _))
 have KP_1 : Hid (Chg [] w W1) := hd (by rw [hW]; exact ((Chg.refl [] w).alloc _))
 clear hW hX2
 go_wp2_with fail
 refine rat_r (hd (HP.out.keep KP_1.out (by simp))) (fun w1 HP1 HC1 => ?_)
 have HX2_2 : Hid (Blk w1 X2 [.string ⟨#[]⟩, .int .i64 0, .slice none 0 0, .slice none 0 0, .slice none 0 0, .slice none 0 0, .slice none 0 0, .int .i64 0] 47) := hd (HC1.out.blk HX2_1.out (by simp))
 have C2 := hd (C1.out.trans HC1.out (by simp))
 obtain ⟨at9, hat9⟩ : ∃ x, x = Rl.place en q := ⟨_, rfl⟩
 rw [← hat9]
 have HAT := hd hat9
 clear hat9
 go_upto_region 2 with fail
 obtain ⟨W3, hW⟩ : ∃ W, W = (w1.alloc (.cells #[.string ⟨#[]⟩, .int .i64 0, .slice none 0 0, .slice none 0 0, .slice none 0 0, .slice none 0 0, .slice none 0 0, .int .i64 (at9 : Nat)] 47)) := ⟨_, rfl⟩
 rw [← hW]
 obtain ⟨X3, hX3⟩ : ∃ T, T = w1.heap.size := ⟨_, rfl⟩
 try rw [← hX3]
 have OX3 : Hid (X2 < X3) := hd (by rw [hX3]; exact HX2_2.out.lt)
 have HX2_3 := hd (HX2_2.out.alE hW)
 have HX3_3 : Hid (Blk W3 X3 [.string ⟨#[]⟩, .int .i64 0, .slice none 0 0, .slice none 0 0, .slice none 0 0, .slice none 0 0, .slice none 0 0, .int .i64 (at9 : Nat)] 47) := hd (by
  have h1 := Blk.new w1 [.string ⟨#[]⟩, .int .i64 0, .slice none 0 0, .slice none 0 0, .slice none 0 0, .slice none 0 0, .slice none 0 0, .int .i64 (at9 : Nat)] 47
  have h2 : w1.heap.size = X3 := by simp [hX3]
  rw [h2] at h1
  rw [hW]
  exact h1)
 have BX3 : Hid (b < X3) := hd (by have h1 := HBW.out; have OX2_ := OX2.out; have OX3_ := OX3.out; omega)
 have C3 := hd (C2.out.alE hW)
 have KP_3 : Hid (Chg [X2] w1 W3) := hd (by rw [hW]; exact ((Chg.refl [X2] w1).alloc _))
 clear hW hX3
 go_wp2_with fail
 refine rmust_r (hd (HP1.out.keep KP_3.out (al1 BX2.out))) [108, 101, 118, 101, 108] (fun q2 e2 a2 w2 HR2 HP2 HC2 => ?_)
 have NX2_b : X2 ≠ b := by have h1 := HBW.out; have OX2_ := OX2.out; omega
 have Nb_X2 : b ≠ X2 := NX2_b.symm
 have NX3_b : X3 ≠ b := by have h1 := HBW.out; have OX2_ := OX2.out; have OX3_ := OX3.out; omega
 have Nb_X3 : b ≠ X3 := NX3_b.symm
 have HX2_4 := hd (HC2.out.blk HX2_3.out (by simp [NX2_b]))
 have HX3_4 : Hid (Blk w2 X3 [.string ⟨#[]⟩, .int .i64 0, .slice none 0 0, .slice none 0 0, .slice none 0 0, .slice none 0 0, .slice none 0 0, .int .i64 (at9 : Nat)] 47) := hd (HC2.out.blk HX3_3.out (by simp [NX3_b]))
 have C4 := hd (C3.out.trans HC2.out (al1 (.inl (by simp))))
 go_wp2_with fail
 refine rname_r (hd HP2.out) (fun x3 q3 e3 a3 w3 HR3 HP3 HC3 => ?_)
 have HX2_5 := hd (HC3.out.blk HX2_4.out (by simp [NX2_b]))
 have HX3_5 := hd (HC3.out.blk HX3_4.out (by simp [NX3_b]))
 have C5 := hd (C4.out.trans HC3.out (al1 (.inl (by simp))))
 obtain ⟨cX3_0, cX3_1, cX3_2, cX3_3, cX3_4, cX3_5, cX3_6, cX3_7⟩ := HX3_5.out.c8
 obtain ⟨cX3_f0, cX3_f1, cX3_f2, cX3_f3, cX3_f4, cX3_f5, cX3_f6, cX3_f7⟩ := HX3_5.out.f8
 go_upto_region 4 with fail
 clear cX3_0 cX3_1 cX3_2 cX3_3 cX3_4 cX3_5 cX3_6 cX3_7 cX3_f0 cX3_f1 cX3_f2 cX3_f3 cX3_f4 cX3_f5 cX3_f6 cX3_f7
 have NX2_X3 : X2 ≠ X3 := by have OX3_ := OX3.out; omega
 have NX3_X2 : X3 ≠ X2 := NX2_X3.symm
 obtain ⟨W6, hW⟩ : ∃ W, W = (w3.setCell ⟨X3, 0, none⟩ (.string ⟨x3.toArray⟩)) := ⟨_, rfl⟩
 rw [← hW]
 have HX2_6 := hd (HX2_5.out.o1 hW NX2_X3)
 have HX3_6 : Hid (Blk W6 X3 [.string ⟨x3.toArray⟩, .int .i64 0, .slice none 0 0, .slice none 0 0, .slice none 0 0, .slice none 0 0, .slice none 0 0, .int .i64 (at9 : Nat)] 47) := hd (by rw [hW]; exact (HX3_5.out.set 0 (.string ⟨x3.toArray⟩)))
 have C6 := hd (C5.out.s1 hW (.inr (by have OX2_ := OX2.out; have OX3_ := OX3.out; show w.heap.size ≤ X3; omega)))
 have KP_6 := hd ((Chg.refl [X2, X3] w3).s1 hW (.inl (by simp)))
 clear hW
 go_wp2_with fail
 refine rmust_r (hd (HP3.out.keep KP_6.out (al2 BX2.out BX3.out))) [104, 101, 105, 103, 104, 116] (fun q4 e4 a4 w4 HR4 HP4 HC4 => ?_)
 have HX2_7 := hd (HC4.out.blk HX2_6.out (by simp [NX2_b]))
 have HX3_7 := hd (HC4.out.blk HX3_6.out (by simp [NX3_b]))
 have C7 := hd (C6.out.trans HC4.out (al1 (.inl (by simp))))
 go_wp2_with fail
 refine rnum_r (hd HP4.out) (fun x5 q5 e5 a5 w5 HR5 HP5 HC5 => ?_)
 have HX2_8 := hd (HC5.out.blk HX2_7.out (by simp [NX2_b]))
 have HX3_8 := hd (HC5.out.blk HX3_7.out (by simp [NX3_b]))
 have C8 := hd (C7.out.trans HC5.out (al1 (.inl (by simp))))
 obtain ⟨cX3_0, cX3_1, cX3_2, cX3_3, cX3_4, cX3_5, cX3_6, cX3_7⟩ := HX3_8.out.c8
 obtain ⟨cX3_f0, cX3_f1, cX3_f2, cX3_f3, cX3_f4, cX3_f5, cX3_f6, cX3_f7⟩ := HX3_8.out.f8
 go_upto_region 6 with fail
 clear cX3_0 cX3_1 cX3_2 cX3_3 cX3_4 cX3_5 cX3_6 cX3_7 cX3_f0 cX3_f1 cX3_f2 cX3_f3 cX3_f4 cX3_f5 cX3_f6 cX3_f7
 obtain ⟨W9, hW⟩ : ∃ W, W = (w5.setCell ⟨X3, 1, none⟩ (.int .i64 (x5 : Nat))) := ⟨_, rfl⟩
 rw [← hW]
 have HX2_9 := hd (HX2_8.out.o1 hW NX2_X3)
 have HX3_9 : Hid (Blk W9 X3 [.string ⟨x3.toArray⟩, .int .i64 (x5 : Nat), .slice none 0 0, .slice none 0 0, .slice none 0 0, .slice none 0 0, .slice none 0 0, .int .i64 (at9 : Nat)] 47) := hd (by rw [hW]; exact (HX3_8.out.set 1 (.int .i64 (x5 : Nat))))
 have C9 := hd (C8.out.s1 hW (.inr (by have OX2_ := OX2.out; have OX3_ := OX3.out; show w.heap.size ≤ X3; omega)))
 have KP_9 := hd ((Chg.refl [X2, X3] w5).s1 hW (.inl (by simp)))
 clear hW
 go_wp2_with fail
 refine rmust_r (hd (HP5.out.keep KP_9.out (al2 BX2.out BX3.out))) [123] (fun q6 e6 a6 w6 HR6 HP6 HC6 => ?_)
 have HX2_10 := hd (HC6.out.blk HX2_9.out (by simp [NX2_b]))
 have HX3_10 := hd (HC6.out.blk HX3_9.out (by simp [NX3_b]))
 have C10 := hd (C9.out.trans HC6.out (al1 (.inl (by simp))))
 have HP0 : Hid (Rp w6 b q6 e6 a6 en) := hd HP6.out
 have HSF : Hid (Sf q er q6 e6) := hd (((((HR2.out.sf (Pn.nice_must _)).trans (HR3.out.sf Pn.nice_name)).trans (HR4.out.sf (Pn.nice_must _))).trans (HR5.out.sf Pn.nice_num)).trans (HR6.out.sf (Pn.nice_must _)))
 have HRL := hd HP6.out.small
 go_wp2_with fail
 go_loopw [] (fun wr => ∃ (its its1 : List Pn.It) (q1 : List Tk) (er1 a1 : Nat) (u1 u2 u3 u4 u5 : Value), Hid (Blk wr X3 [.string ⟨x3.toArray⟩, .int .i64 (x5 : Nat), u1, u2, u3, u4, u5, .int .i64 (at9 : Nat)] 47) ∧ Hid (Blk wr X2 [.string ⟨#[]⟩, .int .i64 0, .slice none 0 0, .slice none 0 0, .slice none 0 0, .slice none 0 0, .slice none 0 0, .int .i64 0] 47) ∧ Hid (LX w.heap.size (Pn.lev x3 x5 its1 at9) u1 u2 u3 u4 u5 wr) ∧ Hid (its1.length ≤ q6.length + 1 ∧ (er1 = 0 → its1 = its)) ∧ Hid (Rp wr b q1 er1 a1 en) ∧ Hid (GLI Pn.item en q6 e6 a6 its q1 er1 a1) ∧ Hid (Chg [b] w wr)) (fun wr => mz b wr)
 case atStart => exact ⟨[], [], q6, e6, a6, _, _, _, _, _, HX3_10, HX2_10, hd (lx_nil _ _ _ _ _), hd ⟨by simp, fun _ => rfl⟩, HP0, hd (gli_start _ _ _ _ _), C10⟩
 case round =>
  obtain ⟨its, its1, q1, er1, a1, u1, u2, u3, u4, u5, HX3, HX2, HLX, HIS, HPq, HMI, HCL⟩ := hrel
  obtain ⟨wo, hwn⟩ : ∃ x, x = wr := ⟨_, rfl⟩
  subst hwn
  obtain ⟨o1, k1, rfl⟩ := HLX.out.1.1.form
  obtain ⟨o2, k2, rfl⟩ := HLX.out.1.2.1.form
  obtain ⟨o3, k3, rfl⟩ := HLX.out.1.2.2.1.form
  obtain ⟨o4, k4, rfl⟩ := HLX.out.1.2.2.2.1.form
  obtain ⟨o5, k5, rfl⟩ := HLX.out.1.2.2.2.2.form
  have HSZ := hd (lev_sizes x3 x5 its1 at9 (by have h1 := HIS.out.1; have h2 := HRL.out; omega))
  obtain ⟨nb, ib, aob, capb, hbb⟩ := HPq.out.any
  have cb2 := hbb.cell (i := 2) rfl
  clear hbb
  by_cases he : er1 = 0
  · have e0 : ((er1 : Int) == 0) = true := by rw [he]; rfl
    have HE := hd he
    clear he
    go_wp2_with fail
    refine sees_r (hd HPq.out) [125] (fun bo w21 HB HPs HCs => ?_)
    clear cb2
    have HX2_12 : Hid (Blk w21 X2 [.string ⟨#[]⟩, .int .i64 0, .slice none 0 0, .slice none 0 0, .slice none 0 0, .slice none 0 0, .slice none 0 0, .int .i64 0] 47) := hd (HCs.out.blk HX2.out (by simp))
    have HX3_12 : Hid (Blk w21 X3 [.string ⟨x3.toArray⟩, .int .i64 (x5 : Nat), .slice o1 (Pn.lev x3 x5 its1 at9).blocks.length k1, .slice o2 (Pn.lev x3 x5 its1 at9).areas.length k2, .slice o3 (Pn.lev x3 x5 its1 at9).aisles.length k3, .slice o4 (Pn.lev x3 x5 its1 at9).pillars.length k4, .slice o5 (Pn.lev x3 x5 its1 at9).doors.length k5, .int .i64 (at9 : Nat)] 47) := hd (HCs.out.blk HX3.out (by simp))
    have C12 := hd (HCL.out.trans HCs.out (by simp))
    have Ko_12 := hd ((Chg.refl [b] wo).trans HCs.out (by simp))
    cases bo with
    | true =>
     go_wp2_with fail
     refine rmust_r (hd HPs.out) [125] (fun q9y e9y a9y w9y HR9y HP9y HC9y => ?_)
     have HX2_13 := hd (HC9y.out.blk HX2_12.out (by simp [NX2_b]))
     have HX3_13 := hd (HC9y.out.blk HX3_12.out (by simp [NX3_b]))
     have C13 := hd (C12.out.trans HC9y.out (al1 (.inl (by simp))))
     have Ko_13 := hd (Ko_12.out.trans HC9y.out (al1 (.inl (by simp))))
     have HRF : Hid (RR (Pn.braced Pn.item) en q6 e6 a6 its1 q9y e9y a9y) := hd (by rw [HIS.out.2 HE.out]; exact gli_close HMI.out HE.out (sees_true HB.out).2 HR9y.out)
     have HLe : Hid (LX w.heap.size (Pn.lev x3 x5 its1 at9) (.slice o1 (Pn.lev x3 x5 its1 at9).blocks.length k1) (.slice o2 (Pn.lev x3 x5 its1 at9).areas.length k2) (.slice o3 (Pn.lev x3 x5 its1 at9).aisles.length k3) (.slice o4 (Pn.lev x3 x5 its1 at9).pillars.length k4) (.slice o5 (Pn.lev x3 x5 its1 at9).doors.length k5) w9y) := hd (HLX.out.keep Ko_13.out (TyB.lower (by intro z hz; simp only [List.mem_cons, List.not_mem_nil, or_false] at hz; rw [hz]; exact HBW.out) _))
     obtain ⟨cX3_0, cX3_1, cX3_2, cX3_3, cX3_4, cX3_5, cX3_6, cX3_7⟩ := HX3_13.out.c8
     obtain ⟨cX2_0, cX2_1, cX2_2, cX2_3, cX2_4, cX2_5, cX2_6, cX2_7⟩ := HX2_13.out.c8
     obtain ⟨cX2_f0, cX2_f1, cX2_f2, cX2_f3, cX2_f4, cX2_f5, cX2_f6, cX2_f7⟩ := HX2_13.out.f8
     go_wp2_with fail
     clear cX3_0 cX3_1 cX3_2 cX3_3 cX3_4 cX3_5 cX3_6 cX3_7 cX2_0 cX2_1 cX2_2 cX2_3 cX2_4 cX2_5 cX2_6 cX2_7 cX2_f0 cX2_f1 cX2_f2 cX2_f3 cX2_f4 cX2_f5 cX2_f6 cX2_f7
     obtain ⟨W14, hW⟩ : ∃ W, W = ((((((((w9y.setCell ⟨X2, 0, none⟩ (.string ⟨x3.toArray⟩)).setCell ⟨X2, 1, none⟩ (.int .i64 (x5 : Nat))).setCell ⟨X2, 2, none⟩ (.slice o1 (Pn.lev x3 x5 its1 at9).blocks.length k1)).setCell ⟨X2, 3, none⟩ (.slice o2 (Pn.lev x3 x5 its1 at9).areas.length k2)).setCell ⟨X2, 4, none⟩ (.slice o3 (Pn.lev x3 x5 its1 at9).aisles.length k3)).setCell ⟨X2, 5, none⟩ (.slice o4 (Pn.lev x3 x5 its1 at9).pillars.length k4)).setCell ⟨X2, 6, none⟩ (.slice o5 (Pn.lev x3 x5 its1 at9).doors.length k5)).setCell ⟨X2, 7, none⟩ (.int .i64 (at9 : Nat))) := ⟨_, rfl⟩
     rw [← hW]
     have HX2_14 : Hid (Blk W14 X2 [.string ⟨x3.toArray⟩, .int .i64 (x5 : Nat), .slice o1 (Pn.lev x3 x5 its1 at9).blocks.length k1, .slice o2 (Pn.lev x3 x5 its1 at9).areas.length k2, .slice o3 (Pn.lev x3 x5 its1 at9).aisles.length k3, .slice o4 (Pn.lev x3 x5 its1 at9).pillars.length k4, .slice o5 (Pn.lev x3 x5 its1 at9).doors.length k5, .int .i64 (at9 : Nat)] 47) := hd (by rw [hW]; exact ((((((((HX2_13.out.set 0 (.string ⟨x3.toArray⟩)).set 1 (.int .i64 (x5 : Nat))).set 2 (.slice o1 (Pn.lev x3 x5 its1 at9).blocks.length k1)).set 3 (.slice o2 (Pn.lev x3 x5 its1 at9).areas.length k2)).set 4 (.slice o3 (Pn.lev x3 x5 its1 at9).aisles.length k3)).set 5 (.slice o4 (Pn.lev x3 x5 its1 at9).pillars.length k4)).set 6 (.slice o5 (Pn.lev x3 x5 its1 at9).doors.length k5)).set 7 (.int .i64 (at9 : Nat))))
     have C14 := hd (C13.out.s8 hW (.inr (by have OX2_ := OX2.out; show w.heap.size ≤ X2; omega)))
     have Ko2_14 := hd ((Chg.refl [X2] w9y).s8 hW (.inl (by simp)))
     have KP_14 := hd ((Chg.refl [X2, X3] w9y).s8 hW (.inl (by simp)))
     clear hW
     (try simp only [Exit.inBlock, Exit.then])
     have HLF : Hid (LX w.heap.size (Pn.lev x3 x5 its1 at9) (.slice o1 (Pn.lev x3 x5 its1 at9).blocks.length k1) (.slice o2 (Pn.lev x3 x5 its1 at9).areas.length k2) (.slice o3 (Pn.lev x3 x5 its1 at9).aisles.length k3) (.slice o4 (Pn.lev x3 x5 its1 at9).pillars.length k4) (.slice o5 (Pn.lev x3 x5 its1 at9).doors.length k5) W14) := hd (HLe.out.keep Ko2_14.out (tyb_blk6 HX2_13.out (by decide)))
     have HRR : RR Pn.level en q er a (Pn.lev x3 x5 its1 at9) q9y e9y a9y := by
      refine rr_level ?_
      rw [← HAT.out]
      exact HR2.out.bind (HR3.out.bind (HR4.out.bind (HR5.out.bind (HR6.out.bind (HRF.out.map (fun its => Pn.lev x3 x5 its at9))))))
     refine bodyPost_ret (results_cell_row rfl _ _ X2 47 #[.string ⟨x3.toArray⟩, .int .i64 (x5 : Nat), .slice o1 (Pn.lev x3 x5 its1 at9).blocks.length k1, .slice o2 (Pn.lev x3 x5 its1 at9).areas.length k2, .slice o3 (Pn.lev x3 x5 its1 at9).aisles.length k3, .slice o4 (Pn.lev x3 x5 its1 at9).pillars.length k4, .slice o5 (Pn.lev x3 x5 its1 at9).doors.length k5, .int .i64 (at9 : Nat)] (0, 0) _ rfl HX2_14.out Tryd.underlying47 rfl (by kernel_rfl)) rfl ⟨Pn.lev x3 x5 its1 at9, .slice o1 (Pn.lev x3 x5 its1 at9).blocks.length k1, .slice o2 (Pn.lev x3 x5 its1 at9).areas.length k2, .slice o3 (Pn.lev x3 x5 its1 at9).aisles.length k3, .slice o4 (Pn.lev x3 x5 its1 at9).pillars.length k4, .slice o5 (Pn.lev x3 x5 its1 at9).doors.length k5, q9y, e9y, a9y, rfl, HRR, (HP9y.out.keep KP_14.out (al2 BX2.out BX3.out)), C14.out, HLF.out⟩
    | false =>
     have HNS : Hid (Pn.isw Pn.cClose q1 = false) := hd (by have h1 := HB.out; unfold seesB at h1; simp [HE.out] at h1; exact h1)
     have HWQ : Hid (∀ t ∈ q1, Pn.Wk t) := hd (by obtain ⟨h1, h2⟩ := (HSF.out.trans (gli_suf HMI.out)) HE.out; exact fun t ht => HWK.out t (h2.subset ht))
     have HWY : Hid (∀ t ∈ q1, Pn.Wz t) := hd (by obtain ⟨h1, h2⟩ := (HSF.out.trans (gli_suf HMI.out)) HE.out; exact fun t ht => HWZ.out t (h2.subset ht))
     have HL3 : Hid (LX w.heap.size (Pn.lev x3 x5 its1 at9) (.slice o1 (Pn.lev x3 x5 its1 at9).blocks.length k1) (.slice o2 (Pn.lev x3 x5 its1 at9).areas.length k2) (.slice o3 (Pn.lev x3 x5 its1 at9).aisles.length k3) (.slice o4 (Pn.lev x3 x5 its1 at9).pillars.length k4) (.slice o5 (Pn.lev x3 x5 its1 at9).doors.length k5) w21) := hd (HLX.out.keep Ko_12.out (TyB.lower (by intro z hz; simp only [List.mem_cons, List.not_mem_nil, or_false] at hz; rw [hz]; exact HBW.out) _))
     have HPw : Hid (Rp w21 b q1 0 a1 en) := hd (by have h := HPs.out; rw [HE.out] at h; exact h)
     have HC21 : Hid (Chg [b] w w21) := C12
     obtain ⟨cX3_0, cX3_1, cX3_2, cX3_3, cX3_4, cX3_5, cX3_6, cX3_7⟩ := HX3_12.out.c8
     go_wp2_with fail
     refine ritem_r w21 w b a1 en w.heap.size q1 (Pn.lev x3 x5 its1 at9) (.slice o1 (Pn.lev x3 x5 its1 at9).blocks.length k1) (.slice o2 (Pn.lev x3 x5 its1 at9).areas.length k2) (.slice o3 (Pn.lev x3 x5 its1 at9).aisles.length k3) (.slice o4 (Pn.lev x3 x5 its1 at9).pillars.length k4) (.slice o5 (Pn.lev x3 x5 its1 at9).doors.length k5) HPw HWQ HL3 HSZ HBW (hd (Nat.le_refl _)) (hd HC21.out.size) HC21 HWY (fun L' v1 v2 v3 v4 v5 it q7 e7 a7 w7 HL7 HR7 HI7 HP7 HC7 HK7 => ?_)
     clear cX3_0 cX3_1 cX3_2 cX3_3 cX3_4 cX3_5 cX3_6 cX3_7
     have HR7' : Hid (RR Pn.item en q1 er1 a1 it q7 e7 a7) := hd (by rw [HE.out]; exact HR7.out)
     obtain ⟨hm1, hm2⟩ := gli_step HMI.out HE.out HNS.out Pn.nice_item (fun y r h => by have h1 := Pn.eat_item _ _ _ h; omega) HR7'.out
     obtain ⟨its2, hL2, hn2, hi2⟩ := item_its (HIS.out.2 HE.out) HI7.out hm1.2.2
     subst hL2
     have HIS2 := hd (And.intro hn2 hi2)
     have HM9 := hd hm1
     have HLT := hd hm2
     clear hm1 hm2 hn2 hi2
     have HX3_7 : Hid (Blk w7 X3 [.string ⟨x3.toArray⟩, .int .i64 (x5 : Nat), .slice o1 (Pn.lev x3 x5 its1 at9).blocks.length k1, .slice o2 (Pn.lev x3 x5 its1 at9).areas.length k2, .slice o3 (Pn.lev x3 x5 its1 at9).aisles.length k3, .slice o4 (Pn.lev x3 x5 its1 at9).pillars.length k4, .slice o5 (Pn.lev x3 x5 its1 at9).doors.length k5, .int .i64 (at9 : Nat)] 47) := hd (HK7.out X3 _ HX3_12.out NX3_b)
     have HX2_7 : Hid (Blk w7 X2 [.string ⟨#[]⟩, .int .i64 0, .slice none 0 0, .slice none 0 0, .slice none 0 0, .slice none 0 0, .slice none 0 0, .int .i64 0] 47) := hd (HK7.out X2 _ HX2_12.out NX2_b)
     obtain ⟨j1, d1, rfl⟩ := HL7.out.1.1.form
     obtain ⟨j2, d2, rfl⟩ := HL7.out.1.2.1.form
     obtain ⟨j3, d3, rfl⟩ := HL7.out.1.2.2.1.form
     obtain ⟨j4, d4, rfl⟩ := HL7.out.1.2.2.2.1.form
     obtain ⟨j5, d5, rfl⟩ := HL7.out.1.2.2.2.2.form
     obtain ⟨cX3_0, cX3_1, cX3_2, cX3_3, cX3_4, cX3_5, cX3_6, cX3_7⟩ := HX3_7.out.c8
     obtain ⟨cX3_f0, cX3_f1, cX3_f2, cX3_f3, cX3_f4, cX3_f5, cX3_f6, cX3_f7⟩ := HX3_7.out.f8
     go_wp2_with fail
     clear cX3_0 cX3_1 cX3_2 cX3_3 cX3_4 cX3_5 cX3_6 cX3_7 cX3_f0 cX3_f1 cX3_f2 cX3_f3 cX3_f4 cX3_f5 cX3_f6 cX3_f7
     obtain ⟨W13, hW⟩ : ∃ W, W = ((((((((w7.setCell ⟨X3, 0, none⟩ (.string ⟨(Pn.lev x3 x5 its2 at9).name.toArray⟩)).setCell ⟨X3, 1, none⟩ (.int .i64 ((Pn.lev x3 x5 its2 at9).height : Nat))).setCell ⟨X3, 2, none⟩ (.slice j1 (Pn.lev x3 x5 its2 at9).blocks.length d1)).setCell ⟨X3, 3, none⟩ (.slice j2 (Pn.lev x3 x5 its2 at9).areas.length d2)).setCell ⟨X3, 4, none⟩ (.slice j3 (Pn.lev x3 x5 its2 at9).aisles.length d3)).setCell ⟨X3, 5, none⟩ (.slice j4 (Pn.lev x3 x5 its2 at9).pillars.length d4)).setCell ⟨X3, 6, none⟩ (.slice j5 (Pn.lev x3 x5 its2 at9).doors.length d5)).setCell ⟨X3, 7, none⟩ (.int .i64 ((Pn.lev x3 x5 its2 at9).at_ : Nat))) := ⟨_, rfl⟩
     rw [← hW]
     have HX2_13 := hd (HX2_7.out.o8 hW NX2_X3)
     have HX3_13 : Hid (Blk W13 X3 [.string ⟨(Pn.lev x3 x5 its2 at9).name.toArray⟩, .int .i64 ((Pn.lev x3 x5 its2 at9).height : Nat), .slice j1 (Pn.lev x3 x5 its2 at9).blocks.length d1, .slice j2 (Pn.lev x3 x5 its2 at9).areas.length d2, .slice j3 (Pn.lev x3 x5 its2 at9).aisles.length d3, .slice j4 (Pn.lev x3 x5 its2 at9).pillars.length d4, .slice j5 (Pn.lev x3 x5 its2 at9).doors.length d5, .int .i64 ((Pn.lev x3 x5 its2 at9).at_ : Nat)] 47) := hd (by rw [hW]; exact ((((((((HX3_7.out.set 0 (.string ⟨(Pn.lev x3 x5 its2 at9).name.toArray⟩)).set 1 (.int .i64 ((Pn.lev x3 x5 its2 at9).height : Nat))).set 2 (.slice j1 (Pn.lev x3 x5 its2 at9).blocks.length d1)).set 3 (.slice j2 (Pn.lev x3 x5 its2 at9).areas.length d2)).set 4 (.slice j3 (Pn.lev x3 x5 its2 at9).aisles.length d3)).set 5 (.slice j4 (Pn.lev x3 x5 its2 at9).pillars.length d4)).set 6 (.slice j5 (Pn.lev x3 x5 its2 at9).doors.length d5)).set 7 (.int .i64 ((Pn.lev x3 x5 its2 at9).at_ : Nat))))
     have C13 := hd (HC7.out.s8 hW (.inr (by have OX2_ := OX2.out; have OX3_ := OX3.out; show w.heap.size ≤ X3; omega)))
     have KP_13 := hd ((Chg.refl [X2, X3] w7).s8 hW (.inl (by simp)))
     have Kx_13 := hd ((Chg.refl [X3] w7).s8 hW (.inl (by simp)))
     clear hW
     have HL9 : Hid (LX w.heap.size (Pn.lev x3 x5 its2 at9) (.slice j1 (Pn.lev x3 x5 its2 at9).blocks.length d1) (.slice j2 (Pn.lev x3 x5 its2 at9).areas.length d2) (.slice j3 (Pn.lev x3 x5 its2 at9).aisles.length d3) (.slice j4 (Pn.lev x3 x5 its2 at9).pillars.length d4) (.slice j5 (Pn.lev x3 x5 its2 at9).doors.length d5) W13) := hd (HL7.out.keep Kx_13.out (tyb_blk6 HX3_7.out (by decide)))
     have HPz : Hid (Rp W13 b q7 e7 a7 en) := hd (HP7.out.keep KP_13.out (al2 BX2.out BX3.out))
     have HMU : Hid (mz b W13 < mz b wo) := hd (by rw [mz_rp HPz.out, mz_rp HPq.out, if_pos HE.out]; split; (rename_i h9; have := HLT.out h9; omega); omega)
     refine ⟨?_, HMU.out⟩
     first | exact ⟨its ++ [it], its2, q7, e7, a7, .slice j1 (Pn.lev x3 x5 its2 at9).blocks.length d1, .slice j2 (Pn.lev x3 x5 its2 at9).areas.length d2, .slice j3 (Pn.lev x3 x5 its2 at9).aisles.length d3, .slice j4 (Pn.lev x3 x5 its2 at9).pillars.length d4, .slice j5 (Pn.lev x3 x5 its2 at9).doors.length d5, HX3_13, HX2_13, HL9, HIS2, HPz, HM9, C13⟩ | ((repeat apply Exists.intro); exact ⟨⟨its ++ [it], its2, q7, e7, a7, .slice j1 (Pn.lev x3 x5 its2 at9).blocks.length d1, .slice j2 (Pn.lev x3 x5 its2 at9).areas.length d2, .slice j3 (Pn.lev x3 x5 its2 at9).aisles.length d3, .slice j4 (Pn.lev x3 x5 its2 at9).pillars.length d4, .slice j5 (Pn.lev x3 x5 its2 at9).doors.length d5, HX3_13, HX2_13, HL9, HIS2, HPz, HM9, C13⟩, rfl⟩)
  · have e0 : ((er1 : Int) == 0) = false := beq_eq_false_iff_ne.2 (by omega)
    have HE := hd he
    clear he
    go_wp2_with fail
    refine rmust_r (hd HPq.out) [125] (fun q9z e9z a9z w9z HR9z HP9z HC9z => ?_)
    have HX2_12 : Hid (Blk w9z X2 [.string ⟨#[]⟩, .int .i64 0, .slice none 0 0, .slice none 0 0, .slice none 0 0, .slice none 0 0, .slice none 0 0, .int .i64 0] 47) := hd (HC9z.out.blk HX2.out (by simp [NX2_b]))
    have HX3_12 : Hid (Blk w9z X3 [.string ⟨x3.toArray⟩, .int .i64 (x5 : Nat), .slice o1 (Pn.lev x3 x5 its1 at9).blocks.length k1, .slice o2 (Pn.lev x3 x5 its1 at9).areas.length k2, .slice o3 (Pn.lev x3 x5 its1 at9).aisles.length k3, .slice o4 (Pn.lev x3 x5 its1 at9).pillars.length k4, .slice o5 (Pn.lev x3 x5 its1 at9).doors.length k5, .int .i64 (at9 : Nat)] 47) := hd (HC9z.out.blk HX3.out (by simp [NX3_b]))
    have C12 := hd (HCL.out.trans HC9z.out (al1 (.inl (by simp))))
    have Ko_12 := hd ((Chg.refl [b] wo).trans HC9z.out (al1 (.inl (by simp))))
    clear cb2
    have HRF := hd (gli_over HMI.out HE.out HR9z.out its1)
    have HLe : Hid (LX w.heap.size (Pn.lev x3 x5 its1 at9) (.slice o1 (Pn.lev x3 x5 its1 at9).blocks.length k1) (.slice o2 (Pn.lev x3 x5 its1 at9).areas.length k2) (.slice o3 (Pn.lev x3 x5 its1 at9).aisles.length k3) (.slice o4 (Pn.lev x3 x5 its1 at9).pillars.length k4) (.slice o5 (Pn.lev x3 x5 its1 at9).doors.length k5) w9z) := hd (HLX.out.keep Ko_12.out (TyB.lower (by intro z hz; simp only [List.mem_cons, List.not_mem_nil, or_false] at hz; rw [hz]; exact HBW.out) _))
    obtain ⟨cX3_0, cX3_1, cX3_2, cX3_3, cX3_4, cX3_5, cX3_6, cX3_7⟩ := HX3_12.out.c8
    obtain ⟨cX2_0, cX2_1, cX2_2, cX2_3, cX2_4, cX2_5, cX2_6, cX2_7⟩ := HX2_12.out.c8
    obtain ⟨cX2_f0, cX2_f1, cX2_f2, cX2_f3, cX2_f4, cX2_f5, cX2_f6, cX2_f7⟩ := HX2_12.out.f8
    go_wp2_with fail
    clear cX3_0 cX3_1 cX3_2 cX3_3 cX3_4 cX3_5 cX3_6 cX3_7 cX2_0 cX2_1 cX2_2 cX2_3 cX2_4 cX2_5 cX2_6 cX2_7 cX2_f0 cX2_f1 cX2_f2 cX2_f3 cX2_f4 cX2_f5 cX2_f6 cX2_f7
    obtain ⟨W13, hW⟩ : ∃ W, W = ((((((((w9z.setCell ⟨X2, 0, none⟩ (.string ⟨x3.toArray⟩)).setCell ⟨X2, 1, none⟩ (.int .i64 (x5 : Nat))).setCell ⟨X2, 2, none⟩ (.slice o1 (Pn.lev x3 x5 its1 at9).blocks.length k1)).setCell ⟨X2, 3, none⟩ (.slice o2 (Pn.lev x3 x5 its1 at9).areas.length k2)).setCell ⟨X2, 4, none⟩ (.slice o3 (Pn.lev x3 x5 its1 at9).aisles.length k3)).setCell ⟨X2, 5, none⟩ (.slice o4 (Pn.lev x3 x5 its1 at9).pillars.length k4)).setCell ⟨X2, 6, none⟩ (.slice o5 (Pn.lev x3 x5 its1 at9).doors.length k5)).setCell ⟨X2, 7, none⟩ (.int .i64 (at9 : Nat))) := ⟨_, rfl⟩
    rw [← hW]
    have HX2_13 : Hid (Blk W13 X2 [.string ⟨x3.toArray⟩, .int .i64 (x5 : Nat), .slice o1 (Pn.lev x3 x5 its1 at9).blocks.length k1, .slice o2 (Pn.lev x3 x5 its1 at9).areas.length k2, .slice o3 (Pn.lev x3 x5 its1 at9).aisles.length k3, .slice o4 (Pn.lev x3 x5 its1 at9).pillars.length k4, .slice o5 (Pn.lev x3 x5 its1 at9).doors.length k5, .int .i64 (at9 : Nat)] 47) := hd (by rw [hW]; exact ((((((((HX2_12.out.set 0 (.string ⟨x3.toArray⟩)).set 1 (.int .i64 (x5 : Nat))).set 2 (.slice o1 (Pn.lev x3 x5 its1 at9).blocks.length k1)).set 3 (.slice o2 (Pn.lev x3 x5 its1 at9).areas.length k2)).set 4 (.slice o3 (Pn.lev x3 x5 its1 at9).aisles.length k3)).set 5 (.slice o4 (Pn.lev x3 x5 its1 at9).pillars.length k4)).set 6 (.slice o5 (Pn.lev x3 x5 its1 at9).doors.length k5)).set 7 (.int .i64 (at9 : Nat))))
    have C13 := hd (C12.out.s8 hW (.inr (by have OX2_ := OX2.out; show w.heap.size ≤ X2; omega)))
    have Ko2_13 := hd ((Chg.refl [X2] w9z).s8 hW (.inl (by simp)))
    have KP_13 := hd ((Chg.refl [X2, X3] w9z).s8 hW (.inl (by simp)))
    clear hW
    (try simp only [Exit.inBlock, Exit.then])
    have HLF : Hid (LX w.heap.size (Pn.lev x3 x5 its1 at9) (.slice o1 (Pn.lev x3 x5 its1 at9).blocks.length k1) (.slice o2 (Pn.lev x3 x5 its1 at9).areas.length k2) (.slice o3 (Pn.lev x3 x5 its1 at9).aisles.length k3) (.slice o4 (Pn.lev x3 x5 its1 at9).pillars.length k4) (.slice o5 (Pn.lev x3 x5 its1 at9).doors.length k5) W13) := hd (HLe.out.keep Ko2_13.out (tyb_blk6 HX2_12.out (by decide)))
    have HRR : RR Pn.level en q er a (Pn.lev x3 x5 its1 at9) q9z e9z a9z := by
     refine rr_level ?_
     rw [← HAT.out]
     exact HR2.out.bind (HR3.out.bind (HR4.out.bind (HR5.out.bind (HR6.out.bind (HRF.out.map (fun its => Pn.lev x3 x5 its at9))))))
    refine bodyPost_ret (results_cell_row rfl _ _ X2 47 #[.string ⟨x3.toArray⟩, .int .i64 (x5 : Nat), .slice o1 (Pn.lev x3 x5 its1 at9).blocks.length k1, .slice o2 (Pn.lev x3 x5 its1 at9).areas.length k2, .slice o3 (Pn.lev x3 x5 its1 at9).aisles.length k3, .slice o4 (Pn.lev x3 x5 its1 at9).pillars.length k4, .slice o5 (Pn.lev x3 x5 its1 at9).doors.length k5, .int .i64 (at9 : Nat)] (0, 0) _ rfl HX2_13.out Tryd.underlying47 rfl (by kernel_rfl)) rfl ⟨Pn.lev x3 x5 its1 at9, .slice o1 (Pn.lev x3 x5 its1 at9).blocks.length k1, .slice o2 (Pn.lev x3 x5 its1 at9).areas.length k2, .slice o3 (Pn.lev x3 x5 its1 at9).aisles.length k3, .slice o4 (Pn.lev x3 x5 its1 at9).pillars.length k4, .slice o5 (Pn.lev x3 x5 its1 at9).doors.length k5, q9z, e9z, a9z, rfl, HRR, (HP9z.out.keep KP_13.out (al2 BX2.out BX3.out)), C13.out, HLF.out⟩
end Go.Proofs.YtocadlcglgpdcaaDoor
