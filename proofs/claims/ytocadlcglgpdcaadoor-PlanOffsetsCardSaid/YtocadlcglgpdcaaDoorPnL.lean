/-
  Plan, layer 11: block. Printed by genpnl06.py.
-/
import Derived.Test.YtocadlcglgpdcaaDoorPnK
namespace Go.Proofs.YtocadlcglgpdcaaDoor
set_option linter.unusedVariables false
set_option linter.unusedSimpArgs false
open Go Go.RowKit Go.Shelf
open Lx (Tk)
theorem info_row : (Tryd.prog.info? 54).map (fun i => (i.zero, i.size, i.bytes)) = some (some (.agg #[.string ⟨#[]⟩, .int .i64 0, .int .i64 0, .int .i64 0, .int .i64 0, .int .i64 0, .slice none 0 0, .int .i64 0]), 8, 88) := by kernel_rfl
theorem mono_rw {B B' : Nat} (h : B ≤ B') : ∀ (a : Pn.Rw) (cs : List Value) (w : World), Crw B' a cs w → Crw B a cs w := fun a cs w ⟨u, h1, h2⟩ => ⟨u, h1, h2.mono h (mono_m h)⟩
/-- The cells of a block. -/
def Cbk (B : Nat) (x : Pn.Bl) (cs : List Value) (w : World) : Prop := ∃ u, cs = [.string ⟨x.name.toArray⟩, u, .int .i64 (x.at_ : Nat)] ∧ ListS B 54 8 (Crw B) x.rows u w
theorem kp_bk (B : Nat) : Kp B [54, 64] (Cbk B) := fun own w w' a cs hc ho ⟨u, h1, h2⟩ => ⟨u, h1, h2.keep (kp_rw B) hc ho⟩
theorem mono_bk {B B' : Nat} (h : B ≤ B') : ∀ (a : Pn.Bl) (cs : List Value) (w : World), Cbk B' a cs w → Cbk B a cs w := fun a cs w ⟨u, h1, h2⟩ => ⟨u, h1, h2.mono h (mono_rw h)⟩
def BlockV (B : Nat) (x : Pn.Bl) (v : Value) (w : World) : Prop := ∃ u, v = .agg #[.string ⟨x.name.toArray⟩, u, .int .i64 (x.at_ : Nat)] ∧ ListS B 54 8 (Crw B) x.rows u w
set_option maxHeartbeats 4000000 in
set_option maxRecDepth 100000 in
theorem block_spec (w : World) (b en : Nat) (l : List Tk) (HP : Hid (Pp w b l en)) (at_ : Nat) : Calls Tryd.prog 48 #[.pointer (some ⟨b, 0, none⟩), .int .i64 (at_ : Nat)] w fun e w' => PRes w b en (BlockV w.heap.size) (Pn.block at_ l) e w' := by
  obtain ⟨ir, hir, rz0, rz1, rz2⟩ := info_parts info_row
  have HBW : Hid (b < w.heap.size) := Lib.hid HP.out.lt
  have HO : Hid (Pn.block at_ l = _) := Lib.hid (Pn.block.eq_1 at_ l)
  go_enter Tryd.func48, Tryd.ntmps48
  go_upto_region 1 with fail
  obtain ⟨W1, hW⟩ : ∃ W, W = (w.alloc (.cells #[.string ⟨#[]⟩, .slice none 0 0, .int .i64 0] 51)) := ⟨_, rfl⟩
  rw [← hW]
  obtain ⟨X4, hX4⟩ : ∃ T, T = w.heap.size := ⟨_, rfl⟩
  try rw [← hX4]
  have OX4 : Hid (w.heap.size ≤ X4) := Lib.hid (by rw [hX4]; exact Nat.le_refl _)
  have HX4_1 : Hid (Blk W1 X4 [.string ⟨#[]⟩, .slice none 0 0, .int .i64 0] 51) := Lib.hid (by
    have h1 := Blk.new w [.string ⟨#[]⟩, .slice none 0 0, .int .i64 0] 51
    have h2 : w.heap.size = X4 := by simp [hX4]
    rw [h2] at h1
    rw [hW]
    exact h1)
  have BX4 : Hid (b < X4) := Lib.hid (by have h1 := HBW.out; have OX4_ := OX4.out; omega)
  have C1 : Hid (Chg [b] w W1) := Lib.hid (by rw [hW]; exact ((Chg.refl [b] w).alloc _))
  have KP_1 : Hid (Chg [] w W1) := Lib.hid (by rw [hW]; exact ((Chg.refl [] w).alloc _))
  have MP_X4 : Hid (w.heap.size ≤ X4) := Lib.hid (by rw [hX4]; have h1 := (Chg.refl [] w).size; omega)
  clear hW hX4
  go_wp2_with fail
  refine take_two (Lib.hid (HP.out.keep KP_1.out (by simp))) 1 (fun t1 r1 w1 HM1 HP1 HC1 => ?_) (fun c r w9 HMb HCb => ?_)
  · skip
    have NX4_b : X4 ≠ b := by have h1 := HBW.out; have OX4_ := OX4.out; omega
    have Nb_X4 : b ≠ X4 := NX4_b.symm
    have HX4_2 : Hid (Blk w1 X4 [.string ⟨#[]⟩, .slice none 0 0, .int .i64 0] 51) := Lib.hid (HC1.out.blk HX4_1.out (by simp [NX4_b]))
    have C2 : Hid (Chg [b] w w1) := Lib.hid (C1.out.trans HC1.out (fun k hk => by simp only [List.mem_cons, List.not_mem_nil, or_false] at hk; have h9 := hk; (rw [h9]; exact .inl (by simp))))
    have HO1 := Lib.hid (good5 HO.out (name_ok HM1.out))
    have hf1 := fun W => field_text (.int .i64 (t1.kind : Nat)) (.string ⟨t1.text.toArray⟩) (.int .i64 (t1.n : Nat)) (.int .i64 (t1.at_ : Nat)) W
    go_upto_region 2 with fail
    clear hf1
    obtain ⟨W3, hW⟩ : ∃ W, W = (w1.alloc (.cells #[.string ⟨t1.text.toArray⟩, .slice none 0 0, .int .i64 (at_ : Nat)] 51)) := ⟨_, rfl⟩
    rw [← hW]
    obtain ⟨X5, hX5⟩ : ∃ T, T = w1.heap.size := ⟨_, rfl⟩
    try rw [← hX5]
    have OX5 : Hid (X4 < X5) := Lib.hid (by rw [hX5]; exact HX4_2.out.lt)
    have HX4_3 : Hid (Blk W3 X4 [.string ⟨#[]⟩, .slice none 0 0, .int .i64 0] 51) := Lib.hid (by rw [hW]; exact (HX4_2.out.alloc _))
    have HX5_3 : Hid (Blk W3 X5 [.string ⟨t1.text.toArray⟩, .slice none 0 0, .int .i64 (at_ : Nat)] 51) := Lib.hid (by
      have h1 := Blk.new w1 [.string ⟨t1.text.toArray⟩, .slice none 0 0, .int .i64 (at_ : Nat)] 51
      have h2 : w1.heap.size = X5 := by simp [hX5]
      rw [h2] at h1
      rw [hW]
      exact h1)
    have BX5 : Hid (b < X5) := Lib.hid (by have h1 := HBW.out; have OX4_ := OX4.out; have OX5_ := OX5.out; omega)
    have C3 : Hid (Chg [b] w W3) := Lib.hid (by rw [hW]; exact (C2.out.alloc _))
    have KP_3 : Hid (Chg [X4] w1 W3) := Lib.hid (by rw [hW]; exact ((Chg.refl [X4] w1).alloc _))
    have MP_X5 : Hid (w1.heap.size ≤ X5) := Lib.hid (by rw [hX5]; have h1 := (Chg.refl [X4] w1).size; omega)
    clear hW hX5
    go_wp2_with fail
    refine must_two (Lib.hid (HP1.out.keep KP_3.out (fun k hk => by simp only [List.mem_cons, List.not_mem_nil, or_false] at hk; rcases hk with rfl; exact BX4.out))) [123] (fun r2 w2 HM2 HP2 HC2 => ?_) (fun c r w9 HMb HCb => ?_)
    · skip
      have NX5_b : X5 ≠ b := by have h1 := HBW.out; have OX4_ := OX4.out; have OX5_ := OX5.out; omega
      have Nb_X5 : b ≠ X5 := NX5_b.symm
      have HX4_4 : Hid (Blk w2 X4 [.string ⟨#[]⟩, .slice none 0 0, .int .i64 0] 51) := Lib.hid (HC2.out.blk HX4_3.out (by simp [NX4_b]))
      have HX5_4 : Hid (Blk w2 X5 [.string ⟨t1.text.toArray⟩, .slice none 0 0, .int .i64 (at_ : Nat)] 51) := Lib.hid (HC2.out.blk HX5_3.out (by simp [NX5_b]))
      have C4 : Hid (Chg [b] w w2) := Lib.hid (C3.out.trans HC2.out (fun k hk => by simp only [List.mem_cons, List.not_mem_nil, or_false] at hk; have h9 := hk; (rw [h9]; exact .inl (by simp))))
      have HO2 := Lib.hid (good5 HO1.out HM2.out)
      obtain ⟨O, hO⟩ : ∃ O, O = Pn.loop (Pn.isw Pn.cClose) Pn.row r2 := ⟨_, rfl⟩
      have HOM : Hid (O = Pn.loop (Pn.isw Pn.cClose) Pn.row r2) := Lib.hid hO
      have HLI0 : Hid (LInv (Pn.isw Pn.cClose) Pn.row O [] r2 (r2.length + 1)) := Lib.hid (by rw [hO]; exact linv_start _ _ _)
      have HOB : Hid (Pn.braced Pn.row r2 = O.bind fun z r => .ok z r.tail) := Lib.hid (by rw [hO]; rfl)
      clear hO
      have HRL := Lib.hid HP2.out.small
      have HXL : Hid (X5 < w2.heap.size) := Lib.hid HX5_4.out.lt
      have HX4L : Hid (X4 < w2.heap.size) := Lib.hid HX4_4.out.lt
      have HWL : Hid (w.heap.size ≤ w2.heap.size) := Lib.hid C4.out.size
      have HbL : Hid (b < w2.heap.size) := Lib.hid (by have h1 := HBW.out; have h2 := HWL.out; omega)
      go_wp2_with fail
      go_loopw [] (fun wr => ∃ (rs : List Pn.Rw) (q : List Tk) (k : Nat) (vo : Option Addr) (vc : Nat), Hid (Blk wr X5 [.string ⟨t1.text.toArray⟩, .slice vo rs.length vc, .int .i64 (at_ : Nat)] 51) ∧ Hid (ListS w2.heap.size 54 8 (Crw w2.heap.size) rs (.slice vo rs.length vc) wr) ∧ Hid (Pp wr b q en) ∧ Hid (LInv (Pn.isw Pn.cClose) Pn.row O rs q k) ∧ Hid (rs.length + q.length ≤ r2.length) ∧ Hid (Chg [b, X5] w2 wr)) (fun wr => leftP b wr)
      case atStart => exact ⟨[], r2, r2.length + 1, none, 0, HX5_4, Lib.hid (ListS.nil _ _ _ _ _), HP2, HLI0, Lib.hid (by simp), Lib.hid (Chg.refl _ _)⟩
      case round =>
        obtain ⟨rs, q, k, vo, vc, HX5, HL, HPq, HLI, HQ, HCL⟩ := hrel
        obtain ⟨wo, hwn⟩ : ∃ x, x = wr := ⟨_, rfl⟩
        subst hwn
        have NX4_X5 : X4 ≠ X5 := by have OX5_ := OX5.out; omega
        have NX5_X4 : X5 ≠ X4 := NX4_X5.symm
        have HX4_5 : Hid (Blk wo X4 [.string ⟨#[]⟩, .slice none 0 0, .int .i64 0] 51) := Lib.hid (HCL.out.blk HX4_4.out (by simp [NX4_b, NX4_X5]))
        have C5 : Hid (Chg [b] w wo) := Lib.hid (C4.out.trans HCL.out (fun k hk => by simp only [List.mem_cons, List.not_mem_nil, or_false] at hk; rcases hk with h9 | h9; (rw [h9]; exact .inl (by simp)); (rw [h9]; exact .inr (by have OX4_ := OX4.out; have OX5_ := OX5.out; show w.heap.size ≤ X5; omega))))
        have KL_5 : Hid (Chg [b, X5] w2 wo) := Lib.hid (by exact ((Chg.refl [b, X5] w2).trans HCL.out (fun k hk => by simp only [List.mem_cons, List.not_mem_nil, or_false] at hk; rcases hk with rfl | rfl; exact .inl (by simp); exact .inl (by simp))))
        have hml : rs.length ≤ 1000000 := by have h1 := HQ.out; have h2 := HRL.out; omega
        go_wp2_with fail
        refine is_r (Lib.hid HPq.out) [125] (fun b3 r3 w3 HM3 HP3 HC3 => ?_)
        have HX4_6 : Hid (Blk w3 X4 [.string ⟨#[]⟩, .slice none 0 0, .int .i64 0] 51) := Lib.hid (HC3.out.blk HX4_5.out (by simp [NX4_b]))
        have HX5_6 : Hid (Blk w3 X5 [.string ⟨t1.text.toArray⟩, .slice vo rs.length vc, .int .i64 (at_ : Nat)] 51) := Lib.hid (HC3.out.blk HX5.out (by simp [NX5_b]))
        have C6 : Hid (Chg [b] w w3) := Lib.hid (C5.out.trans HC3.out (fun k hk => by simp only [List.mem_cons, List.not_mem_nil, or_false] at hk; have h9 := hk; (rw [h9]; exact .inl (by simp))))
        have KL_6 : Hid (Chg [b, X5] w2 w3) := Lib.hid (by exact (KL_5.out.trans HC3.out (fun k hk => by simp only [List.mem_cons, List.not_mem_nil, or_false] at hk; rcases hk with rfl; exact .inl (by simp))))
        have Kh_6 : Hid (Chg [b] wo w3) := Lib.hid (by exact ((Chg.refl [b] wo).trans HC3.out (fun k hk => by simp only [List.mem_cons, List.not_mem_nil, or_false] at hk; rcases hk with rfl; exact .inl (by simp))))
        cases b3 with
        | true =>
          have HOK : Hid (O = .ok rs q) := Lib.hid (linv_stop HLI.out HM3.out.1)
          have HRT : Hid (q.tail = r3) := Lib.hid HM3.out.2
          have HO3 : Hid (Pn.block at_ l = .ok ⟨t1.text, rs, at_⟩ r3) := Lib.hid (by rw [HO2.out, HOB.out, HOK.out, ← HRT.out]; rfl)
          have cX5_0 := HX5_6.out.cell (i := 0) rfl
          have cX5_1 := HX5_6.out.cell (i := 1) rfl
          have cX5_2 := HX5_6.out.cell (i := 2) rfl
          have cX4_0 := HX4_6.out.cell (i := 0) rfl
          have cX4_1 := HX4_6.out.cell (i := 1) rfl
          have cX4_2 := HX4_6.out.cell (i := 2) rfl
          have cX4_f0 := HX4_6.out.free 0
          have cX4_f1 := HX4_6.out.free 1
          have cX4_f2 := HX4_6.out.free 2
          go_wp2_with fail
          clear cX5_0 cX5_1 cX5_2 cX4_0 cX4_1 cX4_2 cX4_f0 cX4_f1 cX4_f2
          obtain ⟨W7, hW⟩ : ∃ W, W = (((w3.setCell ⟨X4, 0, none⟩ (.string ⟨t1.text.toArray⟩)).setCell ⟨X4, 1, none⟩ (.slice vo rs.length vc)).setCell ⟨X4, 2, none⟩ (.int .i64 (at_ : Nat))) := ⟨_, rfl⟩
          rw [← hW]
          have HX4_7 : Hid (Blk W7 X4 [.string ⟨t1.text.toArray⟩, .slice vo rs.length vc, .int .i64 (at_ : Nat)] 51) := Lib.hid (by rw [hW]; exact (((HX4_6.out.set 0 (.string ⟨t1.text.toArray⟩)).set 1 (.slice vo rs.length vc)).set 2 (.int .i64 (at_ : Nat))))
          have HX5_7 : Hid (Blk W7 X5 [.string ⟨t1.text.toArray⟩, .slice vo rs.length vc, .int .i64 (at_ : Nat)] 51) := Lib.hid (by rw [hW]; exact (((HX5_6.out.other _ _ NX5_X4).other _ _ NX5_X4).other _ _ NX5_X4))
          have C7 : Hid (Chg [b] w W7) := Lib.hid (by rw [hW]; exact (((C6.out.setCell _ _ (.inr (by have OX4_ := OX4.out; show w.heap.size ≤ X4; omega))).setCell _ _ (.inr (by have OX4_ := OX4.out; show w.heap.size ≤ X4; omega))).setCell _ _ (.inr (by have OX4_ := OX4.out; show w.heap.size ≤ X4; omega))))
          have Ko2_7 : Hid (Chg [X4] w3 W7) := Lib.hid (by rw [hW]; exact ((((Chg.refl [X4] w3).setCell _ _ (.inl (by simp))).setCell _ _ (.inl (by simp))).setCell _ _ (.inl (by simp))))
          have KP_7 : Hid (Chg [X4, X5] w3 W7) := Lib.hid (by rw [hW]; exact ((((Chg.refl [X4, X5] w3).setCell _ _ (.inl (by simp))).setCell _ _ (.inl (by simp))).setCell _ _ (.inl (by simp))))
          clear hW
          (try simp only [Exit.inBlock, Exit.then])
          have HLF : Hid (ListS w.heap.size 54 8 (Crw w.heap.size) rs (.slice vo rs.length vc) W7) := Lib.hid (((HL.out.keep (kp_rw _) HC3.out (TyB.lower (by intro z hz; simp only [List.mem_cons, List.not_mem_nil, or_false] at hz; rw [hz]; exact HbL.out) _)).keep (kp_rw _) Ko2_7.out (TyB.lower (by intro z hz; simp only [List.mem_cons, List.not_mem_nil, or_false] at hz; rw [hz]; exact HX4L.out) _)).mono HWL.out (mono_rw HWL.out))
          refine bodyPost_ret (results_cell_row rfl _ _ X4 51 #[.string ⟨t1.text.toArray⟩, .slice vo rs.length vc, .int .i64 (at_ : Nat)] (0, 0) _ rfl HX4_7.out Tryd.underlying51 rfl (by kernel_rfl)) rfl (pgood C7.out HO3.out ⟨.slice vo rs.length vc, rfl, HLF.out⟩ (HP3.out.keep KP_7.out (fun k hk => by simp only [List.mem_cons, List.not_mem_nil, or_false] at hk; rcases hk with rfl | rfl; exact BX4.out; exact BX5.out)))
        | false =>
          have HRQ : Hid (r3 = q) := Lib.hid HM3.out.2.symm
          have HP3q : Hid (Pp w3 b q en) := Lib.hid (by rw [← HRQ.out]; exact HP3.out)
          have HSF : Hid (Pn.isw Pn.cClose q = false) := Lib.hid HM3.out.1
          have HL3 : Hid (ListS w2.heap.size 54 8 (Crw w2.heap.size) rs (.slice vo rs.length vc) w3) := Lib.hid (HL.out.keep (kp_rw _) HC3.out (TyB.lower (by intro z hz; simp only [List.mem_cons, List.not_mem_nil, or_false] at hz; rw [hz]; exact HbL.out) _))
          go_upto_region 4 with fail
          refine wp_region_held_drew (S := fun W' => True) (by kernel_rfl) trivial (fun hHeld => ?_)
          refine wpAnyH_take (i := 0) (v := ?vr0) rfl (by kernel_rfl) (by kernel_rfl) (by kernel_rfl) (fun _ _ _ h => h) (Or.inl ⟨by kernel_rfl, ?hyr0⟩) (by assumption) ?rsr0
          case hyr0 => (intro w9 hSw; skip; go_simp; try with_reducible rfl)
          try simp only [Act.put, List.setIfInBounds_toArray, List.set_cons_zero, List.set_cons_succ, List.getElem_toArray, List.getElem_cons_succ, List.getElem_cons_zero]
          refine wpAnyH_take (i := 2) (v := ?vr2) rfl (by kernel_rfl) (by kernel_rfl) (by kernel_rfl) (fun _ _ _ h => h) (Or.inl ⟨by kernel_rfl, ?hyr2⟩) (by assumption) ?rsr2
          case hyr2 => (intro w9 hSw; skip; go_simp; try with_reducible rfl)
          try simp only [Act.put, List.setIfInBounds_toArray, List.set_cons_zero, List.set_cons_succ, List.getElem_toArray, List.getElem_cons_succ, List.getElem_cons_zero]
          refine wpAnyH_ready (rs := [1, 3]) (by kernel_rfl) (by simp) (AllReadyH.cons rfl (fun K hK => ?_) (AllReadyH.cons rfl (fun K hK => ?_) AllReadyH.nil))
          · have x0 := (HX5_6.out.drew).cell (i := 1) rfl
            go_simp
            refine hK.out _ _ trivial (fun _ => ?_)
            clear hK K
            try simp only [Act.put, List.setIfInBounds_toArray, List.set_cons_zero, List.set_cons_succ, List.getElem_toArray, List.getElem_cons_succ, List.getElem_cons_zero]
            clear x0
            refine wpAnyH_ready (rs := [3]) (by kernel_rfl) (by simp) (AllReadyH.cons rfl (fun K hK => ?_) AllReadyH.nil)
            go_simp
            refine row_two (Lib.hid (Pp.quiet HP3q.out (Chg.refl _ _).drew)) w2.heap.size (Nat.le_trans KL_6.out.size (Nat.le_refl _)) (fun x uo uc r5 wx HMx HPx HCd HUx => ?_) (fun c r w9 HMb HCd => ?_)
            · have HCx : Hid (Chg [b] w3 wx) := Lib.hid (Chg.ofDrew HCd.out)
              have HX4_7 : Hid (Blk wx X4 [.string ⟨#[]⟩, .slice none 0 0, .int .i64 0] 51) := Lib.hid (HCx.out.blk HX4_6.out (by simp [NX4_b]))
              have HX5_7 : Hid (Blk wx X5 [.string ⟨t1.text.toArray⟩, .slice vo rs.length vc, .int .i64 (at_ : Nat)] 51) := Lib.hid (HCx.out.blk HX5_6.out (by simp [NX5_b]))
              have C7 : Hid (Chg [b] w wx) := Lib.hid (C6.out.trans HCx.out (fun k hk => by simp only [List.mem_cons, List.not_mem_nil, or_false] at hk; have h9 := hk; (rw [h9]; exact .inl (by simp))))
              have KL_7 : Hid (Chg [b, X5] w2 wx) := Lib.hid (by exact (KL_6.out.trans HCx.out (fun k hk => by simp only [List.mem_cons, List.not_mem_nil, or_false] at hk; rcases hk with rfl; exact .inl (by simp))))
              have Kh_7 : Hid (Chg [b] wo wx) := Lib.hid (by exact (Kh_6.out.trans HCx.out (fun k hk => by simp only [List.mem_cons, List.not_mem_nil, or_false] at hk; rcases hk with rfl; exact .inl (by simp))))
              refine hK.out _ _ trivial (fun _ => ?_)
              clear hK K
              try simp only [Act.put, List.setIfInBounds_toArray, List.set_cons_zero, List.set_cons_succ, List.getElem_toArray, List.getElem_cons_succ, List.getElem_cons_zero]
              refine wpAnyH_ready (rs := [4]) (by kernel_rfl) (by simp) (AllReadyH.cons rfl (fun K hK => ?_) AllReadyH.nil)
              go_simp
              refine hK.out _ _ trivial (fun _ => ?_)
              clear hK K
              try simp only [Act.put, List.setIfInBounds_toArray, List.set_cons_zero, List.set_cons_succ, List.getElem_toArray, List.getElem_cons_succ, List.getElem_cons_zero]
              refine wpAnyH_ready (rs := [5]) (by kernel_rfl) (by simp) (AllReadyH.cons rfl (fun K hK => ?_) AllReadyH.nil)
              have HLk : Hid (ListS w2.heap.size 54 8 (Crw w2.heap.size) rs (.slice vo rs.length vc) (wx.alloc (.cells #[.string ⟨x.name.toArray⟩, .int .i64 (x.x : Nat), .int .i64 (x.y : Nat), .int .i64 (x.f : Nat), .int .i64 (x.t : Nat), .int .i64 (x.step : Nat), .slice uo x.marks.length uc, .int .i64 (x.at_ : Nat)] 54))) := Lib.hid ((HL3.out.keep (kp_rw _) HCx.out (TyB.lower (by intro z hz; simp only [List.mem_cons, List.not_mem_nil, or_false] at hz; rw [hz]; exact HbL.out) _)).keep (kp_rw _) ((Chg.refl [] _).alloc _) (TyB.nil _ _ _))
              have hcb : Hid (Chg [b, X5] w2 (wx.alloc (.cells #[.string ⟨x.name.toArray⟩, .int .i64 (x.x : Nat), .int .i64 (x.y : Nat), .int .i64 (x.f : Nat), .int .i64 (x.t : Nat), .int .i64 (x.step : Nat), .slice uo x.marks.length uc, .int .i64 (x.at_ : Nat)] 54))) := Lib.hid ((KL_6.out.trans HCx.out (fun k hk => .inl (by simp at hk; simp [hk]))).alloc _)
              refine step_snoc rfl (.tmp 17) (.tmp 20) 49 rfl 54 ir (.agg #[.string ⟨#[]⟩, .int .i64 0, .int .i64 0, .int .i64 0, .int .i64 0, .int .i64 0, .slice none 0 0, .int .i64 0]) 8 88 Tryd.underlying49 hir rz0 rz1 rz2 rfl (by decide) (C := Crw w2.heap.size) (Es := [64]) (.slice vo rs.length vc) rs.length rfl HLk.out rfl (kp_rw _) (by decide) x [.string ⟨x.name.toArray⟩, .int .i64 (x.x : Nat), .int .i64 (x.y : Nat), .int .i64 (x.f : Nat), .int .i64 (x.t : Nat), .int .i64 (x.step : Nat), .slice uo x.marks.length uc, .int .i64 (x.at_ : Nat)] ⟨_, rfl, HUx.out.keep (kp_m _) ((Chg.refl [] _).alloc _) (TyB.nil _ _ _)⟩ rfl (by intro u hu; simp at hu; rcases hu with rfl | rfl | rfl | rfl | rfl | rfl | rfl | rfl <;> rfl) wx.heap.size rfl (Blk.new wx [.string ⟨x.name.toArray⟩, .int .i64 (x.x : Nat), .int .i64 (x.y : Nat), .int .i64 (x.f : Nat), .int .i64 (x.t : Nat), .int .i64 (x.step : Nat), .slice uo x.marks.length uc, .int .i64 (x.at_ : Nat)] 54) (by unfold maxLen; omega) (by omega) hcb.out.size ?kk
              case kk =>
                intro lo8 lc8 v8 hl8 hc8 hb8
                have HL8 := Lib.hid hl8
                have HC8 := Lib.hid hc8
                have HB8 := Lib.hid hb8
                have HCv : Hid (Chg [b, X5] w2 v8) := Lib.hid (hc8 _ _ hcb.out (Nat.le_refl _))
                have HP8 : Hid (Pp v8 b r5 en) := Lib.hid (HPx.out.via (W := w2) (own := [b, X5]) (KL_6.out.trans HCx.out (fun k hk => .inl (by simp at hk; simp [hk]))) HCv.out (fun ds S h => hb8 _ _ _ (h.alloc _) (.inl HbL.out)) (fun z hz => by simp only [List.mem_cons, List.not_mem_nil, or_false] at hz; rcases hz with h9 | h9; (rw [h9]; exact Nat.le_refl _); (rw [h9]; exact Nat.le_of_lt BX5.out)) HbL.out)
                clear hl8 hc8 hb8
                have HX4_8 : Hid (Blk v8 X4 [.string ⟨#[]⟩, .slice none 0 0, .int .i64 0] 51) := Lib.hid (HB8.out _ _ _ (HX4_7.out.alloc _) (.inr (.inl (by decide))))
                have HX5_8 : Hid (Blk v8 X5 [.string ⟨t1.text.toArray⟩, .slice vo rs.length vc, .int .i64 (at_ : Nat)] 51) := Lib.hid (HB8.out _ _ _ (HX5_7.out.alloc _) (.inr (.inl (by decide))))
                have C8 : Hid (Chg [b] w v8) := Lib.hid (C4.out.trans HCv.out (fun k hk => by simp only [List.mem_cons, List.not_mem_nil, or_false] at hk; rcases hk with h9 | h9; (rw [h9]; exact .inl (by simp)); (rw [h9]; exact .inr (by have OX4_ := OX4.out; have OX5_ := OX5.out; show w.heap.size ≤ X5; omega))))
                refine hK.out _ _ trivial (fun _ => ?_)
                clear hK K
                try simp only [Act.put, List.setIfInBounds_toArray, List.set_cons_zero, List.set_cons_succ, List.getElem_toArray, List.getElem_cons_succ, List.getElem_cons_zero]
                refine wpAnyH_take (i := 6) (v := ?vwa6) rfl (by kernel_rfl) (by kernel_rfl) (by kernel_rfl) (fun _ _ _ h => h) (Or.inl ⟨by kernel_rfl, ?hywa6⟩) (by assumption) ?rswa6
                case hywa6 => (intro w9 hSw; skip; go_simp; try with_reducible rfl)
                try simp only [Act.put, List.setIfInBounds_toArray, List.set_cons_zero, List.set_cons_succ, List.getElem_toArray, List.getElem_cons_succ, List.getElem_cons_zero]
                refine wpAnyH_ready (rs := [7]) (by kernel_rfl) (by simp) (AllReadyH.cons rfl (fun K hK => ?_) AllReadyH.nil)
                have cX5_0 := HX5_8.out.cell (i := 0) rfl
                have cX5_1 := HX5_8.out.cell (i := 1) rfl
                have cX5_2 := HX5_8.out.cell (i := 2) rfl
                have cX5_f0 := HX5_8.out.free 0
                have cX5_f1 := HX5_8.out.free 1
                have cX5_f2 := HX5_8.out.free 2
                go_simp
                refine hK.out _ _ trivial (fun _ => ?_)
                clear hK K
                try simp only [Act.put, List.setIfInBounds_toArray, List.set_cons_zero, List.set_cons_succ, List.getElem_toArray, List.getElem_cons_succ, List.getElem_cons_zero]
                clear cX5_0 cX5_1 cX5_2 cX5_f0 cX5_f1 cX5_f2
                obtain ⟨W9, hW⟩ : ∃ W, W = (v8.setCell ⟨X5, 1, none⟩ (.slice lo8 (rs.length + 1) lc8)) := ⟨_, rfl⟩
                rw [← hW]
                have HX4_9 : Hid (Blk W9 X4 [.string ⟨#[]⟩, .slice none 0 0, .int .i64 0] 51) := Lib.hid (by rw [hW]; exact (HX4_8.out.other _ _ NX4_X5))
                have HX5_9 : Hid (Blk W9 X5 [.string ⟨t1.text.toArray⟩, .slice lo8 (rs.length + 1) lc8, .int .i64 (at_ : Nat)] 51) := Lib.hid (by rw [hW]; exact (HX5_8.out.set 1 (.slice lo8 (rs.length + 1) lc8)))
                have C9 : Hid (Chg [b] w W9) := Lib.hid (by rw [hW]; exact (C8.out.setCell _ _ (.inr (by have OX4_ := OX4.out; have OX5_ := OX5.out; show w.heap.size ≤ X5; omega))))
                have KL_9 : Hid (Chg [b, X5] w2 W9) := Lib.hid (by rw [hW]; exact (HCv.out.setCell _ _ (.inl (by simp))))
                have KP_9 : Hid (Chg [X4, X5] v8 W9) := Lib.hid (by rw [hW]; exact ((Chg.refl [X4, X5] v8).setCell _ _ (.inl (by simp))))
                have Kv_9 : Hid (Chg [b, X5] v8 W9) := Lib.hid (by rw [hW]; exact ((Chg.refl [b, X5] v8).setCell _ _ (.inl (by simp))))
                clear hW
                refine wpAnyH_done (by kernel_rfl) ?_ _
                try simp only [Act.put, List.setIfInBounds_toArray, List.set_cons_zero, List.set_cons_succ, List.getElem_toArray, List.getElem_cons_succ, List.getElem_cons_zero]
                have HPz : Hid (Pp W9 b r5 en) := Lib.hid (HP8.out.keep KP_9.out (fun k hk => by simp only [List.mem_cons, List.not_mem_nil, or_false] at hk; rcases hk with rfl | rfl; exact BX4.out; exact BX5.out))
                have HLz := Kv_9
                have HL9 : Hid (ListS w2.heap.size 54 8 (Crw w2.heap.size) (rs ++ [x]) (.slice lo8 (rs ++ [x]).length lc8) W9) := Lib.hid (by rw [List.length_append]; exact HL8.out.keep (kp_rw _) HLz.out (TyB.lower (by intro z hz; simp only [List.mem_cons, List.not_mem_nil, or_false] at hz; rcases hz with h9 | h9; (rw [h9]; exact HbL.out); (rw [h9]; exact HXL.out)) _))
                have HX9 : Hid (Blk W9 X5 [.string ⟨t1.text.toArray⟩, .slice lo8 (rs ++ [x]).length lc8, .int .i64 (at_ : Nat)] 51) := Lib.hid (by rw [List.length_append]; exact HX5_9.out)
                have hel := Pn.eat_row _ _ _ HMx.out
                have HMU : Hid (leftP b W9 < leftP b wo) := Lib.hid (by rw [left_pp HPz.out, left_pp HPq.out]; omega)
                have HQ9 : Hid ((rs ++ [x]).length + r5.length ≤ r2.length) := Lib.hid (by have h2 := HQ.out; simp only [List.length_append, List.length_singleton]; omega)
                clear hel
                go_wp2_with fail
                refine ⟨?_, HMU.out⟩
                first | exact ⟨rs ++ [x], r5, k - 1, lo8, lc8, HX9, HL9, HPz, Lib.hid (linv_step HLI.out HSF.out Pn.eat_row HMx.out), HQ9, KL_9⟩ | ((repeat apply Exists.intro); exact ⟨⟨rs ++ [x], r5, k - 1, lo8, lc8, HX9, HL9, HPz, Lib.hid (linv_step HLI.out HSF.out Pn.eat_row HMx.out), HQ9, KL_9⟩, rfl⟩)
            · have HCb : Hid (Chg [b] w3 w9) := Lib.hid (Chg.ofDrew HCd.out)
              exact ⟨rfl, (pbad (C6.out.trans HCb.out (fun k hk => by simp only [List.mem_cons, List.not_mem_nil, or_false] at hk; have h9 := hk; (rw [h9]; exact .inl (by simp)))) (bad5 HO2.out (by rw [HOB.out, linv_bad HLI.out HSF.out HMb.out]; rfl)))⟩
          · skip
            go_simp
            refine row_two (Lib.hid (Pp.quiet HP3q.out (Chg.refl _ _).drew)) w2.heap.size (Nat.le_trans KL_6.out.size (Nat.le_refl _)) (fun x uo uc r5 wx HMx HPx HCd HUx => ?_) (fun c r w9 HMb HCd => ?_)
            · have HCx : Hid (Chg [b] w3 wx) := Lib.hid (Chg.ofDrew HCd.out)
              have HX4_7 : Hid (Blk wx X4 [.string ⟨#[]⟩, .slice none 0 0, .int .i64 0] 51) := Lib.hid (HCx.out.blk HX4_6.out (by simp [NX4_b]))
              have HX5_7 : Hid (Blk wx X5 [.string ⟨t1.text.toArray⟩, .slice vo rs.length vc, .int .i64 (at_ : Nat)] 51) := Lib.hid (HCx.out.blk HX5_6.out (by simp [NX5_b]))
              have C7 : Hid (Chg [b] w wx) := Lib.hid (C6.out.trans HCx.out (fun k hk => by simp only [List.mem_cons, List.not_mem_nil, or_false] at hk; have h9 := hk; (rw [h9]; exact .inl (by simp))))
              have KL_7 : Hid (Chg [b, X5] w2 wx) := Lib.hid (by exact (KL_6.out.trans HCx.out (fun k hk => by simp only [List.mem_cons, List.not_mem_nil, or_false] at hk; rcases hk with rfl; exact .inl (by simp))))
              have Kh_7 : Hid (Chg [b] wo wx) := Lib.hid (by exact (Kh_6.out.trans HCx.out (fun k hk => by simp only [List.mem_cons, List.not_mem_nil, or_false] at hk; rcases hk with rfl; exact .inl (by simp))))
              refine hK.out _ _ trivial (fun _ => ?_)
              clear hK K
              try simp only [Act.put, List.setIfInBounds_toArray, List.set_cons_zero, List.set_cons_succ, List.getElem_toArray, List.getElem_cons_succ, List.getElem_cons_zero]
              refine wpAnyH_ready (rs := [1, 4]) (by kernel_rfl) (by simp) (AllReadyH.cons rfl (fun K hK => ?_) (AllReadyH.cons rfl (fun K hK => ?_) AllReadyH.nil))
              · have x0 := HX5_7.out.cell (i := 1) rfl
                go_simp
                refine hK.out _ _ trivial (fun _ => ?_)
                clear hK K
                try simp only [Act.put, List.setIfInBounds_toArray, List.set_cons_zero, List.set_cons_succ, List.getElem_toArray, List.getElem_cons_succ, List.getElem_cons_zero]
                clear x0
                refine wpAnyH_ready (rs := [4]) (by kernel_rfl) (by simp) (AllReadyH.cons rfl (fun K hK => ?_) AllReadyH.nil)
                go_simp
                refine hK.out _ _ trivial (fun _ => ?_)
                clear hK K
                try simp only [Act.put, List.setIfInBounds_toArray, List.set_cons_zero, List.set_cons_succ, List.getElem_toArray, List.getElem_cons_succ, List.getElem_cons_zero]
                refine wpAnyH_ready (rs := [5]) (by kernel_rfl) (by simp) (AllReadyH.cons rfl (fun K hK => ?_) AllReadyH.nil)
                have HLk : Hid (ListS w2.heap.size 54 8 (Crw w2.heap.size) rs (.slice vo rs.length vc) (wx.alloc (.cells #[.string ⟨x.name.toArray⟩, .int .i64 (x.x : Nat), .int .i64 (x.y : Nat), .int .i64 (x.f : Nat), .int .i64 (x.t : Nat), .int .i64 (x.step : Nat), .slice uo x.marks.length uc, .int .i64 (x.at_ : Nat)] 54))) := Lib.hid ((HL3.out.keep (kp_rw _) HCx.out (TyB.lower (by intro z hz; simp only [List.mem_cons, List.not_mem_nil, or_false] at hz; rw [hz]; exact HbL.out) _)).keep (kp_rw _) ((Chg.refl [] _).alloc _) (TyB.nil _ _ _))
                have hcb : Hid (Chg [b, X5] w2 (wx.alloc (.cells #[.string ⟨x.name.toArray⟩, .int .i64 (x.x : Nat), .int .i64 (x.y : Nat), .int .i64 (x.f : Nat), .int .i64 (x.t : Nat), .int .i64 (x.step : Nat), .slice uo x.marks.length uc, .int .i64 (x.at_ : Nat)] 54))) := Lib.hid ((KL_6.out.trans HCx.out (fun k hk => .inl (by simp at hk; simp [hk]))).alloc _)
                refine step_snoc rfl (.tmp 17) (.tmp 20) 49 rfl 54 ir (.agg #[.string ⟨#[]⟩, .int .i64 0, .int .i64 0, .int .i64 0, .int .i64 0, .int .i64 0, .slice none 0 0, .int .i64 0]) 8 88 Tryd.underlying49 hir rz0 rz1 rz2 rfl (by decide) (C := Crw w2.heap.size) (Es := [64]) (.slice vo rs.length vc) rs.length rfl HLk.out rfl (kp_rw _) (by decide) x [.string ⟨x.name.toArray⟩, .int .i64 (x.x : Nat), .int .i64 (x.y : Nat), .int .i64 (x.f : Nat), .int .i64 (x.t : Nat), .int .i64 (x.step : Nat), .slice uo x.marks.length uc, .int .i64 (x.at_ : Nat)] ⟨_, rfl, HUx.out.keep (kp_m _) ((Chg.refl [] _).alloc _) (TyB.nil _ _ _)⟩ rfl (by intro u hu; simp at hu; rcases hu with rfl | rfl | rfl | rfl | rfl | rfl | rfl | rfl <;> rfl) wx.heap.size rfl (Blk.new wx [.string ⟨x.name.toArray⟩, .int .i64 (x.x : Nat), .int .i64 (x.y : Nat), .int .i64 (x.f : Nat), .int .i64 (x.t : Nat), .int .i64 (x.step : Nat), .slice uo x.marks.length uc, .int .i64 (x.at_ : Nat)] 54) (by unfold maxLen; omega) (by omega) hcb.out.size ?kk
                case kk =>
                  intro lo8 lc8 v8 hl8 hc8 hb8
                  have HL8 := Lib.hid hl8
                  have HC8 := Lib.hid hc8
                  have HB8 := Lib.hid hb8
                  have HCv : Hid (Chg [b, X5] w2 v8) := Lib.hid (hc8 _ _ hcb.out (Nat.le_refl _))
                  have HP8 : Hid (Pp v8 b r5 en) := Lib.hid (HPx.out.via (W := w2) (own := [b, X5]) (KL_6.out.trans HCx.out (fun k hk => .inl (by simp at hk; simp [hk]))) HCv.out (fun ds S h => hb8 _ _ _ (h.alloc _) (.inl HbL.out)) (fun z hz => by simp only [List.mem_cons, List.not_mem_nil, or_false] at hz; rcases hz with h9 | h9; (rw [h9]; exact Nat.le_refl _); (rw [h9]; exact Nat.le_of_lt BX5.out)) HbL.out)
                  clear hl8 hc8 hb8
                  have HX4_8 : Hid (Blk v8 X4 [.string ⟨#[]⟩, .slice none 0 0, .int .i64 0] 51) := Lib.hid (HB8.out _ _ _ (HX4_7.out.alloc _) (.inr (.inl (by decide))))
                  have HX5_8 : Hid (Blk v8 X5 [.string ⟨t1.text.toArray⟩, .slice vo rs.length vc, .int .i64 (at_ : Nat)] 51) := Lib.hid (HB8.out _ _ _ (HX5_7.out.alloc _) (.inr (.inl (by decide))))
                  have C8 : Hid (Chg [b] w v8) := Lib.hid (C4.out.trans HCv.out (fun k hk => by simp only [List.mem_cons, List.not_mem_nil, or_false] at hk; rcases hk with h9 | h9; (rw [h9]; exact .inl (by simp)); (rw [h9]; exact .inr (by have OX4_ := OX4.out; have OX5_ := OX5.out; show w.heap.size ≤ X5; omega))))
                  refine hK.out _ _ trivial (fun _ => ?_)
                  clear hK K
                  try simp only [Act.put, List.setIfInBounds_toArray, List.set_cons_zero, List.set_cons_succ, List.getElem_toArray, List.getElem_cons_succ, List.getElem_cons_zero]
                  refine wpAnyH_take (i := 6) (v := ?vwb6) rfl (by kernel_rfl) (by kernel_rfl) (by kernel_rfl) (fun _ _ _ h => h) (Or.inl ⟨by kernel_rfl, ?hywb6⟩) (by assumption) ?rswb6
                  case hywb6 => (intro w9 hSw; skip; go_simp; try with_reducible rfl)
                  try simp only [Act.put, List.setIfInBounds_toArray, List.set_cons_zero, List.set_cons_succ, List.getElem_toArray, List.getElem_cons_succ, List.getElem_cons_zero]
                  refine wpAnyH_ready (rs := [7]) (by kernel_rfl) (by simp) (AllReadyH.cons rfl (fun K hK => ?_) AllReadyH.nil)
                  have cX5_0 := HX5_8.out.cell (i := 0) rfl
                  have cX5_1 := HX5_8.out.cell (i := 1) rfl
                  have cX5_2 := HX5_8.out.cell (i := 2) rfl
                  have cX5_f0 := HX5_8.out.free 0
                  have cX5_f1 := HX5_8.out.free 1
                  have cX5_f2 := HX5_8.out.free 2
                  go_simp
                  refine hK.out _ _ trivial (fun _ => ?_)
                  clear hK K
                  try simp only [Act.put, List.setIfInBounds_toArray, List.set_cons_zero, List.set_cons_succ, List.getElem_toArray, List.getElem_cons_succ, List.getElem_cons_zero]
                  clear cX5_0 cX5_1 cX5_2 cX5_f0 cX5_f1 cX5_f2
                  obtain ⟨W9, hW⟩ : ∃ W, W = (v8.setCell ⟨X5, 1, none⟩ (.slice lo8 (rs.length + 1) lc8)) := ⟨_, rfl⟩
                  rw [← hW]
                  have HX4_9 : Hid (Blk W9 X4 [.string ⟨#[]⟩, .slice none 0 0, .int .i64 0] 51) := Lib.hid (by rw [hW]; exact (HX4_8.out.other _ _ NX4_X5))
                  have HX5_9 : Hid (Blk W9 X5 [.string ⟨t1.text.toArray⟩, .slice lo8 (rs.length + 1) lc8, .int .i64 (at_ : Nat)] 51) := Lib.hid (by rw [hW]; exact (HX5_8.out.set 1 (.slice lo8 (rs.length + 1) lc8)))
                  have C9 : Hid (Chg [b] w W9) := Lib.hid (by rw [hW]; exact (C8.out.setCell _ _ (.inr (by have OX4_ := OX4.out; have OX5_ := OX5.out; show w.heap.size ≤ X5; omega))))
                  have KL_9 : Hid (Chg [b, X5] w2 W9) := Lib.hid (by rw [hW]; exact (HCv.out.setCell _ _ (.inl (by simp))))
                  have KP_9 : Hid (Chg [X4, X5] v8 W9) := Lib.hid (by rw [hW]; exact ((Chg.refl [X4, X5] v8).setCell _ _ (.inl (by simp))))
                  have Kv_9 : Hid (Chg [b, X5] v8 W9) := Lib.hid (by rw [hW]; exact ((Chg.refl [b, X5] v8).setCell _ _ (.inl (by simp))))
                  clear hW
                  refine wpAnyH_done (by kernel_rfl) ?_ _
                  try simp only [Act.put, List.setIfInBounds_toArray, List.set_cons_zero, List.set_cons_succ, List.getElem_toArray, List.getElem_cons_succ, List.getElem_cons_zero]
                  have HPz : Hid (Pp W9 b r5 en) := Lib.hid (HP8.out.keep KP_9.out (fun k hk => by simp only [List.mem_cons, List.not_mem_nil, or_false] at hk; rcases hk with rfl | rfl; exact BX4.out; exact BX5.out))
                  have HLz := Kv_9
                  have HL9 : Hid (ListS w2.heap.size 54 8 (Crw w2.heap.size) (rs ++ [x]) (.slice lo8 (rs ++ [x]).length lc8) W9) := Lib.hid (by rw [List.length_append]; exact HL8.out.keep (kp_rw _) HLz.out (TyB.lower (by intro z hz; simp only [List.mem_cons, List.not_mem_nil, or_false] at hz; rcases hz with h9 | h9; (rw [h9]; exact HbL.out); (rw [h9]; exact HXL.out)) _))
                  have HX9 : Hid (Blk W9 X5 [.string ⟨t1.text.toArray⟩, .slice lo8 (rs ++ [x]).length lc8, .int .i64 (at_ : Nat)] 51) := Lib.hid (by rw [List.length_append]; exact HX5_9.out)
                  have hel := Pn.eat_row _ _ _ HMx.out
                  have HMU : Hid (leftP b W9 < leftP b wo) := Lib.hid (by rw [left_pp HPz.out, left_pp HPq.out]; omega)
                  have HQ9 : Hid ((rs ++ [x]).length + r5.length ≤ r2.length) := Lib.hid (by have h2 := HQ.out; simp only [List.length_append, List.length_singleton]; omega)
                  clear hel
                  go_wp2_with fail
                  refine ⟨?_, HMU.out⟩
                  first | exact ⟨rs ++ [x], r5, k - 1, lo8, lc8, HX9, HL9, HPz, Lib.hid (linv_step HLI.out HSF.out Pn.eat_row HMx.out), HQ9, KL_9⟩ | ((repeat apply Exists.intro); exact ⟨⟨rs ++ [x], r5, k - 1, lo8, lc8, HX9, HL9, HPz, Lib.hid (linv_step HLI.out HSF.out Pn.eat_row HMx.out), HQ9, KL_9⟩, rfl⟩)
              · skip
                go_simp
                refine hK.out _ _ trivial (fun _ => ?_)
                clear hK K
                try simp only [Act.put, List.setIfInBounds_toArray, List.set_cons_zero, List.set_cons_succ, List.getElem_toArray, List.getElem_cons_succ, List.getElem_cons_zero]
                have x0 := (HX5_7.out.alloc (.cells #[.string ⟨x.name.toArray⟩, .int .i64 (x.x : Nat), .int .i64 (x.y : Nat), .int .i64 (x.f : Nat), .int .i64 (x.t : Nat), .int .i64 (x.step : Nat), .slice uo x.marks.length uc, .int .i64 (x.at_ : Nat)] 54)).cell (i := 1) rfl
                refine wpAnyH_ready (rs := [1]) (by kernel_rfl) (by simp) (AllReadyH.cons rfl (fun K hK => ?_) AllReadyH.nil)
                go_simp
                refine hK.out _ _ trivial (fun _ => ?_)
                clear hK K
                try simp only [Act.put, List.setIfInBounds_toArray, List.set_cons_zero, List.set_cons_succ, List.getElem_toArray, List.getElem_cons_succ, List.getElem_cons_zero]
                clear x0
                refine wpAnyH_ready (rs := [5]) (by kernel_rfl) (by simp) (AllReadyH.cons rfl (fun K hK => ?_) AllReadyH.nil)
                have HLk : Hid (ListS w2.heap.size 54 8 (Crw w2.heap.size) rs (.slice vo rs.length vc) (wx.alloc (.cells #[.string ⟨x.name.toArray⟩, .int .i64 (x.x : Nat), .int .i64 (x.y : Nat), .int .i64 (x.f : Nat), .int .i64 (x.t : Nat), .int .i64 (x.step : Nat), .slice uo x.marks.length uc, .int .i64 (x.at_ : Nat)] 54))) := Lib.hid ((HL3.out.keep (kp_rw _) HCx.out (TyB.lower (by intro z hz; simp only [List.mem_cons, List.not_mem_nil, or_false] at hz; rw [hz]; exact HbL.out) _)).keep (kp_rw _) ((Chg.refl [] _).alloc _) (TyB.nil _ _ _))
                have hcb : Hid (Chg [b, X5] w2 (wx.alloc (.cells #[.string ⟨x.name.toArray⟩, .int .i64 (x.x : Nat), .int .i64 (x.y : Nat), .int .i64 (x.f : Nat), .int .i64 (x.t : Nat), .int .i64 (x.step : Nat), .slice uo x.marks.length uc, .int .i64 (x.at_ : Nat)] 54))) := Lib.hid ((KL_6.out.trans HCx.out (fun k hk => .inl (by simp at hk; simp [hk]))).alloc _)
                refine step_snoc rfl (.tmp 17) (.tmp 20) 49 rfl 54 ir (.agg #[.string ⟨#[]⟩, .int .i64 0, .int .i64 0, .int .i64 0, .int .i64 0, .int .i64 0, .slice none 0 0, .int .i64 0]) 8 88 Tryd.underlying49 hir rz0 rz1 rz2 rfl (by decide) (C := Crw w2.heap.size) (Es := [64]) (.slice vo rs.length vc) rs.length rfl HLk.out rfl (kp_rw _) (by decide) x [.string ⟨x.name.toArray⟩, .int .i64 (x.x : Nat), .int .i64 (x.y : Nat), .int .i64 (x.f : Nat), .int .i64 (x.t : Nat), .int .i64 (x.step : Nat), .slice uo x.marks.length uc, .int .i64 (x.at_ : Nat)] ⟨_, rfl, HUx.out.keep (kp_m _) ((Chg.refl [] _).alloc _) (TyB.nil _ _ _)⟩ rfl (by intro u hu; simp at hu; rcases hu with rfl | rfl | rfl | rfl | rfl | rfl | rfl | rfl <;> rfl) wx.heap.size rfl (Blk.new wx [.string ⟨x.name.toArray⟩, .int .i64 (x.x : Nat), .int .i64 (x.y : Nat), .int .i64 (x.f : Nat), .int .i64 (x.t : Nat), .int .i64 (x.step : Nat), .slice uo x.marks.length uc, .int .i64 (x.at_ : Nat)] 54) (by unfold maxLen; omega) (by omega) hcb.out.size ?kk
                case kk =>
                  intro lo8 lc8 v8 hl8 hc8 hb8
                  have HL8 := Lib.hid hl8
                  have HC8 := Lib.hid hc8
                  have HB8 := Lib.hid hb8
                  have HCv : Hid (Chg [b, X5] w2 v8) := Lib.hid (hc8 _ _ hcb.out (Nat.le_refl _))
                  have HP8 : Hid (Pp v8 b r5 en) := Lib.hid (HPx.out.via (W := w2) (own := [b, X5]) (KL_6.out.trans HCx.out (fun k hk => .inl (by simp at hk; simp [hk]))) HCv.out (fun ds S h => hb8 _ _ _ (h.alloc _) (.inl HbL.out)) (fun z hz => by simp only [List.mem_cons, List.not_mem_nil, or_false] at hz; rcases hz with h9 | h9; (rw [h9]; exact Nat.le_refl _); (rw [h9]; exact Nat.le_of_lt BX5.out)) HbL.out)
                  clear hl8 hc8 hb8
                  have HX4_8 : Hid (Blk v8 X4 [.string ⟨#[]⟩, .slice none 0 0, .int .i64 0] 51) := Lib.hid (HB8.out _ _ _ (HX4_7.out.alloc _) (.inr (.inl (by decide))))
                  have HX5_8 : Hid (Blk v8 X5 [.string ⟨t1.text.toArray⟩, .slice vo rs.length vc, .int .i64 (at_ : Nat)] 51) := Lib.hid (HB8.out _ _ _ (HX5_7.out.alloc _) (.inr (.inl (by decide))))
                  have C8 : Hid (Chg [b] w v8) := Lib.hid (C4.out.trans HCv.out (fun k hk => by simp only [List.mem_cons, List.not_mem_nil, or_false] at hk; rcases hk with h9 | h9; (rw [h9]; exact .inl (by simp)); (rw [h9]; exact .inr (by have OX4_ := OX4.out; have OX5_ := OX5.out; show w.heap.size ≤ X5; omega))))
                  refine hK.out _ _ trivial (fun _ => ?_)
                  clear hK K
                  try simp only [Act.put, List.setIfInBounds_toArray, List.set_cons_zero, List.set_cons_succ, List.getElem_toArray, List.getElem_cons_succ, List.getElem_cons_zero]
                  refine wpAnyH_take (i := 6) (v := ?vwc6) rfl (by kernel_rfl) (by kernel_rfl) (by kernel_rfl) (fun _ _ _ h => h) (Or.inl ⟨by kernel_rfl, ?hywc6⟩) (by assumption) ?rswc6
                  case hywc6 => (intro w9 hSw; skip; go_simp; try with_reducible rfl)
                  try simp only [Act.put, List.setIfInBounds_toArray, List.set_cons_zero, List.set_cons_succ, List.getElem_toArray, List.getElem_cons_succ, List.getElem_cons_zero]
                  refine wpAnyH_ready (rs := [7]) (by kernel_rfl) (by simp) (AllReadyH.cons rfl (fun K hK => ?_) AllReadyH.nil)
                  have cX5_0 := HX5_8.out.cell (i := 0) rfl
                  have cX5_1 := HX5_8.out.cell (i := 1) rfl
                  have cX5_2 := HX5_8.out.cell (i := 2) rfl
                  have cX5_f0 := HX5_8.out.free 0
                  have cX5_f1 := HX5_8.out.free 1
                  have cX5_f2 := HX5_8.out.free 2
                  go_simp
                  refine hK.out _ _ trivial (fun _ => ?_)
                  clear hK K
                  try simp only [Act.put, List.setIfInBounds_toArray, List.set_cons_zero, List.set_cons_succ, List.getElem_toArray, List.getElem_cons_succ, List.getElem_cons_zero]
                  clear cX5_0 cX5_1 cX5_2 cX5_f0 cX5_f1 cX5_f2
                  obtain ⟨W9, hW⟩ : ∃ W, W = (v8.setCell ⟨X5, 1, none⟩ (.slice lo8 (rs.length + 1) lc8)) := ⟨_, rfl⟩
                  rw [← hW]
                  have HX4_9 : Hid (Blk W9 X4 [.string ⟨#[]⟩, .slice none 0 0, .int .i64 0] 51) := Lib.hid (by rw [hW]; exact (HX4_8.out.other _ _ NX4_X5))
                  have HX5_9 : Hid (Blk W9 X5 [.string ⟨t1.text.toArray⟩, .slice lo8 (rs.length + 1) lc8, .int .i64 (at_ : Nat)] 51) := Lib.hid (by rw [hW]; exact (HX5_8.out.set 1 (.slice lo8 (rs.length + 1) lc8)))
                  have C9 : Hid (Chg [b] w W9) := Lib.hid (by rw [hW]; exact (C8.out.setCell _ _ (.inr (by have OX4_ := OX4.out; have OX5_ := OX5.out; show w.heap.size ≤ X5; omega))))
                  have KL_9 : Hid (Chg [b, X5] w2 W9) := Lib.hid (by rw [hW]; exact (HCv.out.setCell _ _ (.inl (by simp))))
                  have KP_9 : Hid (Chg [X4, X5] v8 W9) := Lib.hid (by rw [hW]; exact ((Chg.refl [X4, X5] v8).setCell _ _ (.inl (by simp))))
                  have Kv_9 : Hid (Chg [b, X5] v8 W9) := Lib.hid (by rw [hW]; exact ((Chg.refl [b, X5] v8).setCell _ _ (.inl (by simp))))
                  clear hW
                  refine wpAnyH_done (by kernel_rfl) ?_ _
                  try simp only [Act.put, List.setIfInBounds_toArray, List.set_cons_zero, List.set_cons_succ, List.getElem_toArray, List.getElem_cons_succ, List.getElem_cons_zero]
                  have HPz : Hid (Pp W9 b r5 en) := Lib.hid (HP8.out.keep KP_9.out (fun k hk => by simp only [List.mem_cons, List.not_mem_nil, or_false] at hk; rcases hk with rfl | rfl; exact BX4.out; exact BX5.out))
                  have HLz := Kv_9
                  have HL9 : Hid (ListS w2.heap.size 54 8 (Crw w2.heap.size) (rs ++ [x]) (.slice lo8 (rs ++ [x]).length lc8) W9) := Lib.hid (by rw [List.length_append]; exact HL8.out.keep (kp_rw _) HLz.out (TyB.lower (by intro z hz; simp only [List.mem_cons, List.not_mem_nil, or_false] at hz; rcases hz with h9 | h9; (rw [h9]; exact HbL.out); (rw [h9]; exact HXL.out)) _))
                  have HX9 : Hid (Blk W9 X5 [.string ⟨t1.text.toArray⟩, .slice lo8 (rs ++ [x]).length lc8, .int .i64 (at_ : Nat)] 51) := Lib.hid (by rw [List.length_append]; exact HX5_9.out)
                  have hel := Pn.eat_row _ _ _ HMx.out
                  have HMU : Hid (leftP b W9 < leftP b wo) := Lib.hid (by rw [left_pp HPz.out, left_pp HPq.out]; omega)
                  have HQ9 : Hid ((rs ++ [x]).length + r5.length ≤ r2.length) := Lib.hid (by have h2 := HQ.out; simp only [List.length_append, List.length_singleton]; omega)
                  clear hel
                  go_wp2_with fail
                  refine ⟨?_, HMU.out⟩
                  first | exact ⟨rs ++ [x], r5, k - 1, lo8, lc8, HX9, HL9, HPz, Lib.hid (linv_step HLI.out HSF.out Pn.eat_row HMx.out), HQ9, KL_9⟩ | ((repeat apply Exists.intro); exact ⟨⟨rs ++ [x], r5, k - 1, lo8, lc8, HX9, HL9, HPz, Lib.hid (linv_step HLI.out HSF.out Pn.eat_row HMx.out), HQ9, KL_9⟩, rfl⟩)
            · have HCb : Hid (Chg [b] w3 w9) := Lib.hid (Chg.ofDrew HCd.out)
              exact ⟨rfl, (pbad (C6.out.trans HCb.out (fun k hk => by simp only [List.mem_cons, List.not_mem_nil, or_false] at hk; have h9 := hk; (rw [h9]; exact .inl (by simp)))) (bad5 HO2.out (by rw [HOB.out, linv_bad HLI.out HSF.out HMb.out]; rfl)))⟩
    · go_wp2_with fail
      exact ⟨rfl, (pbad (C3.out.trans HCb.out (fun k hk => by simp only [List.mem_cons, List.not_mem_nil, or_false] at hk; have h9 := hk; (rw [h9]; exact .inl (by simp)))) (bad5 HO1.out HMb.out))⟩
  · go_wp2_with fail
    exact ⟨rfl, (pbad (C1.out.trans HCb.out (fun k hk => by simp only [List.mem_cons, List.not_mem_nil, or_false] at hk; have h9 := hk; (rw [h9]; exact .inl (by simp)))) (bad5 HO.out (name_bad HMb.out)))⟩
theorem block_two {w : World} {b en : Nat} {l : List Tk} (HP : Hid (Pp w b l en)) (at_ : Nat) (B : Nat) (hB : B ≤ w.heap.size) {R : Ending → World → Prop}
    (hok : ∀ (x : Pn.Bl) (uo : Option Addr) (uc : Nat) (r : List Tk) (w' : World), Hid (Pn.block at_ l = .ok x r) → Hid (Pp w' b r en) → Hid (Chg [b] w w') → Hid (ListS B 54 8 (Crw B) x.rows (.slice uo x.rows.length uc) w') → R (.returned (.agg #[.string ⟨x.name.toArray⟩, .slice uo x.rows.length uc, .int .i64 (x.at_ : Nat)])) w')
    (hbad : ∀ (c : Nat) (r : List Tk) (w' : World), Hid (Pn.block at_ l = .bad c r) → Hid (Chg [b] w w') → R (.panicked [{ v := flt c r en, recovered := false }]) w') :
    Calls Tryd.prog 48 #[.pointer (some ⟨b, 0, none⟩), .int .i64 (at_ : Nat)] w R :=
  (block_spec w b en l HP at_).mono fun e w' h => pres_two h (fun a r v h1 h2 h3 h4 => by
    obtain ⟨u, rfl, h5⟩ := h4
    obtain ⟨uo, uc, rfl⟩ := h5.form
    exact hok a uo uc r w' h1 h2 h3 (Lib.hid (h5.mono hB (mono_rw hB)))) (fun c r h1 h2 => hbad c r w' h1 h2)
end Go.Proofs.YtocadlcglgpdcaaDoor

