/-
  Plan, layer 13: the closures that read a level's items. Printed by genpnn06.py.
-/
import Derived.Test.YtocadlcglgpdcaaDoorPnM
namespace Go.Proofs.YtocadlcglgpdcaaDoor
set_option linter.unusedVariables false
set_option linter.unusedSimpArgs false
open Go Go.RowKit Go.Shelf
open Lx (Tk)
/-- What a reading of an item changes, seen from a world that is no greater than the lists' base. -/
def CHF (B b D : Nat) (w w' : World) : Prop := ∀ Wb : World, Wb.heap.size ≤ B → Chg [b, D] Wb w → Chg [b, D] Wb w'
theorem chf_b {B b D : Nat} {w w' : World} (h : Chg [b] w w') : CHF B b D w w' := fun Wb _ hc => hc.trans h (fun k hk => .inl (by simp at hk; simp [hk]))
theorem CHF.then {B b D : Nat} {w w1 w' : World} (h : CHF B b D w w1) (h2 : Chg [b] w1 w') : CHF B b D w w' := fun Wb hs hc => (h Wb hs hc).trans h2 (fun k hk => .inl (by simp at hk; simp [hk]))
theorem info_it1 : (Tryd.prog.info? 51).map (fun i => (i.zero, i.size, i.bytes)) = some (some (.agg #[.string ⟨#[]⟩, .slice none 0 0, .int .i64 0]), 3, 48) := by kernel_rfl
theorem info_it2 : (Tryd.prog.info? 58).map (fun i => (i.zero, i.size, i.bytes)) = some (some (.agg #[.string ⟨#[]⟩, .int .i64 0, .int .i64 0, .int .i64 0, .int .i64 0, .int .i64 0, .int .i64 0]), 7, 64) := by kernel_rfl
theorem info_it3 : (Tryd.prog.info? 56).map (fun i => (i.zero, i.size, i.bytes)) = some (some (.agg #[.int .i64 0, .int .i64 0, .int .i64 0, .int .i64 0]), 4, 32) := by kernel_rfl
theorem info_it4 : (Tryd.prog.info? 56).map (fun i => (i.zero, i.size, i.bytes)) = some (some (.agg #[.int .i64 0, .int .i64 0, .int .i64 0, .int .i64 0]), 4, 32) := by kernel_rfl
theorem info_it5 : (Tryd.prog.info? 24).map (fun i => (i.zero, i.size, i.bytes)) = some (some (.agg #[.int .i64 0, .int .i64 0]), 2, 16) := by kernel_rfl
set_option maxHeartbeats 4000000 in
set_option maxRecDepth 100000 in
theorem it1_spec (w : World) (b en BL BP D B : Nat) (l : List Tk) (L : Pn.Lv) (u1 u2 u3 u4 u5 : Value) (HP : Hid (Pp w b l en)) (HLV : Hid (LevAt B D L u1 u2 u3 u4 u5 w)) (HBL : Hid (Blk w BL [.pointer (some ⟨D, 0, none⟩)] 90)) (HBP : Hid (Blk w BP [.pointer (some ⟨b, 0, none⟩)] 67))
    (HN : Hid (b < D ∧ D < BP ∧ BP < BL ∧ BL < B ∧ B ≤ w.heap.size)) (HS : Hid (L.blocks.length ≤ 1000000)) (at_ : Nat) :
    Calls Tryd.prog 47 #[.int .i64 (at_ : Nat), .pointer (some ⟨BL, 0, none⟩), .pointer (some ⟨BP, 0, none⟩)] w fun e w' =>
      (∃ x r v, e = .returned (.tuple #[]) ∧ Pn.block at_ l = .ok x r ∧ Pp w' b r en ∧ LevAt B D { L with blocks := L.blocks ++ [x] } v u2 u3 u4 u5 w' ∧ CHF B b D w w') ∨ (∃ c r, e = .panicked [{ v := flt c r en, recovered := false }] ∧ Pn.block at_ l = .bad c r ∧ CHF B b D w w') := by
  obtain ⟨ii, hii, iz0, iz1, iz2⟩ := info_parts info_it1
  obtain ⟨ao, cap, hu⟩ := HLV.out.l1.form
  subst hu
  have HBW : Hid (b < w.heap.size) := Lib.hid HP.out.lt
  have HOBL : Hid (BL < w.heap.size) := Lib.hid HBL.out.lt
  have HOBP : Hid (BP < w.heap.size) := Lib.hid HBP.out.lt
  have BBL : Hid (b < BL) := Lib.hid (by have := HN.out; omega)
  have BBP : Hid (b < BP) := Lib.hid (by have := HN.out; omega)
  have NBL_b : BL ≠ b := by have := HN.out; omega
  have NBP_b : BP ≠ b := by have := HN.out; omega
  have NBL_D : BL ≠ D := by have := HN.out; omega
  have NBP_D : BP ≠ D := by have := HN.out; omega
  have HDb : Hid (D ≠ b) := Lib.hid (by have := HN.out; omega)
  have HbB : Hid (b < B) := Lib.hid (by have := HN.out; omega)
  have hsl := HS.out
  go_enter Tryd.func47, Tryd.ntmps47
  go_upto_region 0 with fail
  have HLV0 : Hid (LevAt B D L (.slice ao L.blocks.length cap) u2 u3 u4 u5 w) := Lib.hid (HLV.out.keep (own := [b]) (Chg.refl [b] w) (by simp; exact HDb.out) (fun k hk => by simp at hk; rw [hk]; exact HbB.out))
  refine wp_region_held_drew (S := fun W' => Blk W' BL [.pointer (some ⟨D, 0, none⟩)] 90 ∧ Blk W' BP [.pointer (some ⟨b, 0, none⟩)] 67) (by kernel_rfl) ⟨HBL.out.drew, HBP.out.drew⟩ (fun hHeld => ?_)
  refine wpAnyH_take (i := 0) (v := ?vr0) rfl (by kernel_rfl) (by kernel_rfl) (by kernel_rfl) (fun _ _ _ h => h) (Or.inl ⟨by kernel_rfl, ?hyr0⟩) (by assumption) ?rsr0
  case hyr0 => (intro w9 hSw; have e0 := hSw.1.cell (i := 0) rfl; go_simp; try with_reducible rfl)
  try simp only [Act.put, List.setIfInBounds_toArray, List.set_cons_zero, List.set_cons_succ, List.getElem_toArray, List.getElem_cons_succ, List.getElem_cons_zero]
  refine wpAnyH_take (i := 1) (v := ?vr1) rfl (by kernel_rfl) (by kernel_rfl) (by kernel_rfl) (fun _ _ _ h => h) (Or.inl ⟨by kernel_rfl, ?hyr1⟩) (by assumption) ?rsr1
  case hyr1 => (intro w9 hSw; have e0 := hSw.1.cell (i := 0) rfl; go_simp; try with_reducible rfl)
  try simp only [Act.put, List.setIfInBounds_toArray, List.set_cons_zero, List.set_cons_succ, List.getElem_toArray, List.getElem_cons_succ, List.getElem_cons_zero]
  refine wpAnyH_take (i := 2) (v := ?vr2) rfl (by kernel_rfl) (by kernel_rfl) (by kernel_rfl) (fun _ _ _ h => h) (Or.inl ⟨by kernel_rfl, ?hyr2⟩) (by assumption) ?rsr2
  case hyr2 => (intro w9 hSw; skip; go_simp; try with_reducible rfl)
  try simp only [Act.put, List.setIfInBounds_toArray, List.set_cons_zero, List.set_cons_succ, List.getElem_toArray, List.getElem_cons_succ, List.getElem_cons_zero]
  refine wpAnyH_take (i := 3) (v := ?vr3) rfl (by kernel_rfl) (by kernel_rfl) (by kernel_rfl) (fun _ _ _ h => h) (Or.inl ⟨by kernel_rfl, ?hyr3⟩) (by assumption) ?rsr3
  case hyr3 => (intro w9 hSw; skip; go_simp; try with_reducible rfl)
  try simp only [Act.put, List.setIfInBounds_toArray, List.set_cons_zero, List.set_cons_succ, List.getElem_toArray, List.getElem_cons_succ, List.getElem_cons_zero]
  refine wpAnyH_take (i := 5) (v := ?vr5) rfl (by kernel_rfl) (by kernel_rfl) (by kernel_rfl) (fun _ _ _ h => h) (Or.inl ⟨by kernel_rfl, ?hyr5⟩) (by assumption) ?rsr5
  case hyr5 => (intro w9 hSw; have e0 := hSw.2.cell (i := 0) rfl; go_simp; try with_reducible rfl)
  try simp only [Act.put, List.setIfInBounds_toArray, List.set_cons_zero, List.set_cons_succ, List.getElem_toArray, List.getElem_cons_succ, List.getElem_cons_zero]
  refine wpAnyH_take (i := 6) (v := ?vr6) rfl (by kernel_rfl) (by kernel_rfl) (by kernel_rfl) (fun _ _ _ h => h) (Or.inl ⟨by kernel_rfl, ?hyr6⟩) (by assumption) ?rsr6
  case hyr6 => (intro w9 hSw; skip; go_simp; try with_reducible rfl)
  try simp only [Act.put, List.setIfInBounds_toArray, List.set_cons_zero, List.set_cons_succ, List.getElem_toArray, List.getElem_cons_succ, List.getElem_cons_zero]
  refine wpAnyH_ready (rs := [4, 7]) (by kernel_rfl) (by simp) (AllReadyH.cons rfl (fun K hK => ?_) (AllReadyH.cons rfl (fun K hK => ?_) AllReadyH.nil))
  · skip
    have x0 := (HLV0.out.blk.drew).cell (i := 2) rfl
    go_simp
    refine hK.out _ _ (hHeld) (fun hHeld => ?_)
    clear hK K
    try simp only [Act.put, List.setIfInBounds_toArray, List.set_cons_zero, List.set_cons_succ, List.getElem_toArray, List.getElem_cons_succ, List.getElem_cons_zero]
    clear x0
    refine wpAnyH_ready (rs := [7]) (by kernel_rfl) (by simp) (AllReadyH.cons rfl (fun K hK => ?_) AllReadyH.nil)
    go_simp
    refine block_two (Lib.hid (Pp.quiet HP.out (Chg.refl _ _).drew)) at_ B HN.out.2.2.2.2 (fun x uo uc r5 wx HMx HPx HCd HUx => ?_) (fun c r w9 HMb HCd => ?_)
    · have HCx : Hid (Chg [b] w wx) := Lib.hid (Chg.ofDrew HCd.out)
      have HBL_1 : Hid (Blk wx BL [.pointer (some ⟨D, 0, none⟩)] 90) := Lib.hid (HCx.out.blk HBL.out (by simp [NBL_b]))
      have HBP_1 : Hid (Blk wx BP [.pointer (some ⟨b, 0, none⟩)] 67) := Lib.hid (HCx.out.blk HBP.out (by simp [NBP_b]))
      have C1 : Hid (Chg [b] w wx) := Lib.hid ((Chg.refl [b] w).trans HCx.out (fun k hk => by simp only [List.mem_cons, List.not_mem_nil, or_false] at hk; have h9 := hk; (rw [h9]; exact .inl (by simp))))
      have HLVx : Hid (LevAt B D L (.slice ao L.blocks.length cap) u2 u3 u4 u5 wx) := Lib.hid (HLV0.out.keep HCx.out (by simp; exact HDb.out) (fun k hk => by simp at hk; rw [hk]; exact HbB.out))
      refine hK.out _ _ (⟨HBL_1.out, HBP_1.out⟩) (fun hHeld => ?_)
      clear hK K
      try simp only [Act.put, List.setIfInBounds_toArray, List.set_cons_zero, List.set_cons_succ, List.getElem_toArray, List.getElem_cons_succ, List.getElem_cons_zero]
      refine wpAnyH_ready (rs := [8]) (by kernel_rfl) (by simp) (AllReadyH.cons rfl (fun K hK => ?_) AllReadyH.nil)
      go_simp
      refine hK.out _ _ (⟨hHeld.1.alloc _, hHeld.2.alloc _⟩) (fun hHeld => ?_)
      clear hK K
      try simp only [Act.put, List.setIfInBounds_toArray, List.set_cons_zero, List.set_cons_succ, List.getElem_toArray, List.getElem_cons_succ, List.getElem_cons_zero]
      refine wpAnyH_ready (rs := [9]) (by kernel_rfl) (by simp) (AllReadyH.cons rfl (fun K hK => ?_) AllReadyH.nil)
      have HLa : Hid (LevAt B D L (.slice ao L.blocks.length cap) u2 u3 u4 u5 (wx.alloc (.cells #[.string ⟨x.name.toArray⟩, .slice uo x.rows.length uc, .int .i64 (x.at_ : Nat)] 51))) := Lib.hid (HLVx.out.keep (own := []) ((Chg.refl _ _).alloc _) (by simp) (by simp))
      have hba : B ≤ (wx.alloc (.cells #[.string ⟨x.name.toArray⟩, .slice uo x.rows.length uc, .int .i64 (x.at_ : Nat)] 51)).heap.size := by have h1 := HN.out; have h2 := (C1.out.alloc (.cells #[.string ⟨x.name.toArray⟩, .slice uo x.rows.length uc, .int .i64 (x.at_ : Nat)] 51)).size; omega
      refine step_snoc2 rfl (.tmp 8) (.tmp 12) 42 rfl 51 ii (.agg #[.string ⟨#[]⟩, .slice none 0 0, .int .i64 0]) 3 48 Tryd.underlying42 hii iz0 iz1 iz2 rfl (by decide) (C := (Cbk B)) (Es := [54, 64]) (.slice ao L.blocks.length cap) L.blocks.length rfl HLa.out.l1 rfl (kp_bk B) (by decide) x [.string ⟨x.name.toArray⟩, .slice uo x.rows.length uc, .int .i64 (x.at_ : Nat)] ⟨_, rfl, HUx.out.keep (kp_rw _) ((Chg.refl [] _).alloc _) (TyB.nil _ _ _)⟩ rfl (by intro u hu; simp at hu; rcases hu with rfl | rfl | rfl <;> rfl) wx.heap.size rfl (Blk.new wx [.string ⟨x.name.toArray⟩, .slice uo x.rows.length uc, .int .i64 (x.at_ : Nat)] 51) (by unfold maxLen; omega) (by omega) hba ?kk
      case kk =>
        intro g8 cap8 v8 hl8 hg8 ho8 hlt8
        have HL8 := Lib.hid hl8
        have HG8 := Lib.hid hg8
        have HOW8 := Lib.hid ho8
        clear hl8 hg8 ho8 hlt8 hba
        obtain ⟨css, hc1, hc2, hrow⟩ := HLa.out.l1
        have HRW := Lib.hid hrow
        clear hc1 hc2 hrow
        have HCG : Hid (Chg (Value.ownBlock (.slice ao L.blocks.length cap)).toList (wx.alloc (.cells #[.string ⟨x.name.toArray⟩, .slice uo x.rows.length uc, .int .i64 (x.at_ : Nat)] 51)) v8) := Lib.hid ((Chg.refl _ _).grown HG8.out (fun k hk => .inl (by simp [hk])))
        have HGE : Hid (∀ k ∈ (Value.ownBlock (.slice ao L.blocks.length cap)).toList, B ≤ k) := Lib.hid (fun k hk => own_ge HRW.out k (by simpa using hk))
        have HP8 : Hid (Pp v8 b r5 en) := Lib.hid ((HPx.out.quiet ((Chg.refl [] _).alloc _)).keep HCG.out (fun k hk => by have h1 := HGE.out k hk; have h2 := HbB.out; omega))
        have HD8 : Hid (Blk v8 D [.string ⟨L.name.toArray⟩, .int .i64 (L.height : Nat), (.slice ao L.blocks.length cap), u2, u3, u4, u5, .int .i64 (L.at_ : Nat)] 47) := Lib.hid (grown_blk HLa.out.blk HG8.out HRW.out (by decide))
        have HBL8 : Hid (Blk v8 BL [.pointer (some ⟨D, 0, none⟩)] 90) := Lib.hid (grown_blk (hHeld.1) HG8.out HRW.out (by decide))
        have HBP8 : Hid (Blk v8 BP [.pointer (some ⟨b, 0, none⟩)] 67) := Lib.hid (grown_blk (hHeld.2) HG8.out HRW.out (by decide))
        obtain ⟨v9, hv9⟩ : ∃ W, W = v8.setCell ⟨D, 2, none⟩ (.slice (some ⟨g8, 0, none⟩) (L.blocks.length + 1) cap8) := ⟨_, rfl⟩
        have HLV9 : Hid (LevAt B D { L with blocks := L.blocks ++ [x] } (.slice (some ⟨g8, 0, none⟩) (L.blocks.length + 1) cap8) u2 u3 u4 u5 v9) := Lib.hid (by rw [hv9]; exact HLa.out.app1 HG8.out x HL8.out)
        have HP9 : Hid (Pp v9 b r5 en) := Lib.hid (by rw [hv9]; exact HP8.out.keep (own := [D]) ((Chg.refl _ _).setCell _ _ (.inl (by simp))) (fun k hk => by simp at hk; rw [hk]; exact HN.out.1))
        have HBL9 : Hid (Blk v9 BL [.pointer (some ⟨D, 0, none⟩)] 90) := Lib.hid (by rw [hv9]; exact HBL8.out.other _ _ NBL_D)
        have HBP9 : Hid (Blk v9 BP [.pointer (some ⟨b, 0, none⟩)] 67) := Lib.hid (by rw [hv9]; exact HBP8.out.other _ _ NBP_D)
        have HCF9 : Hid (CHF B b D w v9) := Lib.hid (fun Wb hWb hc => by rw [hv9]; exact (((hc.trans (C1.out.alloc (.cells #[.string ⟨x.name.toArray⟩, .slice uo x.rows.length uc, .int .i64 (x.at_ : Nat)] 51)) (fun k hk => .inl (by simp at hk; simp [hk]))).trans HCG.out (fun k hk => .inr (Nat.le_trans hWb (HGE.out k hk)))).setCell _ _ (.inl (by simp))))
        refine hK.out _ _ (⟨HBL8.out, HBP8.out⟩) (fun hHeld => ?_)
        clear hK K
        try simp only [Act.put, List.setIfInBounds_toArray, List.set_cons_zero, List.set_cons_succ, List.getElem_toArray, List.getElem_cons_succ, List.getElem_cons_zero]
        refine wpAnyH_take (i := 10) (v := ?vwa10) rfl (by kernel_rfl) (by kernel_rfl) (by kernel_rfl) (fun _ _ _ h => h) (Or.inl ⟨by kernel_rfl, ?hywa10⟩) (by assumption) ?rswa10
        case hywa10 => (intro w9 hSw; skip; go_simp; try with_reducible rfl)
        try simp only [Act.put, List.setIfInBounds_toArray, List.set_cons_zero, List.set_cons_succ, List.getElem_toArray, List.getElem_cons_succ, List.getElem_cons_zero]
        refine wpAnyH_take (i := 11) (v := ?vwa11) rfl (by kernel_rfl) (by kernel_rfl) (by kernel_rfl) (fun _ _ _ h => h) (Or.inl ⟨by kernel_rfl, ?hywa11⟩) (by assumption) ?rswa11
        case hywa11 => (intro w9 hSw; skip; go_simp; try with_reducible rfl)
        try simp only [Act.put, List.setIfInBounds_toArray, List.set_cons_zero, List.set_cons_succ, List.getElem_toArray, List.getElem_cons_succ, List.getElem_cons_zero]
        refine wpAnyH_ready (rs := [12]) (by kernel_rfl) (by simp) (AllReadyH.cons rfl (fun K hK => ?_) AllReadyH.nil)
        have d0 := HD8.out.cell (i := 2) rfl
        have d1 := HD8.out.free 2
        go_simp
        rw [← hv9]
        refine hK.out _ _ (⟨HBL9.out, HBP9.out⟩) (fun hHeld => ?_)
        clear hK K
        try simp only [Act.put, List.setIfInBounds_toArray, List.set_cons_zero, List.set_cons_succ, List.getElem_toArray, List.getElem_cons_succ, List.getElem_cons_zero]
        clear d0 d1 hv9
        refine wpAnyH_done (by kernel_rfl) ?_ _
        try simp only [Act.put, List.setIfInBounds_toArray, List.set_cons_zero, List.set_cons_succ, List.getElem_toArray, List.getElem_cons_succ, List.getElem_cons_zero]
        clear hHeld
        go_wp2_with fail
        refine bodyPost_end (results_none rfl _ _ _) rfl ?_
        first | exact .inl ⟨_, _, _, rfl, HMx.out, HP9.out, HLV9.out, HCF9.out⟩ | exact .inl ⟨rfl, _, _, _, HMx.out, HP9.out, HLV9.out, HCF9.out⟩ | exact .inl ⟨_, _, rfl, HMx.out, HP9.out, _, HLV9.out, HCF9.out⟩ | exact .inl ⟨rfl, _, _, HMx.out, HP9.out, ⟨_, HLV9.out⟩, HCF9.out⟩ | (trace_state; fail)
    · have HCb : Hid (Chg [b] w w9) := Lib.hid (Chg.ofDrew HCd.out)
      exact ⟨rfl, .inr ⟨c, r, rfl, HMb.out, chf_b ((Chg.refl [b] w).trans HCb.out (fun k hk => by simp only [List.mem_cons, List.not_mem_nil, or_false] at hk; have h9 := hk; (rw [h9]; exact .inl (by simp))))⟩⟩
  · skip
    go_simp
    refine block_two (Lib.hid (Pp.quiet HP.out (Chg.refl _ _).drew)) at_ B HN.out.2.2.2.2 (fun x uo uc r5 wx HMx HPx HCd HUx => ?_) (fun c r w9 HMb HCd => ?_)
    · have HCx : Hid (Chg [b] w wx) := Lib.hid (Chg.ofDrew HCd.out)
      have HBL_1 : Hid (Blk wx BL [.pointer (some ⟨D, 0, none⟩)] 90) := Lib.hid (HCx.out.blk HBL.out (by simp [NBL_b]))
      have HBP_1 : Hid (Blk wx BP [.pointer (some ⟨b, 0, none⟩)] 67) := Lib.hid (HCx.out.blk HBP.out (by simp [NBP_b]))
      have C1 : Hid (Chg [b] w wx) := Lib.hid ((Chg.refl [b] w).trans HCx.out (fun k hk => by simp only [List.mem_cons, List.not_mem_nil, or_false] at hk; have h9 := hk; (rw [h9]; exact .inl (by simp))))
      have HLVx : Hid (LevAt B D L (.slice ao L.blocks.length cap) u2 u3 u4 u5 wx) := Lib.hid (HLV0.out.keep HCx.out (by simp; exact HDb.out) (fun k hk => by simp at hk; rw [hk]; exact HbB.out))
      refine hK.out _ _ (⟨HBL_1.out, HBP_1.out⟩) (fun hHeld => ?_)
      clear hK K
      try simp only [Act.put, List.setIfInBounds_toArray, List.set_cons_zero, List.set_cons_succ, List.getElem_toArray, List.getElem_cons_succ, List.getElem_cons_zero]
      refine wpAnyH_ready (rs := [4, 8]) (by kernel_rfl) (by simp) (AllReadyH.cons rfl (fun K hK => ?_) (AllReadyH.cons rfl (fun K hK => ?_) AllReadyH.nil))
      · skip
        have x0 := HLVx.out.blk.cell (i := 2) rfl
        go_simp
        refine hK.out _ _ (hHeld) (fun hHeld => ?_)
        clear hK K
        try simp only [Act.put, List.setIfInBounds_toArray, List.set_cons_zero, List.set_cons_succ, List.getElem_toArray, List.getElem_cons_succ, List.getElem_cons_zero]
        clear x0
        refine wpAnyH_ready (rs := [8]) (by kernel_rfl) (by simp) (AllReadyH.cons rfl (fun K hK => ?_) AllReadyH.nil)
        go_simp
        refine hK.out _ _ (⟨hHeld.1.alloc _, hHeld.2.alloc _⟩) (fun hHeld => ?_)
        clear hK K
        try simp only [Act.put, List.setIfInBounds_toArray, List.set_cons_zero, List.set_cons_succ, List.getElem_toArray, List.getElem_cons_succ, List.getElem_cons_zero]
        refine wpAnyH_ready (rs := [9]) (by kernel_rfl) (by simp) (AllReadyH.cons rfl (fun K hK => ?_) AllReadyH.nil)
        have HLa : Hid (LevAt B D L (.slice ao L.blocks.length cap) u2 u3 u4 u5 (wx.alloc (.cells #[.string ⟨x.name.toArray⟩, .slice uo x.rows.length uc, .int .i64 (x.at_ : Nat)] 51))) := Lib.hid (HLVx.out.keep (own := []) ((Chg.refl _ _).alloc _) (by simp) (by simp))
        have hba : B ≤ (wx.alloc (.cells #[.string ⟨x.name.toArray⟩, .slice uo x.rows.length uc, .int .i64 (x.at_ : Nat)] 51)).heap.size := by have h1 := HN.out; have h2 := (C1.out.alloc (.cells #[.string ⟨x.name.toArray⟩, .slice uo x.rows.length uc, .int .i64 (x.at_ : Nat)] 51)).size; omega
        refine step_snoc2 rfl (.tmp 8) (.tmp 12) 42 rfl 51 ii (.agg #[.string ⟨#[]⟩, .slice none 0 0, .int .i64 0]) 3 48 Tryd.underlying42 hii iz0 iz1 iz2 rfl (by decide) (C := (Cbk B)) (Es := [54, 64]) (.slice ao L.blocks.length cap) L.blocks.length rfl HLa.out.l1 rfl (kp_bk B) (by decide) x [.string ⟨x.name.toArray⟩, .slice uo x.rows.length uc, .int .i64 (x.at_ : Nat)] ⟨_, rfl, HUx.out.keep (kp_rw _) ((Chg.refl [] _).alloc _) (TyB.nil _ _ _)⟩ rfl (by intro u hu; simp at hu; rcases hu with rfl | rfl | rfl <;> rfl) wx.heap.size rfl (Blk.new wx [.string ⟨x.name.toArray⟩, .slice uo x.rows.length uc, .int .i64 (x.at_ : Nat)] 51) (by unfold maxLen; omega) (by omega) hba ?kk
        case kk =>
          intro g8 cap8 v8 hl8 hg8 ho8 hlt8
          have HL8 := Lib.hid hl8
          have HG8 := Lib.hid hg8
          have HOW8 := Lib.hid ho8
          clear hl8 hg8 ho8 hlt8 hba
          obtain ⟨css, hc1, hc2, hrow⟩ := HLa.out.l1
          have HRW := Lib.hid hrow
          clear hc1 hc2 hrow
          have HCG : Hid (Chg (Value.ownBlock (.slice ao L.blocks.length cap)).toList (wx.alloc (.cells #[.string ⟨x.name.toArray⟩, .slice uo x.rows.length uc, .int .i64 (x.at_ : Nat)] 51)) v8) := Lib.hid ((Chg.refl _ _).grown HG8.out (fun k hk => .inl (by simp [hk])))
          have HGE : Hid (∀ k ∈ (Value.ownBlock (.slice ao L.blocks.length cap)).toList, B ≤ k) := Lib.hid (fun k hk => own_ge HRW.out k (by simpa using hk))
          have HP8 : Hid (Pp v8 b r5 en) := Lib.hid ((HPx.out.quiet ((Chg.refl [] _).alloc _)).keep HCG.out (fun k hk => by have h1 := HGE.out k hk; have h2 := HbB.out; omega))
          have HD8 : Hid (Blk v8 D [.string ⟨L.name.toArray⟩, .int .i64 (L.height : Nat), (.slice ao L.blocks.length cap), u2, u3, u4, u5, .int .i64 (L.at_ : Nat)] 47) := Lib.hid (grown_blk HLa.out.blk HG8.out HRW.out (by decide))
          have HBL8 : Hid (Blk v8 BL [.pointer (some ⟨D, 0, none⟩)] 90) := Lib.hid (grown_blk (hHeld.1) HG8.out HRW.out (by decide))
          have HBP8 : Hid (Blk v8 BP [.pointer (some ⟨b, 0, none⟩)] 67) := Lib.hid (grown_blk (hHeld.2) HG8.out HRW.out (by decide))
          obtain ⟨v9, hv9⟩ : ∃ W, W = v8.setCell ⟨D, 2, none⟩ (.slice (some ⟨g8, 0, none⟩) (L.blocks.length + 1) cap8) := ⟨_, rfl⟩
          have HLV9 : Hid (LevAt B D { L with blocks := L.blocks ++ [x] } (.slice (some ⟨g8, 0, none⟩) (L.blocks.length + 1) cap8) u2 u3 u4 u5 v9) := Lib.hid (by rw [hv9]; exact HLa.out.app1 HG8.out x HL8.out)
          have HP9 : Hid (Pp v9 b r5 en) := Lib.hid (by rw [hv9]; exact HP8.out.keep (own := [D]) ((Chg.refl _ _).setCell _ _ (.inl (by simp))) (fun k hk => by simp at hk; rw [hk]; exact HN.out.1))
          have HBL9 : Hid (Blk v9 BL [.pointer (some ⟨D, 0, none⟩)] 90) := Lib.hid (by rw [hv9]; exact HBL8.out.other _ _ NBL_D)
          have HBP9 : Hid (Blk v9 BP [.pointer (some ⟨b, 0, none⟩)] 67) := Lib.hid (by rw [hv9]; exact HBP8.out.other _ _ NBP_D)
          have HCF9 : Hid (CHF B b D w v9) := Lib.hid (fun Wb hWb hc => by rw [hv9]; exact (((hc.trans (C1.out.alloc (.cells #[.string ⟨x.name.toArray⟩, .slice uo x.rows.length uc, .int .i64 (x.at_ : Nat)] 51)) (fun k hk => .inl (by simp at hk; simp [hk]))).trans HCG.out (fun k hk => .inr (Nat.le_trans hWb (HGE.out k hk)))).setCell _ _ (.inl (by simp))))
          refine hK.out _ _ (⟨HBL8.out, HBP8.out⟩) (fun hHeld => ?_)
          clear hK K
          try simp only [Act.put, List.setIfInBounds_toArray, List.set_cons_zero, List.set_cons_succ, List.getElem_toArray, List.getElem_cons_succ, List.getElem_cons_zero]
          refine wpAnyH_take (i := 10) (v := ?vwb10) rfl (by kernel_rfl) (by kernel_rfl) (by kernel_rfl) (fun _ _ _ h => h) (Or.inl ⟨by kernel_rfl, ?hywb10⟩) (by assumption) ?rswb10
          case hywb10 => (intro w9 hSw; skip; go_simp; try with_reducible rfl)
          try simp only [Act.put, List.setIfInBounds_toArray, List.set_cons_zero, List.set_cons_succ, List.getElem_toArray, List.getElem_cons_succ, List.getElem_cons_zero]
          refine wpAnyH_take (i := 11) (v := ?vwb11) rfl (by kernel_rfl) (by kernel_rfl) (by kernel_rfl) (fun _ _ _ h => h) (Or.inl ⟨by kernel_rfl, ?hywb11⟩) (by assumption) ?rswb11
          case hywb11 => (intro w9 hSw; skip; go_simp; try with_reducible rfl)
          try simp only [Act.put, List.setIfInBounds_toArray, List.set_cons_zero, List.set_cons_succ, List.getElem_toArray, List.getElem_cons_succ, List.getElem_cons_zero]
          refine wpAnyH_ready (rs := [12]) (by kernel_rfl) (by simp) (AllReadyH.cons rfl (fun K hK => ?_) AllReadyH.nil)
          have d0 := HD8.out.cell (i := 2) rfl
          have d1 := HD8.out.free 2
          go_simp
          rw [← hv9]
          refine hK.out _ _ (⟨HBL9.out, HBP9.out⟩) (fun hHeld => ?_)
          clear hK K
          try simp only [Act.put, List.setIfInBounds_toArray, List.set_cons_zero, List.set_cons_succ, List.getElem_toArray, List.getElem_cons_succ, List.getElem_cons_zero]
          clear d0 d1 hv9
          refine wpAnyH_done (by kernel_rfl) ?_ _
          try simp only [Act.put, List.setIfInBounds_toArray, List.set_cons_zero, List.set_cons_succ, List.getElem_toArray, List.getElem_cons_succ, List.getElem_cons_zero]
          clear hHeld
          go_wp2_with fail
          refine bodyPost_end (results_none rfl _ _ _) rfl ?_
          first | exact .inl ⟨_, _, _, rfl, HMx.out, HP9.out, HLV9.out, HCF9.out⟩ | exact .inl ⟨rfl, _, _, _, HMx.out, HP9.out, HLV9.out, HCF9.out⟩ | exact .inl ⟨_, _, rfl, HMx.out, HP9.out, _, HLV9.out, HCF9.out⟩ | exact .inl ⟨rfl, _, _, HMx.out, HP9.out, ⟨_, HLV9.out⟩, HCF9.out⟩ | (trace_state; fail)
      · skip
        go_simp
        refine hK.out _ _ (⟨hHeld.1.alloc _, hHeld.2.alloc _⟩) (fun hHeld => ?_)
        clear hK K
        try simp only [Act.put, List.setIfInBounds_toArray, List.set_cons_zero, List.set_cons_succ, List.getElem_toArray, List.getElem_cons_succ, List.getElem_cons_zero]
        refine wpAnyH_ready (rs := [4]) (by kernel_rfl) (by simp) (AllReadyH.cons rfl (fun K hK => ?_) AllReadyH.nil)
        have x0 := (HLVx.out.blk.alloc (.cells #[.string ⟨x.name.toArray⟩, .slice uo x.rows.length uc, .int .i64 (x.at_ : Nat)] 51)).cell (i := 2) rfl
        go_simp
        refine hK.out _ _ (hHeld) (fun hHeld => ?_)
        clear hK K
        try simp only [Act.put, List.setIfInBounds_toArray, List.set_cons_zero, List.set_cons_succ, List.getElem_toArray, List.getElem_cons_succ, List.getElem_cons_zero]
        clear x0
        refine wpAnyH_ready (rs := [9]) (by kernel_rfl) (by simp) (AllReadyH.cons rfl (fun K hK => ?_) AllReadyH.nil)
        have HLa : Hid (LevAt B D L (.slice ao L.blocks.length cap) u2 u3 u4 u5 (wx.alloc (.cells #[.string ⟨x.name.toArray⟩, .slice uo x.rows.length uc, .int .i64 (x.at_ : Nat)] 51))) := Lib.hid (HLVx.out.keep (own := []) ((Chg.refl _ _).alloc _) (by simp) (by simp))
        have hba : B ≤ (wx.alloc (.cells #[.string ⟨x.name.toArray⟩, .slice uo x.rows.length uc, .int .i64 (x.at_ : Nat)] 51)).heap.size := by have h1 := HN.out; have h2 := (C1.out.alloc (.cells #[.string ⟨x.name.toArray⟩, .slice uo x.rows.length uc, .int .i64 (x.at_ : Nat)] 51)).size; omega
        refine step_snoc2 rfl (.tmp 8) (.tmp 12) 42 rfl 51 ii (.agg #[.string ⟨#[]⟩, .slice none 0 0, .int .i64 0]) 3 48 Tryd.underlying42 hii iz0 iz1 iz2 rfl (by decide) (C := (Cbk B)) (Es := [54, 64]) (.slice ao L.blocks.length cap) L.blocks.length rfl HLa.out.l1 rfl (kp_bk B) (by decide) x [.string ⟨x.name.toArray⟩, .slice uo x.rows.length uc, .int .i64 (x.at_ : Nat)] ⟨_, rfl, HUx.out.keep (kp_rw _) ((Chg.refl [] _).alloc _) (TyB.nil _ _ _)⟩ rfl (by intro u hu; simp at hu; rcases hu with rfl | rfl | rfl <;> rfl) wx.heap.size rfl (Blk.new wx [.string ⟨x.name.toArray⟩, .slice uo x.rows.length uc, .int .i64 (x.at_ : Nat)] 51) (by unfold maxLen; omega) (by omega) hba ?kk
        case kk =>
          intro g8 cap8 v8 hl8 hg8 ho8 hlt8
          have HL8 := Lib.hid hl8
          have HG8 := Lib.hid hg8
          have HOW8 := Lib.hid ho8
          clear hl8 hg8 ho8 hlt8 hba
          obtain ⟨css, hc1, hc2, hrow⟩ := HLa.out.l1
          have HRW := Lib.hid hrow
          clear hc1 hc2 hrow
          have HCG : Hid (Chg (Value.ownBlock (.slice ao L.blocks.length cap)).toList (wx.alloc (.cells #[.string ⟨x.name.toArray⟩, .slice uo x.rows.length uc, .int .i64 (x.at_ : Nat)] 51)) v8) := Lib.hid ((Chg.refl _ _).grown HG8.out (fun k hk => .inl (by simp [hk])))
          have HGE : Hid (∀ k ∈ (Value.ownBlock (.slice ao L.blocks.length cap)).toList, B ≤ k) := Lib.hid (fun k hk => own_ge HRW.out k (by simpa using hk))
          have HP8 : Hid (Pp v8 b r5 en) := Lib.hid ((HPx.out.quiet ((Chg.refl [] _).alloc _)).keep HCG.out (fun k hk => by have h1 := HGE.out k hk; have h2 := HbB.out; omega))
          have HD8 : Hid (Blk v8 D [.string ⟨L.name.toArray⟩, .int .i64 (L.height : Nat), (.slice ao L.blocks.length cap), u2, u3, u4, u5, .int .i64 (L.at_ : Nat)] 47) := Lib.hid (grown_blk HLa.out.blk HG8.out HRW.out (by decide))
          have HBL8 : Hid (Blk v8 BL [.pointer (some ⟨D, 0, none⟩)] 90) := Lib.hid (grown_blk (hHeld.1) HG8.out HRW.out (by decide))
          have HBP8 : Hid (Blk v8 BP [.pointer (some ⟨b, 0, none⟩)] 67) := Lib.hid (grown_blk (hHeld.2) HG8.out HRW.out (by decide))
          obtain ⟨v9, hv9⟩ : ∃ W, W = v8.setCell ⟨D, 2, none⟩ (.slice (some ⟨g8, 0, none⟩) (L.blocks.length + 1) cap8) := ⟨_, rfl⟩
          have HLV9 : Hid (LevAt B D { L with blocks := L.blocks ++ [x] } (.slice (some ⟨g8, 0, none⟩) (L.blocks.length + 1) cap8) u2 u3 u4 u5 v9) := Lib.hid (by rw [hv9]; exact HLa.out.app1 HG8.out x HL8.out)
          have HP9 : Hid (Pp v9 b r5 en) := Lib.hid (by rw [hv9]; exact HP8.out.keep (own := [D]) ((Chg.refl _ _).setCell _ _ (.inl (by simp))) (fun k hk => by simp at hk; rw [hk]; exact HN.out.1))
          have HBL9 : Hid (Blk v9 BL [.pointer (some ⟨D, 0, none⟩)] 90) := Lib.hid (by rw [hv9]; exact HBL8.out.other _ _ NBL_D)
          have HBP9 : Hid (Blk v9 BP [.pointer (some ⟨b, 0, none⟩)] 67) := Lib.hid (by rw [hv9]; exact HBP8.out.other _ _ NBP_D)
          have HCF9 : Hid (CHF B b D w v9) := Lib.hid (fun Wb hWb hc => by rw [hv9]; exact (((hc.trans (C1.out.alloc (.cells #[.string ⟨x.name.toArray⟩, .slice uo x.rows.length uc, .int .i64 (x.at_ : Nat)] 51)) (fun k hk => .inl (by simp at hk; simp [hk]))).trans HCG.out (fun k hk => .inr (Nat.le_trans hWb (HGE.out k hk)))).setCell _ _ (.inl (by simp))))
          refine hK.out _ _ (⟨HBL8.out, HBP8.out⟩) (fun hHeld => ?_)
          clear hK K
          try simp only [Act.put, List.setIfInBounds_toArray, List.set_cons_zero, List.set_cons_succ, List.getElem_toArray, List.getElem_cons_succ, List.getElem_cons_zero]
          refine wpAnyH_take (i := 10) (v := ?vwc10) rfl (by kernel_rfl) (by kernel_rfl) (by kernel_rfl) (fun _ _ _ h => h) (Or.inl ⟨by kernel_rfl, ?hywc10⟩) (by assumption) ?rswc10
          case hywc10 => (intro w9 hSw; skip; go_simp; try with_reducible rfl)
          try simp only [Act.put, List.setIfInBounds_toArray, List.set_cons_zero, List.set_cons_succ, List.getElem_toArray, List.getElem_cons_succ, List.getElem_cons_zero]
          refine wpAnyH_take (i := 11) (v := ?vwc11) rfl (by kernel_rfl) (by kernel_rfl) (by kernel_rfl) (fun _ _ _ h => h) (Or.inl ⟨by kernel_rfl, ?hywc11⟩) (by assumption) ?rswc11
          case hywc11 => (intro w9 hSw; skip; go_simp; try with_reducible rfl)
          try simp only [Act.put, List.setIfInBounds_toArray, List.set_cons_zero, List.set_cons_succ, List.getElem_toArray, List.getElem_cons_succ, List.getElem_cons_zero]
          refine wpAnyH_ready (rs := [12]) (by kernel_rfl) (by simp) (AllReadyH.cons rfl (fun K hK => ?_) AllReadyH.nil)
          have d0 := HD8.out.cell (i := 2) rfl
          have d1 := HD8.out.free 2
          go_simp
          rw [← hv9]
          refine hK.out _ _ (⟨HBL9.out, HBP9.out⟩) (fun hHeld => ?_)
          clear hK K
          try simp only [Act.put, List.setIfInBounds_toArray, List.set_cons_zero, List.set_cons_succ, List.getElem_toArray, List.getElem_cons_succ, List.getElem_cons_zero]
          clear d0 d1 hv9
          refine wpAnyH_done (by kernel_rfl) ?_ _
          try simp only [Act.put, List.setIfInBounds_toArray, List.set_cons_zero, List.set_cons_succ, List.getElem_toArray, List.getElem_cons_succ, List.getElem_cons_zero]
          clear hHeld
          go_wp2_with fail
          refine bodyPost_end (results_none rfl _ _ _) rfl ?_
          first | exact .inl ⟨_, _, _, rfl, HMx.out, HP9.out, HLV9.out, HCF9.out⟩ | exact .inl ⟨rfl, _, _, _, HMx.out, HP9.out, HLV9.out, HCF9.out⟩ | exact .inl ⟨_, _, rfl, HMx.out, HP9.out, _, HLV9.out, HCF9.out⟩ | exact .inl ⟨rfl, _, _, HMx.out, HP9.out, ⟨_, HLV9.out⟩, HCF9.out⟩ | (trace_state; fail)
    · have HCb : Hid (Chg [b] w w9) := Lib.hid (Chg.ofDrew HCd.out)
      exact ⟨rfl, .inr ⟨c, r, rfl, HMb.out, chf_b ((Chg.refl [b] w).trans HCb.out (fun k hk => by simp only [List.mem_cons, List.not_mem_nil, or_false] at hk; have h9 := hk; (rw [h9]; exact .inl (by simp))))⟩⟩
set_option maxHeartbeats 4000000 in
set_option maxRecDepth 100000 in
theorem it3_spec (w : World) (b en BL BP D B : Nat) (l : List Tk) (L : Pn.Lv) (u1 u2 u3 u4 u5 : Value) (HP : Hid (Pp w b l en)) (HLV : Hid (LevAt B D L u1 u2 u3 u4 u5 w)) (HBL : Hid (Blk w BL [.pointer (some ⟨D, 0, none⟩)] 90)) (HBP : Hid (Blk w BP [.pointer (some ⟨b, 0, none⟩)] 67))
    (HN : Hid (b < D ∧ D < BP ∧ BP < BL ∧ BL < B ∧ B ≤ w.heap.size)) (HS : Hid (L.aisles.length ≤ 1000000)) (at_ : Nat) :
    Calls Tryd.prog 51 #[.int .i64 (at_ : Nat), .pointer (some ⟨BL, 0, none⟩), .pointer (some ⟨BP, 0, none⟩)] w fun e w' =>
      (∃ x r v, e = .returned (.tuple #[]) ∧ Pn.boxS l = .ok x r ∧ Pp w' b r en ∧ LevAt B D { L with aisles := L.aisles ++ [x] } u1 u2 v u4 u5 w' ∧ CHF B b D w w') ∨ (∃ c r, e = .panicked [{ v := flt c r en, recovered := false }] ∧ Pn.boxS l = .bad c r ∧ CHF B b D w w') := by
  obtain ⟨ii, hii, iz0, iz1, iz2⟩ := info_parts info_it3
  obtain ⟨ao, cap, hu⟩ := HLV.out.l3.form
  subst hu
  have HBW : Hid (b < w.heap.size) := Lib.hid HP.out.lt
  have HOBL : Hid (BL < w.heap.size) := Lib.hid HBL.out.lt
  have HOBP : Hid (BP < w.heap.size) := Lib.hid HBP.out.lt
  have BBL : Hid (b < BL) := Lib.hid (by have := HN.out; omega)
  have BBP : Hid (b < BP) := Lib.hid (by have := HN.out; omega)
  have NBL_b : BL ≠ b := by have := HN.out; omega
  have NBP_b : BP ≠ b := by have := HN.out; omega
  have NBL_D : BL ≠ D := by have := HN.out; omega
  have NBP_D : BP ≠ D := by have := HN.out; omega
  have HDb : Hid (D ≠ b) := Lib.hid (by have := HN.out; omega)
  have HbB : Hid (b < B) := Lib.hid (by have := HN.out; omega)
  have hsl := HS.out
  go_enter Tryd.func51, Tryd.ntmps51
  go_upto_region 0 with fail
  have HLV0 : Hid (LevAt B D L u1 u2 (.slice ao L.aisles.length cap) u4 u5 w) := Lib.hid (HLV.out.keep (own := [b]) (Chg.refl [b] w) (by simp; exact HDb.out) (fun k hk => by simp at hk; rw [hk]; exact HbB.out))
  refine wp_region_held_drew (S := fun W' => Blk W' BL [.pointer (some ⟨D, 0, none⟩)] 90 ∧ Blk W' BP [.pointer (some ⟨b, 0, none⟩)] 67) (by kernel_rfl) ⟨HBL.out.drew, HBP.out.drew⟩ (fun hHeld => ?_)
  refine wpAnyH_take (i := 0) (v := ?vr0) rfl (by kernel_rfl) (by kernel_rfl) (by kernel_rfl) (fun _ _ _ h => h) (Or.inl ⟨by kernel_rfl, ?hyr0⟩) (by assumption) ?rsr0
  case hyr0 => (intro w9 hSw; have e0 := hSw.1.cell (i := 0) rfl; go_simp; try with_reducible rfl)
  try simp only [Act.put, List.setIfInBounds_toArray, List.set_cons_zero, List.set_cons_succ, List.getElem_toArray, List.getElem_cons_succ, List.getElem_cons_zero]
  refine wpAnyH_take (i := 1) (v := ?vr1) rfl (by kernel_rfl) (by kernel_rfl) (by kernel_rfl) (fun _ _ _ h => h) (Or.inl ⟨by kernel_rfl, ?hyr1⟩) (by assumption) ?rsr1
  case hyr1 => (intro w9 hSw; have e0 := hSw.1.cell (i := 0) rfl; go_simp; try with_reducible rfl)
  try simp only [Act.put, List.setIfInBounds_toArray, List.set_cons_zero, List.set_cons_succ, List.getElem_toArray, List.getElem_cons_succ, List.getElem_cons_zero]
  refine wpAnyH_take (i := 2) (v := ?vr2) rfl (by kernel_rfl) (by kernel_rfl) (by kernel_rfl) (fun _ _ _ h => h) (Or.inl ⟨by kernel_rfl, ?hyr2⟩) (by assumption) ?rsr2
  case hyr2 => (intro w9 hSw; skip; go_simp; try with_reducible rfl)
  try simp only [Act.put, List.setIfInBounds_toArray, List.set_cons_zero, List.set_cons_succ, List.getElem_toArray, List.getElem_cons_succ, List.getElem_cons_zero]
  refine wpAnyH_take (i := 3) (v := ?vr3) rfl (by kernel_rfl) (by kernel_rfl) (by kernel_rfl) (fun _ _ _ h => h) (Or.inl ⟨by kernel_rfl, ?hyr3⟩) (by assumption) ?rsr3
  case hyr3 => (intro w9 hSw; skip; go_simp; try with_reducible rfl)
  try simp only [Act.put, List.setIfInBounds_toArray, List.set_cons_zero, List.set_cons_succ, List.getElem_toArray, List.getElem_cons_succ, List.getElem_cons_zero]
  refine wpAnyH_take (i := 5) (v := ?vr5) rfl (by kernel_rfl) (by kernel_rfl) (by kernel_rfl) (fun _ _ _ h => h) (Or.inl ⟨by kernel_rfl, ?hyr5⟩) (by assumption) ?rsr5
  case hyr5 => (intro w9 hSw; have e0 := hSw.2.cell (i := 0) rfl; go_simp; try with_reducible rfl)
  try simp only [Act.put, List.setIfInBounds_toArray, List.set_cons_zero, List.set_cons_succ, List.getElem_toArray, List.getElem_cons_succ, List.getElem_cons_zero]
  refine wpAnyH_ready (rs := [4, 6]) (by kernel_rfl) (by simp) (AllReadyH.cons rfl (fun K hK => ?_) (AllReadyH.cons rfl (fun K hK => ?_) AllReadyH.nil))
  · skip
    have x0 := (HLV0.out.blk.drew).cell (i := 4) rfl
    go_simp
    refine hK.out _ _ (hHeld) (fun hHeld => ?_)
    clear hK K
    try simp only [Act.put, List.setIfInBounds_toArray, List.set_cons_zero, List.set_cons_succ, List.getElem_toArray, List.getElem_cons_succ, List.getElem_cons_zero]
    clear x0
    refine wpAnyH_ready (rs := [6]) (by kernel_rfl) (by simp) (AllReadyH.cons rfl (fun K hK => ?_) AllReadyH.nil)
    go_simp
    refine box_two (Lib.hid (Pp.quiet HP.out (Chg.refl _ _).drew)) (fun x r5 wx HMx HPx HCd => ?_) (fun c r w9 HMb HCd => ?_)
    · have HCx : Hid (Chg [b] w wx) := Lib.hid (Chg.ofDrew HCd.out)
      have HBL_1 : Hid (Blk wx BL [.pointer (some ⟨D, 0, none⟩)] 90) := Lib.hid (HCx.out.blk HBL.out (by simp [NBL_b]))
      have HBP_1 : Hid (Blk wx BP [.pointer (some ⟨b, 0, none⟩)] 67) := Lib.hid (HCx.out.blk HBP.out (by simp [NBP_b]))
      have C1 : Hid (Chg [b] w wx) := Lib.hid ((Chg.refl [b] w).trans HCx.out (fun k hk => by simp only [List.mem_cons, List.not_mem_nil, or_false] at hk; have h9 := hk; (rw [h9]; exact .inl (by simp))))
      have HLVx : Hid (LevAt B D L u1 u2 (.slice ao L.aisles.length cap) u4 u5 wx) := Lib.hid (HLV0.out.keep HCx.out (by simp; exact HDb.out) (fun k hk => by simp at hk; rw [hk]; exact HbB.out))
      refine hK.out _ _ (⟨HBL_1.out, HBP_1.out⟩) (fun hHeld => ?_)
      clear hK K
      try simp only [Act.put, List.setIfInBounds_toArray, List.set_cons_zero, List.set_cons_succ, List.getElem_toArray, List.getElem_cons_succ, List.getElem_cons_zero]
      refine wpAnyH_ready (rs := [7]) (by kernel_rfl) (by simp) (AllReadyH.cons rfl (fun K hK => ?_) AllReadyH.nil)
      go_simp
      refine hK.out _ _ (⟨hHeld.1.alloc _, hHeld.2.alloc _⟩) (fun hHeld => ?_)
      clear hK K
      try simp only [Act.put, List.setIfInBounds_toArray, List.set_cons_zero, List.set_cons_succ, List.getElem_toArray, List.getElem_cons_succ, List.getElem_cons_zero]
      refine wpAnyH_ready (rs := [8]) (by kernel_rfl) (by simp) (AllReadyH.cons rfl (fun K hK => ?_) AllReadyH.nil)
      have HLa : Hid (LevAt B D L u1 u2 (.slice ao L.aisles.length cap) u4 u5 (wx.alloc (.cells #[.int .i64 (x.x : Nat), .int .i64 (x.y : Nat), .int .i64 (x.x2 : Nat), .int .i64 (x.y2 : Nat)] 56))) := Lib.hid (HLVx.out.keep (own := []) ((Chg.refl _ _).alloc _) (by simp) (by simp))
      have hba : B ≤ (wx.alloc (.cells #[.int .i64 (x.x : Nat), .int .i64 (x.y : Nat), .int .i64 (x.x2 : Nat), .int .i64 (x.y2 : Nat)] 56)).heap.size := by have h1 := HN.out; have h2 := (C1.out.alloc (.cells #[.int .i64 (x.x : Nat), .int .i64 (x.y : Nat), .int .i64 (x.x2 : Nat), .int .i64 (x.y2 : Nat)] 56)).size; omega
      refine step_snoc2 rfl (.tmp 8) (.tmp 11) 44 rfl 56 ii (.agg #[.int .i64 0, .int .i64 0, .int .i64 0, .int .i64 0]) 4 32 Tryd.underlying44 hii iz0 iz1 iz2 rfl (by decide) (C := Cbx) (Es := []) (.slice ao L.aisles.length cap) L.aisles.length rfl HLa.out.l3 rfl (kp_bx B) (by decide) x [.int .i64 (x.x : Nat), .int .i64 (x.y : Nat), .int .i64 (x.x2 : Nat), .int .i64 (x.y2 : Nat)] rfl rfl (by intro u hu; simp at hu; rcases hu with rfl | rfl | rfl | rfl <;> rfl) wx.heap.size rfl (Blk.new wx [.int .i64 (x.x : Nat), .int .i64 (x.y : Nat), .int .i64 (x.x2 : Nat), .int .i64 (x.y2 : Nat)] 56) (by unfold maxLen; omega) (by omega) hba ?kk
      case kk =>
        intro g8 cap8 v8 hl8 hg8 ho8 hlt8
        have HL8 := Lib.hid hl8
        have HG8 := Lib.hid hg8
        have HOW8 := Lib.hid ho8
        clear hl8 hg8 ho8 hlt8 hba
        obtain ⟨css, hc1, hc2, hrow⟩ := HLa.out.l3
        have HRW := Lib.hid hrow
        clear hc1 hc2 hrow
        have HCG : Hid (Chg (Value.ownBlock (.slice ao L.aisles.length cap)).toList (wx.alloc (.cells #[.int .i64 (x.x : Nat), .int .i64 (x.y : Nat), .int .i64 (x.x2 : Nat), .int .i64 (x.y2 : Nat)] 56)) v8) := Lib.hid ((Chg.refl _ _).grown HG8.out (fun k hk => .inl (by simp [hk])))
        have HGE : Hid (∀ k ∈ (Value.ownBlock (.slice ao L.aisles.length cap)).toList, B ≤ k) := Lib.hid (fun k hk => own_ge HRW.out k (by simpa using hk))
        have HP8 : Hid (Pp v8 b r5 en) := Lib.hid ((HPx.out.quiet ((Chg.refl [] _).alloc _)).keep HCG.out (fun k hk => by have h1 := HGE.out k hk; have h2 := HbB.out; omega))
        have HD8 : Hid (Blk v8 D [.string ⟨L.name.toArray⟩, .int .i64 (L.height : Nat), u1, u2, (.slice ao L.aisles.length cap), u4, u5, .int .i64 (L.at_ : Nat)] 47) := Lib.hid (grown_blk HLa.out.blk HG8.out HRW.out (by decide))
        have HBL8 : Hid (Blk v8 BL [.pointer (some ⟨D, 0, none⟩)] 90) := Lib.hid (grown_blk (hHeld.1) HG8.out HRW.out (by decide))
        have HBP8 : Hid (Blk v8 BP [.pointer (some ⟨b, 0, none⟩)] 67) := Lib.hid (grown_blk (hHeld.2) HG8.out HRW.out (by decide))
        obtain ⟨v9, hv9⟩ : ∃ W, W = v8.setCell ⟨D, 4, none⟩ (.slice (some ⟨g8, 0, none⟩) (L.aisles.length + 1) cap8) := ⟨_, rfl⟩
        have HLV9 : Hid (LevAt B D { L with aisles := L.aisles ++ [x] } u1 u2 (.slice (some ⟨g8, 0, none⟩) (L.aisles.length + 1) cap8) u4 u5 v9) := Lib.hid (by rw [hv9]; exact HLa.out.app3 HG8.out x HL8.out (fun k hk e => by simp only [Value.ownBlock, Option.some.injEq] at hk; rw [← hk] at e; rcases HOW8.out with h1 | h1; exact HLa.out.ne g8 h1 e; (have h2 := HLa.out.l4.below g8 e; omega)))
        have HP9 : Hid (Pp v9 b r5 en) := Lib.hid (by rw [hv9]; exact HP8.out.keep (own := [D]) ((Chg.refl _ _).setCell _ _ (.inl (by simp))) (fun k hk => by simp at hk; rw [hk]; exact HN.out.1))
        have HBL9 : Hid (Blk v9 BL [.pointer (some ⟨D, 0, none⟩)] 90) := Lib.hid (by rw [hv9]; exact HBL8.out.other _ _ NBL_D)
        have HBP9 : Hid (Blk v9 BP [.pointer (some ⟨b, 0, none⟩)] 67) := Lib.hid (by rw [hv9]; exact HBP8.out.other _ _ NBP_D)
        have HCF9 : Hid (CHF B b D w v9) := Lib.hid (fun Wb hWb hc => by rw [hv9]; exact (((hc.trans (C1.out.alloc (.cells #[.int .i64 (x.x : Nat), .int .i64 (x.y : Nat), .int .i64 (x.x2 : Nat), .int .i64 (x.y2 : Nat)] 56)) (fun k hk => .inl (by simp at hk; simp [hk]))).trans HCG.out (fun k hk => .inr (Nat.le_trans hWb (HGE.out k hk)))).setCell _ _ (.inl (by simp))))
        refine hK.out _ _ (⟨HBL8.out, HBP8.out⟩) (fun hHeld => ?_)
        clear hK K
        try simp only [Act.put, List.setIfInBounds_toArray, List.set_cons_zero, List.set_cons_succ, List.getElem_toArray, List.getElem_cons_succ, List.getElem_cons_zero]
        refine wpAnyH_take (i := 9) (v := ?vwa9) rfl (by kernel_rfl) (by kernel_rfl) (by kernel_rfl) (fun _ _ _ h => h) (Or.inl ⟨by kernel_rfl, ?hywa9⟩) (by assumption) ?rswa9
        case hywa9 => (intro w9 hSw; skip; go_simp; try with_reducible rfl)
        try simp only [Act.put, List.setIfInBounds_toArray, List.set_cons_zero, List.set_cons_succ, List.getElem_toArray, List.getElem_cons_succ, List.getElem_cons_zero]
        refine wpAnyH_take (i := 10) (v := ?vwa10) rfl (by kernel_rfl) (by kernel_rfl) (by kernel_rfl) (fun _ _ _ h => h) (Or.inl ⟨by kernel_rfl, ?hywa10⟩) (by assumption) ?rswa10
        case hywa10 => (intro w9 hSw; skip; go_simp; try with_reducible rfl)
        try simp only [Act.put, List.setIfInBounds_toArray, List.set_cons_zero, List.set_cons_succ, List.getElem_toArray, List.getElem_cons_succ, List.getElem_cons_zero]
        refine wpAnyH_ready (rs := [11]) (by kernel_rfl) (by simp) (AllReadyH.cons rfl (fun K hK => ?_) AllReadyH.nil)
        have d0 := HD8.out.cell (i := 4) rfl
        have d1 := HD8.out.free 4
        go_simp
        rw [← hv9]
        refine hK.out _ _ (⟨HBL9.out, HBP9.out⟩) (fun hHeld => ?_)
        clear hK K
        try simp only [Act.put, List.setIfInBounds_toArray, List.set_cons_zero, List.set_cons_succ, List.getElem_toArray, List.getElem_cons_succ, List.getElem_cons_zero]
        clear d0 d1 hv9
        refine wpAnyH_done (by kernel_rfl) ?_ _
        try simp only [Act.put, List.setIfInBounds_toArray, List.set_cons_zero, List.set_cons_succ, List.getElem_toArray, List.getElem_cons_succ, List.getElem_cons_zero]
        clear hHeld
        have HO1 := Lib.hid (good5 (show Pn.boxS l = (Pn.box l).bind _ from rfl) HMx.out)
        have cBP_0 := HBP9.out.cell (i := 0) rfl
        go_wp2_with fail
        clear cBP_0
        refine must_two (Lib.hid HP9.out) [59] (fun r6 w6 HM6 HP6 HC6 => ?_) (fun c r w9 HMb HCb => ?_)
        · have HO2 := Lib.hid (good5 HO1.out HM6.out)
          have HLV6 := Lib.hid (HLV9.out.keep HC6.out (by simp; exact HDb.out) (fun k hk => by simp at hk; rw [hk]; exact HbB.out))
          have HCF6 := Lib.hid (HCF9.out.then HC6.out)
          go_wp2_with fail
          refine bodyPost_end (results_none rfl _ _ _) rfl ?_
          first | exact .inl ⟨_, _, _, rfl, HO2.out, HP6.out, HLV6.out, HCF6.out⟩ | exact .inl ⟨rfl, _, _, _, HO2.out, HP6.out, HLV6.out, HCF6.out⟩ | exact .inl ⟨rfl, _, _, HO2.out, HP6.out, ⟨_, HLV6.out⟩, HCF6.out⟩
        · go_wp2_with fail
          exact ⟨rfl, .inr ⟨c, r, rfl, bad5 HO1.out HMb.out, HCF9.out.then HCb.out⟩⟩
    · have HCb : Hid (Chg [b] w w9) := Lib.hid (Chg.ofDrew HCd.out)
      exact ⟨rfl, .inr ⟨c, r, rfl, bad5 (show Pn.boxS l = (Pn.box l).bind _ from rfl) HMb.out, chf_b ((Chg.refl [b] w).trans HCb.out (fun k hk => by simp only [List.mem_cons, List.not_mem_nil, or_false] at hk; have h9 := hk; (rw [h9]; exact .inl (by simp))))⟩⟩
  · skip
    go_simp
    refine box_two (Lib.hid (Pp.quiet HP.out (Chg.refl _ _).drew)) (fun x r5 wx HMx HPx HCd => ?_) (fun c r w9 HMb HCd => ?_)
    · have HCx : Hid (Chg [b] w wx) := Lib.hid (Chg.ofDrew HCd.out)
      have HBL_1 : Hid (Blk wx BL [.pointer (some ⟨D, 0, none⟩)] 90) := Lib.hid (HCx.out.blk HBL.out (by simp [NBL_b]))
      have HBP_1 : Hid (Blk wx BP [.pointer (some ⟨b, 0, none⟩)] 67) := Lib.hid (HCx.out.blk HBP.out (by simp [NBP_b]))
      have C1 : Hid (Chg [b] w wx) := Lib.hid ((Chg.refl [b] w).trans HCx.out (fun k hk => by simp only [List.mem_cons, List.not_mem_nil, or_false] at hk; have h9 := hk; (rw [h9]; exact .inl (by simp))))
      have HLVx : Hid (LevAt B D L u1 u2 (.slice ao L.aisles.length cap) u4 u5 wx) := Lib.hid (HLV0.out.keep HCx.out (by simp; exact HDb.out) (fun k hk => by simp at hk; rw [hk]; exact HbB.out))
      refine hK.out _ _ (⟨HBL_1.out, HBP_1.out⟩) (fun hHeld => ?_)
      clear hK K
      try simp only [Act.put, List.setIfInBounds_toArray, List.set_cons_zero, List.set_cons_succ, List.getElem_toArray, List.getElem_cons_succ, List.getElem_cons_zero]
      refine wpAnyH_ready (rs := [4, 7]) (by kernel_rfl) (by simp) (AllReadyH.cons rfl (fun K hK => ?_) (AllReadyH.cons rfl (fun K hK => ?_) AllReadyH.nil))
      · skip
        have x0 := HLVx.out.blk.cell (i := 4) rfl
        go_simp
        refine hK.out _ _ (hHeld) (fun hHeld => ?_)
        clear hK K
        try simp only [Act.put, List.setIfInBounds_toArray, List.set_cons_zero, List.set_cons_succ, List.getElem_toArray, List.getElem_cons_succ, List.getElem_cons_zero]
        clear x0
        refine wpAnyH_ready (rs := [7]) (by kernel_rfl) (by simp) (AllReadyH.cons rfl (fun K hK => ?_) AllReadyH.nil)
        go_simp
        refine hK.out _ _ (⟨hHeld.1.alloc _, hHeld.2.alloc _⟩) (fun hHeld => ?_)
        clear hK K
        try simp only [Act.put, List.setIfInBounds_toArray, List.set_cons_zero, List.set_cons_succ, List.getElem_toArray, List.getElem_cons_succ, List.getElem_cons_zero]
        refine wpAnyH_ready (rs := [8]) (by kernel_rfl) (by simp) (AllReadyH.cons rfl (fun K hK => ?_) AllReadyH.nil)
        have HLa : Hid (LevAt B D L u1 u2 (.slice ao L.aisles.length cap) u4 u5 (wx.alloc (.cells #[.int .i64 (x.x : Nat), .int .i64 (x.y : Nat), .int .i64 (x.x2 : Nat), .int .i64 (x.y2 : Nat)] 56))) := Lib.hid (HLVx.out.keep (own := []) ((Chg.refl _ _).alloc _) (by simp) (by simp))
        have hba : B ≤ (wx.alloc (.cells #[.int .i64 (x.x : Nat), .int .i64 (x.y : Nat), .int .i64 (x.x2 : Nat), .int .i64 (x.y2 : Nat)] 56)).heap.size := by have h1 := HN.out; have h2 := (C1.out.alloc (.cells #[.int .i64 (x.x : Nat), .int .i64 (x.y : Nat), .int .i64 (x.x2 : Nat), .int .i64 (x.y2 : Nat)] 56)).size; omega
        refine step_snoc2 rfl (.tmp 8) (.tmp 11) 44 rfl 56 ii (.agg #[.int .i64 0, .int .i64 0, .int .i64 0, .int .i64 0]) 4 32 Tryd.underlying44 hii iz0 iz1 iz2 rfl (by decide) (C := Cbx) (Es := []) (.slice ao L.aisles.length cap) L.aisles.length rfl HLa.out.l3 rfl (kp_bx B) (by decide) x [.int .i64 (x.x : Nat), .int .i64 (x.y : Nat), .int .i64 (x.x2 : Nat), .int .i64 (x.y2 : Nat)] rfl rfl (by intro u hu; simp at hu; rcases hu with rfl | rfl | rfl | rfl <;> rfl) wx.heap.size rfl (Blk.new wx [.int .i64 (x.x : Nat), .int .i64 (x.y : Nat), .int .i64 (x.x2 : Nat), .int .i64 (x.y2 : Nat)] 56) (by unfold maxLen; omega) (by omega) hba ?kk
        case kk =>
          intro g8 cap8 v8 hl8 hg8 ho8 hlt8
          have HL8 := Lib.hid hl8
          have HG8 := Lib.hid hg8
          have HOW8 := Lib.hid ho8
          clear hl8 hg8 ho8 hlt8 hba
          obtain ⟨css, hc1, hc2, hrow⟩ := HLa.out.l3
          have HRW := Lib.hid hrow
          clear hc1 hc2 hrow
          have HCG : Hid (Chg (Value.ownBlock (.slice ao L.aisles.length cap)).toList (wx.alloc (.cells #[.int .i64 (x.x : Nat), .int .i64 (x.y : Nat), .int .i64 (x.x2 : Nat), .int .i64 (x.y2 : Nat)] 56)) v8) := Lib.hid ((Chg.refl _ _).grown HG8.out (fun k hk => .inl (by simp [hk])))
          have HGE : Hid (∀ k ∈ (Value.ownBlock (.slice ao L.aisles.length cap)).toList, B ≤ k) := Lib.hid (fun k hk => own_ge HRW.out k (by simpa using hk))
          have HP8 : Hid (Pp v8 b r5 en) := Lib.hid ((HPx.out.quiet ((Chg.refl [] _).alloc _)).keep HCG.out (fun k hk => by have h1 := HGE.out k hk; have h2 := HbB.out; omega))
          have HD8 : Hid (Blk v8 D [.string ⟨L.name.toArray⟩, .int .i64 (L.height : Nat), u1, u2, (.slice ao L.aisles.length cap), u4, u5, .int .i64 (L.at_ : Nat)] 47) := Lib.hid (grown_blk HLa.out.blk HG8.out HRW.out (by decide))
          have HBL8 : Hid (Blk v8 BL [.pointer (some ⟨D, 0, none⟩)] 90) := Lib.hid (grown_blk (hHeld.1) HG8.out HRW.out (by decide))
          have HBP8 : Hid (Blk v8 BP [.pointer (some ⟨b, 0, none⟩)] 67) := Lib.hid (grown_blk (hHeld.2) HG8.out HRW.out (by decide))
          obtain ⟨v9, hv9⟩ : ∃ W, W = v8.setCell ⟨D, 4, none⟩ (.slice (some ⟨g8, 0, none⟩) (L.aisles.length + 1) cap8) := ⟨_, rfl⟩
          have HLV9 : Hid (LevAt B D { L with aisles := L.aisles ++ [x] } u1 u2 (.slice (some ⟨g8, 0, none⟩) (L.aisles.length + 1) cap8) u4 u5 v9) := Lib.hid (by rw [hv9]; exact HLa.out.app3 HG8.out x HL8.out (fun k hk e => by simp only [Value.ownBlock, Option.some.injEq] at hk; rw [← hk] at e; rcases HOW8.out with h1 | h1; exact HLa.out.ne g8 h1 e; (have h2 := HLa.out.l4.below g8 e; omega)))
          have HP9 : Hid (Pp v9 b r5 en) := Lib.hid (by rw [hv9]; exact HP8.out.keep (own := [D]) ((Chg.refl _ _).setCell _ _ (.inl (by simp))) (fun k hk => by simp at hk; rw [hk]; exact HN.out.1))
          have HBL9 : Hid (Blk v9 BL [.pointer (some ⟨D, 0, none⟩)] 90) := Lib.hid (by rw [hv9]; exact HBL8.out.other _ _ NBL_D)
          have HBP9 : Hid (Blk v9 BP [.pointer (some ⟨b, 0, none⟩)] 67) := Lib.hid (by rw [hv9]; exact HBP8.out.other _ _ NBP_D)
          have HCF9 : Hid (CHF B b D w v9) := Lib.hid (fun Wb hWb hc => by rw [hv9]; exact (((hc.trans (C1.out.alloc (.cells #[.int .i64 (x.x : Nat), .int .i64 (x.y : Nat), .int .i64 (x.x2 : Nat), .int .i64 (x.y2 : Nat)] 56)) (fun k hk => .inl (by simp at hk; simp [hk]))).trans HCG.out (fun k hk => .inr (Nat.le_trans hWb (HGE.out k hk)))).setCell _ _ (.inl (by simp))))
          refine hK.out _ _ (⟨HBL8.out, HBP8.out⟩) (fun hHeld => ?_)
          clear hK K
          try simp only [Act.put, List.setIfInBounds_toArray, List.set_cons_zero, List.set_cons_succ, List.getElem_toArray, List.getElem_cons_succ, List.getElem_cons_zero]
          refine wpAnyH_take (i := 9) (v := ?vwb9) rfl (by kernel_rfl) (by kernel_rfl) (by kernel_rfl) (fun _ _ _ h => h) (Or.inl ⟨by kernel_rfl, ?hywb9⟩) (by assumption) ?rswb9
          case hywb9 => (intro w9 hSw; skip; go_simp; try with_reducible rfl)
          try simp only [Act.put, List.setIfInBounds_toArray, List.set_cons_zero, List.set_cons_succ, List.getElem_toArray, List.getElem_cons_succ, List.getElem_cons_zero]
          refine wpAnyH_take (i := 10) (v := ?vwb10) rfl (by kernel_rfl) (by kernel_rfl) (by kernel_rfl) (fun _ _ _ h => h) (Or.inl ⟨by kernel_rfl, ?hywb10⟩) (by assumption) ?rswb10
          case hywb10 => (intro w9 hSw; skip; go_simp; try with_reducible rfl)
          try simp only [Act.put, List.setIfInBounds_toArray, List.set_cons_zero, List.set_cons_succ, List.getElem_toArray, List.getElem_cons_succ, List.getElem_cons_zero]
          refine wpAnyH_ready (rs := [11]) (by kernel_rfl) (by simp) (AllReadyH.cons rfl (fun K hK => ?_) AllReadyH.nil)
          have d0 := HD8.out.cell (i := 4) rfl
          have d1 := HD8.out.free 4
          go_simp
          rw [← hv9]
          refine hK.out _ _ (⟨HBL9.out, HBP9.out⟩) (fun hHeld => ?_)
          clear hK K
          try simp only [Act.put, List.setIfInBounds_toArray, List.set_cons_zero, List.set_cons_succ, List.getElem_toArray, List.getElem_cons_succ, List.getElem_cons_zero]
          clear d0 d1 hv9
          refine wpAnyH_done (by kernel_rfl) ?_ _
          try simp only [Act.put, List.setIfInBounds_toArray, List.set_cons_zero, List.set_cons_succ, List.getElem_toArray, List.getElem_cons_succ, List.getElem_cons_zero]
          clear hHeld
          have HO1 := Lib.hid (good5 (show Pn.boxS l = (Pn.box l).bind _ from rfl) HMx.out)
          have cBP_0 := HBP9.out.cell (i := 0) rfl
          go_wp2_with fail
          clear cBP_0
          refine must_two (Lib.hid HP9.out) [59] (fun r6 w6 HM6 HP6 HC6 => ?_) (fun c r w9 HMb HCb => ?_)
          · have HO2 := Lib.hid (good5 HO1.out HM6.out)
            have HLV6 := Lib.hid (HLV9.out.keep HC6.out (by simp; exact HDb.out) (fun k hk => by simp at hk; rw [hk]; exact HbB.out))
            have HCF6 := Lib.hid (HCF9.out.then HC6.out)
            go_wp2_with fail
            refine bodyPost_end (results_none rfl _ _ _) rfl ?_
            first | exact .inl ⟨_, _, _, rfl, HO2.out, HP6.out, HLV6.out, HCF6.out⟩ | exact .inl ⟨rfl, _, _, _, HO2.out, HP6.out, HLV6.out, HCF6.out⟩ | exact .inl ⟨rfl, _, _, HO2.out, HP6.out, ⟨_, HLV6.out⟩, HCF6.out⟩
          · go_wp2_with fail
            exact ⟨rfl, .inr ⟨c, r, rfl, bad5 HO1.out HMb.out, HCF9.out.then HCb.out⟩⟩
      · skip
        go_simp
        refine hK.out _ _ (⟨hHeld.1.alloc _, hHeld.2.alloc _⟩) (fun hHeld => ?_)
        clear hK K
        try simp only [Act.put, List.setIfInBounds_toArray, List.set_cons_zero, List.set_cons_succ, List.getElem_toArray, List.getElem_cons_succ, List.getElem_cons_zero]
        refine wpAnyH_ready (rs := [4]) (by kernel_rfl) (by simp) (AllReadyH.cons rfl (fun K hK => ?_) AllReadyH.nil)
        have x0 := (HLVx.out.blk.alloc (.cells #[.int .i64 (x.x : Nat), .int .i64 (x.y : Nat), .int .i64 (x.x2 : Nat), .int .i64 (x.y2 : Nat)] 56)).cell (i := 4) rfl
        go_simp
        refine hK.out _ _ (hHeld) (fun hHeld => ?_)
        clear hK K
        try simp only [Act.put, List.setIfInBounds_toArray, List.set_cons_zero, List.set_cons_succ, List.getElem_toArray, List.getElem_cons_succ, List.getElem_cons_zero]
        clear x0
        refine wpAnyH_ready (rs := [8]) (by kernel_rfl) (by simp) (AllReadyH.cons rfl (fun K hK => ?_) AllReadyH.nil)
        have HLa : Hid (LevAt B D L u1 u2 (.slice ao L.aisles.length cap) u4 u5 (wx.alloc (.cells #[.int .i64 (x.x : Nat), .int .i64 (x.y : Nat), .int .i64 (x.x2 : Nat), .int .i64 (x.y2 : Nat)] 56))) := Lib.hid (HLVx.out.keep (own := []) ((Chg.refl _ _).alloc _) (by simp) (by simp))
        have hba : B ≤ (wx.alloc (.cells #[.int .i64 (x.x : Nat), .int .i64 (x.y : Nat), .int .i64 (x.x2 : Nat), .int .i64 (x.y2 : Nat)] 56)).heap.size := by have h1 := HN.out; have h2 := (C1.out.alloc (.cells #[.int .i64 (x.x : Nat), .int .i64 (x.y : Nat), .int .i64 (x.x2 : Nat), .int .i64 (x.y2 : Nat)] 56)).size; omega
        refine step_snoc2 rfl (.tmp 8) (.tmp 11) 44 rfl 56 ii (.agg #[.int .i64 0, .int .i64 0, .int .i64 0, .int .i64 0]) 4 32 Tryd.underlying44 hii iz0 iz1 iz2 rfl (by decide) (C := Cbx) (Es := []) (.slice ao L.aisles.length cap) L.aisles.length rfl HLa.out.l3 rfl (kp_bx B) (by decide) x [.int .i64 (x.x : Nat), .int .i64 (x.y : Nat), .int .i64 (x.x2 : Nat), .int .i64 (x.y2 : Nat)] rfl rfl (by intro u hu; simp at hu; rcases hu with rfl | rfl | rfl | rfl <;> rfl) wx.heap.size rfl (Blk.new wx [.int .i64 (x.x : Nat), .int .i64 (x.y : Nat), .int .i64 (x.x2 : Nat), .int .i64 (x.y2 : Nat)] 56) (by unfold maxLen; omega) (by omega) hba ?kk
        case kk =>
          intro g8 cap8 v8 hl8 hg8 ho8 hlt8
          have HL8 := Lib.hid hl8
          have HG8 := Lib.hid hg8
          have HOW8 := Lib.hid ho8
          clear hl8 hg8 ho8 hlt8 hba
          obtain ⟨css, hc1, hc2, hrow⟩ := HLa.out.l3
          have HRW := Lib.hid hrow
          clear hc1 hc2 hrow
          have HCG : Hid (Chg (Value.ownBlock (.slice ao L.aisles.length cap)).toList (wx.alloc (.cells #[.int .i64 (x.x : Nat), .int .i64 (x.y : Nat), .int .i64 (x.x2 : Nat), .int .i64 (x.y2 : Nat)] 56)) v8) := Lib.hid ((Chg.refl _ _).grown HG8.out (fun k hk => .inl (by simp [hk])))
          have HGE : Hid (∀ k ∈ (Value.ownBlock (.slice ao L.aisles.length cap)).toList, B ≤ k) := Lib.hid (fun k hk => own_ge HRW.out k (by simpa using hk))
          have HP8 : Hid (Pp v8 b r5 en) := Lib.hid ((HPx.out.quiet ((Chg.refl [] _).alloc _)).keep HCG.out (fun k hk => by have h1 := HGE.out k hk; have h2 := HbB.out; omega))
          have HD8 : Hid (Blk v8 D [.string ⟨L.name.toArray⟩, .int .i64 (L.height : Nat), u1, u2, (.slice ao L.aisles.length cap), u4, u5, .int .i64 (L.at_ : Nat)] 47) := Lib.hid (grown_blk HLa.out.blk HG8.out HRW.out (by decide))
          have HBL8 : Hid (Blk v8 BL [.pointer (some ⟨D, 0, none⟩)] 90) := Lib.hid (grown_blk (hHeld.1) HG8.out HRW.out (by decide))
          have HBP8 : Hid (Blk v8 BP [.pointer (some ⟨b, 0, none⟩)] 67) := Lib.hid (grown_blk (hHeld.2) HG8.out HRW.out (by decide))
          obtain ⟨v9, hv9⟩ : ∃ W, W = v8.setCell ⟨D, 4, none⟩ (.slice (some ⟨g8, 0, none⟩) (L.aisles.length + 1) cap8) := ⟨_, rfl⟩
          have HLV9 : Hid (LevAt B D { L with aisles := L.aisles ++ [x] } u1 u2 (.slice (some ⟨g8, 0, none⟩) (L.aisles.length + 1) cap8) u4 u5 v9) := Lib.hid (by rw [hv9]; exact HLa.out.app3 HG8.out x HL8.out (fun k hk e => by simp only [Value.ownBlock, Option.some.injEq] at hk; rw [← hk] at e; rcases HOW8.out with h1 | h1; exact HLa.out.ne g8 h1 e; (have h2 := HLa.out.l4.below g8 e; omega)))
          have HP9 : Hid (Pp v9 b r5 en) := Lib.hid (by rw [hv9]; exact HP8.out.keep (own := [D]) ((Chg.refl _ _).setCell _ _ (.inl (by simp))) (fun k hk => by simp at hk; rw [hk]; exact HN.out.1))
          have HBL9 : Hid (Blk v9 BL [.pointer (some ⟨D, 0, none⟩)] 90) := Lib.hid (by rw [hv9]; exact HBL8.out.other _ _ NBL_D)
          have HBP9 : Hid (Blk v9 BP [.pointer (some ⟨b, 0, none⟩)] 67) := Lib.hid (by rw [hv9]; exact HBP8.out.other _ _ NBP_D)
          have HCF9 : Hid (CHF B b D w v9) := Lib.hid (fun Wb hWb hc => by rw [hv9]; exact (((hc.trans (C1.out.alloc (.cells #[.int .i64 (x.x : Nat), .int .i64 (x.y : Nat), .int .i64 (x.x2 : Nat), .int .i64 (x.y2 : Nat)] 56)) (fun k hk => .inl (by simp at hk; simp [hk]))).trans HCG.out (fun k hk => .inr (Nat.le_trans hWb (HGE.out k hk)))).setCell _ _ (.inl (by simp))))
          refine hK.out _ _ (⟨HBL8.out, HBP8.out⟩) (fun hHeld => ?_)
          clear hK K
          try simp only [Act.put, List.setIfInBounds_toArray, List.set_cons_zero, List.set_cons_succ, List.getElem_toArray, List.getElem_cons_succ, List.getElem_cons_zero]
          refine wpAnyH_take (i := 9) (v := ?vwc9) rfl (by kernel_rfl) (by kernel_rfl) (by kernel_rfl) (fun _ _ _ h => h) (Or.inl ⟨by kernel_rfl, ?hywc9⟩) (by assumption) ?rswc9
          case hywc9 => (intro w9 hSw; skip; go_simp; try with_reducible rfl)
          try simp only [Act.put, List.setIfInBounds_toArray, List.set_cons_zero, List.set_cons_succ, List.getElem_toArray, List.getElem_cons_succ, List.getElem_cons_zero]
          refine wpAnyH_take (i := 10) (v := ?vwc10) rfl (by kernel_rfl) (by kernel_rfl) (by kernel_rfl) (fun _ _ _ h => h) (Or.inl ⟨by kernel_rfl, ?hywc10⟩) (by assumption) ?rswc10
          case hywc10 => (intro w9 hSw; skip; go_simp; try with_reducible rfl)
          try simp only [Act.put, List.setIfInBounds_toArray, List.set_cons_zero, List.set_cons_succ, List.getElem_toArray, List.getElem_cons_succ, List.getElem_cons_zero]
          refine wpAnyH_ready (rs := [11]) (by kernel_rfl) (by simp) (AllReadyH.cons rfl (fun K hK => ?_) AllReadyH.nil)
          have d0 := HD8.out.cell (i := 4) rfl
          have d1 := HD8.out.free 4
          go_simp
          rw [← hv9]
          refine hK.out _ _ (⟨HBL9.out, HBP9.out⟩) (fun hHeld => ?_)
          clear hK K
          try simp only [Act.put, List.setIfInBounds_toArray, List.set_cons_zero, List.set_cons_succ, List.getElem_toArray, List.getElem_cons_succ, List.getElem_cons_zero]
          clear d0 d1 hv9
          refine wpAnyH_done (by kernel_rfl) ?_ _
          try simp only [Act.put, List.setIfInBounds_toArray, List.set_cons_zero, List.set_cons_succ, List.getElem_toArray, List.getElem_cons_succ, List.getElem_cons_zero]
          clear hHeld
          have HO1 := Lib.hid (good5 (show Pn.boxS l = (Pn.box l).bind _ from rfl) HMx.out)
          have cBP_0 := HBP9.out.cell (i := 0) rfl
          go_wp2_with fail
          clear cBP_0
          refine must_two (Lib.hid HP9.out) [59] (fun r6 w6 HM6 HP6 HC6 => ?_) (fun c r w9 HMb HCb => ?_)
          · have HO2 := Lib.hid (good5 HO1.out HM6.out)
            have HLV6 := Lib.hid (HLV9.out.keep HC6.out (by simp; exact HDb.out) (fun k hk => by simp at hk; rw [hk]; exact HbB.out))
            have HCF6 := Lib.hid (HCF9.out.then HC6.out)
            go_wp2_with fail
            refine bodyPost_end (results_none rfl _ _ _) rfl ?_
            first | exact .inl ⟨_, _, _, rfl, HO2.out, HP6.out, HLV6.out, HCF6.out⟩ | exact .inl ⟨rfl, _, _, _, HO2.out, HP6.out, HLV6.out, HCF6.out⟩ | exact .inl ⟨rfl, _, _, HO2.out, HP6.out, ⟨_, HLV6.out⟩, HCF6.out⟩
          · go_wp2_with fail
            exact ⟨rfl, .inr ⟨c, r, rfl, bad5 HO1.out HMb.out, HCF9.out.then HCb.out⟩⟩
    · have HCb : Hid (Chg [b] w w9) := Lib.hid (Chg.ofDrew HCd.out)
      exact ⟨rfl, .inr ⟨c, r, rfl, bad5 (show Pn.boxS l = (Pn.box l).bind _ from rfl) HMb.out, chf_b ((Chg.refl [b] w).trans HCb.out (fun k hk => by simp only [List.mem_cons, List.not_mem_nil, or_false] at hk; have h9 := hk; (rw [h9]; exact .inl (by simp))))⟩⟩
set_option maxHeartbeats 4000000 in
set_option maxRecDepth 100000 in
theorem it4_spec (w : World) (b en BL BP D B : Nat) (l : List Tk) (L : Pn.Lv) (u1 u2 u3 u4 u5 : Value) (HP : Hid (Pp w b l en)) (HLV : Hid (LevAt B D L u1 u2 u3 u4 u5 w)) (HBL : Hid (Blk w BL [.pointer (some ⟨D, 0, none⟩)] 90)) (HBP : Hid (Blk w BP [.pointer (some ⟨b, 0, none⟩)] 67))
    (HN : Hid (b < D ∧ D < BP ∧ BP < BL ∧ BL < B ∧ B ≤ w.heap.size)) (HS : Hid (L.pillars.length ≤ 1000000)) (at_ : Nat) :
    Calls Tryd.prog 52 #[.int .i64 (at_ : Nat), .pointer (some ⟨BL, 0, none⟩), .pointer (some ⟨BP, 0, none⟩)] w fun e w' =>
      (∃ x r v, e = .returned (.tuple #[]) ∧ Pn.boxS l = .ok x r ∧ Pp w' b r en ∧ LevAt B D { L with pillars := L.pillars ++ [x] } u1 u2 u3 v u5 w' ∧ CHF B b D w w') ∨ (∃ c r, e = .panicked [{ v := flt c r en, recovered := false }] ∧ Pn.boxS l = .bad c r ∧ CHF B b D w w') := by
  obtain ⟨ii, hii, iz0, iz1, iz2⟩ := info_parts info_it4
  obtain ⟨ao, cap, hu⟩ := HLV.out.l4.form
  subst hu
  have HBW : Hid (b < w.heap.size) := Lib.hid HP.out.lt
  have HOBL : Hid (BL < w.heap.size) := Lib.hid HBL.out.lt
  have HOBP : Hid (BP < w.heap.size) := Lib.hid HBP.out.lt
  have BBL : Hid (b < BL) := Lib.hid (by have := HN.out; omega)
  have BBP : Hid (b < BP) := Lib.hid (by have := HN.out; omega)
  have NBL_b : BL ≠ b := by have := HN.out; omega
  have NBP_b : BP ≠ b := by have := HN.out; omega
  have NBL_D : BL ≠ D := by have := HN.out; omega
  have NBP_D : BP ≠ D := by have := HN.out; omega
  have HDb : Hid (D ≠ b) := Lib.hid (by have := HN.out; omega)
  have HbB : Hid (b < B) := Lib.hid (by have := HN.out; omega)
  have hsl := HS.out
  go_enter Tryd.func52, Tryd.ntmps52
  go_upto_region 0 with fail
  have HLV0 : Hid (LevAt B D L u1 u2 u3 (.slice ao L.pillars.length cap) u5 w) := Lib.hid (HLV.out.keep (own := [b]) (Chg.refl [b] w) (by simp; exact HDb.out) (fun k hk => by simp at hk; rw [hk]; exact HbB.out))
  refine wp_region_held_drew (S := fun W' => Blk W' BL [.pointer (some ⟨D, 0, none⟩)] 90 ∧ Blk W' BP [.pointer (some ⟨b, 0, none⟩)] 67) (by kernel_rfl) ⟨HBL.out.drew, HBP.out.drew⟩ (fun hHeld => ?_)
  refine wpAnyH_take (i := 0) (v := ?vr0) rfl (by kernel_rfl) (by kernel_rfl) (by kernel_rfl) (fun _ _ _ h => h) (Or.inl ⟨by kernel_rfl, ?hyr0⟩) (by assumption) ?rsr0
  case hyr0 => (intro w9 hSw; have e0 := hSw.1.cell (i := 0) rfl; go_simp; try with_reducible rfl)
  try simp only [Act.put, List.setIfInBounds_toArray, List.set_cons_zero, List.set_cons_succ, List.getElem_toArray, List.getElem_cons_succ, List.getElem_cons_zero]
  refine wpAnyH_take (i := 1) (v := ?vr1) rfl (by kernel_rfl) (by kernel_rfl) (by kernel_rfl) (fun _ _ _ h => h) (Or.inl ⟨by kernel_rfl, ?hyr1⟩) (by assumption) ?rsr1
  case hyr1 => (intro w9 hSw; have e0 := hSw.1.cell (i := 0) rfl; go_simp; try with_reducible rfl)
  try simp only [Act.put, List.setIfInBounds_toArray, List.set_cons_zero, List.set_cons_succ, List.getElem_toArray, List.getElem_cons_succ, List.getElem_cons_zero]
  refine wpAnyH_take (i := 2) (v := ?vr2) rfl (by kernel_rfl) (by kernel_rfl) (by kernel_rfl) (fun _ _ _ h => h) (Or.inl ⟨by kernel_rfl, ?hyr2⟩) (by assumption) ?rsr2
  case hyr2 => (intro w9 hSw; skip; go_simp; try with_reducible rfl)
  try simp only [Act.put, List.setIfInBounds_toArray, List.set_cons_zero, List.set_cons_succ, List.getElem_toArray, List.getElem_cons_succ, List.getElem_cons_zero]
  refine wpAnyH_take (i := 3) (v := ?vr3) rfl (by kernel_rfl) (by kernel_rfl) (by kernel_rfl) (fun _ _ _ h => h) (Or.inl ⟨by kernel_rfl, ?hyr3⟩) (by assumption) ?rsr3
  case hyr3 => (intro w9 hSw; skip; go_simp; try with_reducible rfl)
  try simp only [Act.put, List.setIfInBounds_toArray, List.set_cons_zero, List.set_cons_succ, List.getElem_toArray, List.getElem_cons_succ, List.getElem_cons_zero]
  refine wpAnyH_take (i := 5) (v := ?vr5) rfl (by kernel_rfl) (by kernel_rfl) (by kernel_rfl) (fun _ _ _ h => h) (Or.inl ⟨by kernel_rfl, ?hyr5⟩) (by assumption) ?rsr5
  case hyr5 => (intro w9 hSw; have e0 := hSw.2.cell (i := 0) rfl; go_simp; try with_reducible rfl)
  try simp only [Act.put, List.setIfInBounds_toArray, List.set_cons_zero, List.set_cons_succ, List.getElem_toArray, List.getElem_cons_succ, List.getElem_cons_zero]
  refine wpAnyH_ready (rs := [4, 6]) (by kernel_rfl) (by simp) (AllReadyH.cons rfl (fun K hK => ?_) (AllReadyH.cons rfl (fun K hK => ?_) AllReadyH.nil))
  · skip
    have x0 := (HLV0.out.blk.drew).cell (i := 5) rfl
    go_simp
    refine hK.out _ _ (hHeld) (fun hHeld => ?_)
    clear hK K
    try simp only [Act.put, List.setIfInBounds_toArray, List.set_cons_zero, List.set_cons_succ, List.getElem_toArray, List.getElem_cons_succ, List.getElem_cons_zero]
    clear x0
    refine wpAnyH_ready (rs := [6]) (by kernel_rfl) (by simp) (AllReadyH.cons rfl (fun K hK => ?_) AllReadyH.nil)
    go_simp
    refine box_two (Lib.hid (Pp.quiet HP.out (Chg.refl _ _).drew)) (fun x r5 wx HMx HPx HCd => ?_) (fun c r w9 HMb HCd => ?_)
    · have HCx : Hid (Chg [b] w wx) := Lib.hid (Chg.ofDrew HCd.out)
      have HBL_1 : Hid (Blk wx BL [.pointer (some ⟨D, 0, none⟩)] 90) := Lib.hid (HCx.out.blk HBL.out (by simp [NBL_b]))
      have HBP_1 : Hid (Blk wx BP [.pointer (some ⟨b, 0, none⟩)] 67) := Lib.hid (HCx.out.blk HBP.out (by simp [NBP_b]))
      have C1 : Hid (Chg [b] w wx) := Lib.hid ((Chg.refl [b] w).trans HCx.out (fun k hk => by simp only [List.mem_cons, List.not_mem_nil, or_false] at hk; have h9 := hk; (rw [h9]; exact .inl (by simp))))
      have HLVx : Hid (LevAt B D L u1 u2 u3 (.slice ao L.pillars.length cap) u5 wx) := Lib.hid (HLV0.out.keep HCx.out (by simp; exact HDb.out) (fun k hk => by simp at hk; rw [hk]; exact HbB.out))
      refine hK.out _ _ (⟨HBL_1.out, HBP_1.out⟩) (fun hHeld => ?_)
      clear hK K
      try simp only [Act.put, List.setIfInBounds_toArray, List.set_cons_zero, List.set_cons_succ, List.getElem_toArray, List.getElem_cons_succ, List.getElem_cons_zero]
      refine wpAnyH_ready (rs := [7]) (by kernel_rfl) (by simp) (AllReadyH.cons rfl (fun K hK => ?_) AllReadyH.nil)
      go_simp
      refine hK.out _ _ (⟨hHeld.1.alloc _, hHeld.2.alloc _⟩) (fun hHeld => ?_)
      clear hK K
      try simp only [Act.put, List.setIfInBounds_toArray, List.set_cons_zero, List.set_cons_succ, List.getElem_toArray, List.getElem_cons_succ, List.getElem_cons_zero]
      refine wpAnyH_ready (rs := [8]) (by kernel_rfl) (by simp) (AllReadyH.cons rfl (fun K hK => ?_) AllReadyH.nil)
      have HLa : Hid (LevAt B D L u1 u2 u3 (.slice ao L.pillars.length cap) u5 (wx.alloc (.cells #[.int .i64 (x.x : Nat), .int .i64 (x.y : Nat), .int .i64 (x.x2 : Nat), .int .i64 (x.y2 : Nat)] 56))) := Lib.hid (HLVx.out.keep (own := []) ((Chg.refl _ _).alloc _) (by simp) (by simp))
      have hba : B ≤ (wx.alloc (.cells #[.int .i64 (x.x : Nat), .int .i64 (x.y : Nat), .int .i64 (x.x2 : Nat), .int .i64 (x.y2 : Nat)] 56)).heap.size := by have h1 := HN.out; have h2 := (C1.out.alloc (.cells #[.int .i64 (x.x : Nat), .int .i64 (x.y : Nat), .int .i64 (x.x2 : Nat), .int .i64 (x.y2 : Nat)] 56)).size; omega
      refine step_snoc2 rfl (.tmp 8) (.tmp 11) 44 rfl 56 ii (.agg #[.int .i64 0, .int .i64 0, .int .i64 0, .int .i64 0]) 4 32 Tryd.underlying44 hii iz0 iz1 iz2 rfl (by decide) (C := Cbx) (Es := []) (.slice ao L.pillars.length cap) L.pillars.length rfl HLa.out.l4 rfl (kp_bx B) (by decide) x [.int .i64 (x.x : Nat), .int .i64 (x.y : Nat), .int .i64 (x.x2 : Nat), .int .i64 (x.y2 : Nat)] rfl rfl (by intro u hu; simp at hu; rcases hu with rfl | rfl | rfl | rfl <;> rfl) wx.heap.size rfl (Blk.new wx [.int .i64 (x.x : Nat), .int .i64 (x.y : Nat), .int .i64 (x.x2 : Nat), .int .i64 (x.y2 : Nat)] 56) (by unfold maxLen; omega) (by omega) hba ?kk
      case kk =>
        intro g8 cap8 v8 hl8 hg8 ho8 hlt8
        have HL8 := Lib.hid hl8
        have HG8 := Lib.hid hg8
        have HOW8 := Lib.hid ho8
        clear hl8 hg8 ho8 hlt8 hba
        obtain ⟨css, hc1, hc2, hrow⟩ := HLa.out.l4
        have HRW := Lib.hid hrow
        clear hc1 hc2 hrow
        have HCG : Hid (Chg (Value.ownBlock (.slice ao L.pillars.length cap)).toList (wx.alloc (.cells #[.int .i64 (x.x : Nat), .int .i64 (x.y : Nat), .int .i64 (x.x2 : Nat), .int .i64 (x.y2 : Nat)] 56)) v8) := Lib.hid ((Chg.refl _ _).grown HG8.out (fun k hk => .inl (by simp [hk])))
        have HGE : Hid (∀ k ∈ (Value.ownBlock (.slice ao L.pillars.length cap)).toList, B ≤ k) := Lib.hid (fun k hk => own_ge HRW.out k (by simpa using hk))
        have HP8 : Hid (Pp v8 b r5 en) := Lib.hid ((HPx.out.quiet ((Chg.refl [] _).alloc _)).keep HCG.out (fun k hk => by have h1 := HGE.out k hk; have h2 := HbB.out; omega))
        have HD8 : Hid (Blk v8 D [.string ⟨L.name.toArray⟩, .int .i64 (L.height : Nat), u1, u2, u3, (.slice ao L.pillars.length cap), u5, .int .i64 (L.at_ : Nat)] 47) := Lib.hid (grown_blk HLa.out.blk HG8.out HRW.out (by decide))
        have HBL8 : Hid (Blk v8 BL [.pointer (some ⟨D, 0, none⟩)] 90) := Lib.hid (grown_blk (hHeld.1) HG8.out HRW.out (by decide))
        have HBP8 : Hid (Blk v8 BP [.pointer (some ⟨b, 0, none⟩)] 67) := Lib.hid (grown_blk (hHeld.2) HG8.out HRW.out (by decide))
        obtain ⟨v9, hv9⟩ : ∃ W, W = v8.setCell ⟨D, 5, none⟩ (.slice (some ⟨g8, 0, none⟩) (L.pillars.length + 1) cap8) := ⟨_, rfl⟩
        have HLV9 : Hid (LevAt B D { L with pillars := L.pillars ++ [x] } u1 u2 u3 (.slice (some ⟨g8, 0, none⟩) (L.pillars.length + 1) cap8) u5 v9) := Lib.hid (by rw [hv9]; exact HLa.out.app4 HG8.out x HL8.out (fun k hk e => by simp only [Value.ownBlock, Option.some.injEq] at e; rw [← e] at hk; rcases HOW8.out with h1 | h1; exact HLa.out.ne g8 hk h1; (have h2 := HLa.out.l3.below g8 hk; omega)))
        have HP9 : Hid (Pp v9 b r5 en) := Lib.hid (by rw [hv9]; exact HP8.out.keep (own := [D]) ((Chg.refl _ _).setCell _ _ (.inl (by simp))) (fun k hk => by simp at hk; rw [hk]; exact HN.out.1))
        have HBL9 : Hid (Blk v9 BL [.pointer (some ⟨D, 0, none⟩)] 90) := Lib.hid (by rw [hv9]; exact HBL8.out.other _ _ NBL_D)
        have HBP9 : Hid (Blk v9 BP [.pointer (some ⟨b, 0, none⟩)] 67) := Lib.hid (by rw [hv9]; exact HBP8.out.other _ _ NBP_D)
        have HCF9 : Hid (CHF B b D w v9) := Lib.hid (fun Wb hWb hc => by rw [hv9]; exact (((hc.trans (C1.out.alloc (.cells #[.int .i64 (x.x : Nat), .int .i64 (x.y : Nat), .int .i64 (x.x2 : Nat), .int .i64 (x.y2 : Nat)] 56)) (fun k hk => .inl (by simp at hk; simp [hk]))).trans HCG.out (fun k hk => .inr (Nat.le_trans hWb (HGE.out k hk)))).setCell _ _ (.inl (by simp))))
        refine hK.out _ _ (⟨HBL8.out, HBP8.out⟩) (fun hHeld => ?_)
        clear hK K
        try simp only [Act.put, List.setIfInBounds_toArray, List.set_cons_zero, List.set_cons_succ, List.getElem_toArray, List.getElem_cons_succ, List.getElem_cons_zero]
        refine wpAnyH_take (i := 9) (v := ?vwa9) rfl (by kernel_rfl) (by kernel_rfl) (by kernel_rfl) (fun _ _ _ h => h) (Or.inl ⟨by kernel_rfl, ?hywa9⟩) (by assumption) ?rswa9
        case hywa9 => (intro w9 hSw; skip; go_simp; try with_reducible rfl)
        try simp only [Act.put, List.setIfInBounds_toArray, List.set_cons_zero, List.set_cons_succ, List.getElem_toArray, List.getElem_cons_succ, List.getElem_cons_zero]
        refine wpAnyH_take (i := 10) (v := ?vwa10) rfl (by kernel_rfl) (by kernel_rfl) (by kernel_rfl) (fun _ _ _ h => h) (Or.inl ⟨by kernel_rfl, ?hywa10⟩) (by assumption) ?rswa10
        case hywa10 => (intro w9 hSw; skip; go_simp; try with_reducible rfl)
        try simp only [Act.put, List.setIfInBounds_toArray, List.set_cons_zero, List.set_cons_succ, List.getElem_toArray, List.getElem_cons_succ, List.getElem_cons_zero]
        refine wpAnyH_ready (rs := [11]) (by kernel_rfl) (by simp) (AllReadyH.cons rfl (fun K hK => ?_) AllReadyH.nil)
        have d0 := HD8.out.cell (i := 5) rfl
        have d1 := HD8.out.free 5
        go_simp
        rw [← hv9]
        refine hK.out _ _ (⟨HBL9.out, HBP9.out⟩) (fun hHeld => ?_)
        clear hK K
        try simp only [Act.put, List.setIfInBounds_toArray, List.set_cons_zero, List.set_cons_succ, List.getElem_toArray, List.getElem_cons_succ, List.getElem_cons_zero]
        clear d0 d1 hv9
        refine wpAnyH_done (by kernel_rfl) ?_ _
        try simp only [Act.put, List.setIfInBounds_toArray, List.set_cons_zero, List.set_cons_succ, List.getElem_toArray, List.getElem_cons_succ, List.getElem_cons_zero]
        clear hHeld
        have HO1 := Lib.hid (good5 (show Pn.boxS l = (Pn.box l).bind _ from rfl) HMx.out)
        have cBP_0 := HBP9.out.cell (i := 0) rfl
        go_wp2_with fail
        clear cBP_0
        refine must_two (Lib.hid HP9.out) [59] (fun r6 w6 HM6 HP6 HC6 => ?_) (fun c r w9 HMb HCb => ?_)
        · have HO2 := Lib.hid (good5 HO1.out HM6.out)
          have HLV6 := Lib.hid (HLV9.out.keep HC6.out (by simp; exact HDb.out) (fun k hk => by simp at hk; rw [hk]; exact HbB.out))
          have HCF6 := Lib.hid (HCF9.out.then HC6.out)
          go_wp2_with fail
          refine bodyPost_end (results_none rfl _ _ _) rfl ?_
          first | exact .inl ⟨_, _, _, rfl, HO2.out, HP6.out, HLV6.out, HCF6.out⟩ | exact .inl ⟨rfl, _, _, _, HO2.out, HP6.out, HLV6.out, HCF6.out⟩ | exact .inl ⟨rfl, _, _, HO2.out, HP6.out, ⟨_, HLV6.out⟩, HCF6.out⟩
        · go_wp2_with fail
          exact ⟨rfl, .inr ⟨c, r, rfl, bad5 HO1.out HMb.out, HCF9.out.then HCb.out⟩⟩
    · have HCb : Hid (Chg [b] w w9) := Lib.hid (Chg.ofDrew HCd.out)
      exact ⟨rfl, .inr ⟨c, r, rfl, bad5 (show Pn.boxS l = (Pn.box l).bind _ from rfl) HMb.out, chf_b ((Chg.refl [b] w).trans HCb.out (fun k hk => by simp only [List.mem_cons, List.not_mem_nil, or_false] at hk; have h9 := hk; (rw [h9]; exact .inl (by simp))))⟩⟩
  · skip
    go_simp
    refine box_two (Lib.hid (Pp.quiet HP.out (Chg.refl _ _).drew)) (fun x r5 wx HMx HPx HCd => ?_) (fun c r w9 HMb HCd => ?_)
    · have HCx : Hid (Chg [b] w wx) := Lib.hid (Chg.ofDrew HCd.out)
      have HBL_1 : Hid (Blk wx BL [.pointer (some ⟨D, 0, none⟩)] 90) := Lib.hid (HCx.out.blk HBL.out (by simp [NBL_b]))
      have HBP_1 : Hid (Blk wx BP [.pointer (some ⟨b, 0, none⟩)] 67) := Lib.hid (HCx.out.blk HBP.out (by simp [NBP_b]))
      have C1 : Hid (Chg [b] w wx) := Lib.hid ((Chg.refl [b] w).trans HCx.out (fun k hk => by simp only [List.mem_cons, List.not_mem_nil, or_false] at hk; have h9 := hk; (rw [h9]; exact .inl (by simp))))
      have HLVx : Hid (LevAt B D L u1 u2 u3 (.slice ao L.pillars.length cap) u5 wx) := Lib.hid (HLV0.out.keep HCx.out (by simp; exact HDb.out) (fun k hk => by simp at hk; rw [hk]; exact HbB.out))
      refine hK.out _ _ (⟨HBL_1.out, HBP_1.out⟩) (fun hHeld => ?_)
      clear hK K
      try simp only [Act.put, List.setIfInBounds_toArray, List.set_cons_zero, List.set_cons_succ, List.getElem_toArray, List.getElem_cons_succ, List.getElem_cons_zero]
      refine wpAnyH_ready (rs := [4, 7]) (by kernel_rfl) (by simp) (AllReadyH.cons rfl (fun K hK => ?_) (AllReadyH.cons rfl (fun K hK => ?_) AllReadyH.nil))
      · skip
        have x0 := HLVx.out.blk.cell (i := 5) rfl
        go_simp
        refine hK.out _ _ (hHeld) (fun hHeld => ?_)
        clear hK K
        try simp only [Act.put, List.setIfInBounds_toArray, List.set_cons_zero, List.set_cons_succ, List.getElem_toArray, List.getElem_cons_succ, List.getElem_cons_zero]
        clear x0
        refine wpAnyH_ready (rs := [7]) (by kernel_rfl) (by simp) (AllReadyH.cons rfl (fun K hK => ?_) AllReadyH.nil)
        go_simp
        refine hK.out _ _ (⟨hHeld.1.alloc _, hHeld.2.alloc _⟩) (fun hHeld => ?_)
        clear hK K
        try simp only [Act.put, List.setIfInBounds_toArray, List.set_cons_zero, List.set_cons_succ, List.getElem_toArray, List.getElem_cons_succ, List.getElem_cons_zero]
        refine wpAnyH_ready (rs := [8]) (by kernel_rfl) (by simp) (AllReadyH.cons rfl (fun K hK => ?_) AllReadyH.nil)
        have HLa : Hid (LevAt B D L u1 u2 u3 (.slice ao L.pillars.length cap) u5 (wx.alloc (.cells #[.int .i64 (x.x : Nat), .int .i64 (x.y : Nat), .int .i64 (x.x2 : Nat), .int .i64 (x.y2 : Nat)] 56))) := Lib.hid (HLVx.out.keep (own := []) ((Chg.refl _ _).alloc _) (by simp) (by simp))
        have hba : B ≤ (wx.alloc (.cells #[.int .i64 (x.x : Nat), .int .i64 (x.y : Nat), .int .i64 (x.x2 : Nat), .int .i64 (x.y2 : Nat)] 56)).heap.size := by have h1 := HN.out; have h2 := (C1.out.alloc (.cells #[.int .i64 (x.x : Nat), .int .i64 (x.y : Nat), .int .i64 (x.x2 : Nat), .int .i64 (x.y2 : Nat)] 56)).size; omega
        refine step_snoc2 rfl (.tmp 8) (.tmp 11) 44 rfl 56 ii (.agg #[.int .i64 0, .int .i64 0, .int .i64 0, .int .i64 0]) 4 32 Tryd.underlying44 hii iz0 iz1 iz2 rfl (by decide) (C := Cbx) (Es := []) (.slice ao L.pillars.length cap) L.pillars.length rfl HLa.out.l4 rfl (kp_bx B) (by decide) x [.int .i64 (x.x : Nat), .int .i64 (x.y : Nat), .int .i64 (x.x2 : Nat), .int .i64 (x.y2 : Nat)] rfl rfl (by intro u hu; simp at hu; rcases hu with rfl | rfl | rfl | rfl <;> rfl) wx.heap.size rfl (Blk.new wx [.int .i64 (x.x : Nat), .int .i64 (x.y : Nat), .int .i64 (x.x2 : Nat), .int .i64 (x.y2 : Nat)] 56) (by unfold maxLen; omega) (by omega) hba ?kk
        case kk =>
          intro g8 cap8 v8 hl8 hg8 ho8 hlt8
          have HL8 := Lib.hid hl8
          have HG8 := Lib.hid hg8
          have HOW8 := Lib.hid ho8
          clear hl8 hg8 ho8 hlt8 hba
          obtain ⟨css, hc1, hc2, hrow⟩ := HLa.out.l4
          have HRW := Lib.hid hrow
          clear hc1 hc2 hrow
          have HCG : Hid (Chg (Value.ownBlock (.slice ao L.pillars.length cap)).toList (wx.alloc (.cells #[.int .i64 (x.x : Nat), .int .i64 (x.y : Nat), .int .i64 (x.x2 : Nat), .int .i64 (x.y2 : Nat)] 56)) v8) := Lib.hid ((Chg.refl _ _).grown HG8.out (fun k hk => .inl (by simp [hk])))
          have HGE : Hid (∀ k ∈ (Value.ownBlock (.slice ao L.pillars.length cap)).toList, B ≤ k) := Lib.hid (fun k hk => own_ge HRW.out k (by simpa using hk))
          have HP8 : Hid (Pp v8 b r5 en) := Lib.hid ((HPx.out.quiet ((Chg.refl [] _).alloc _)).keep HCG.out (fun k hk => by have h1 := HGE.out k hk; have h2 := HbB.out; omega))
          have HD8 : Hid (Blk v8 D [.string ⟨L.name.toArray⟩, .int .i64 (L.height : Nat), u1, u2, u3, (.slice ao L.pillars.length cap), u5, .int .i64 (L.at_ : Nat)] 47) := Lib.hid (grown_blk HLa.out.blk HG8.out HRW.out (by decide))
          have HBL8 : Hid (Blk v8 BL [.pointer (some ⟨D, 0, none⟩)] 90) := Lib.hid (grown_blk (hHeld.1) HG8.out HRW.out (by decide))
          have HBP8 : Hid (Blk v8 BP [.pointer (some ⟨b, 0, none⟩)] 67) := Lib.hid (grown_blk (hHeld.2) HG8.out HRW.out (by decide))
          obtain ⟨v9, hv9⟩ : ∃ W, W = v8.setCell ⟨D, 5, none⟩ (.slice (some ⟨g8, 0, none⟩) (L.pillars.length + 1) cap8) := ⟨_, rfl⟩
          have HLV9 : Hid (LevAt B D { L with pillars := L.pillars ++ [x] } u1 u2 u3 (.slice (some ⟨g8, 0, none⟩) (L.pillars.length + 1) cap8) u5 v9) := Lib.hid (by rw [hv9]; exact HLa.out.app4 HG8.out x HL8.out (fun k hk e => by simp only [Value.ownBlock, Option.some.injEq] at e; rw [← e] at hk; rcases HOW8.out with h1 | h1; exact HLa.out.ne g8 hk h1; (have h2 := HLa.out.l3.below g8 hk; omega)))
          have HP9 : Hid (Pp v9 b r5 en) := Lib.hid (by rw [hv9]; exact HP8.out.keep (own := [D]) ((Chg.refl _ _).setCell _ _ (.inl (by simp))) (fun k hk => by simp at hk; rw [hk]; exact HN.out.1))
          have HBL9 : Hid (Blk v9 BL [.pointer (some ⟨D, 0, none⟩)] 90) := Lib.hid (by rw [hv9]; exact HBL8.out.other _ _ NBL_D)
          have HBP9 : Hid (Blk v9 BP [.pointer (some ⟨b, 0, none⟩)] 67) := Lib.hid (by rw [hv9]; exact HBP8.out.other _ _ NBP_D)
          have HCF9 : Hid (CHF B b D w v9) := Lib.hid (fun Wb hWb hc => by rw [hv9]; exact (((hc.trans (C1.out.alloc (.cells #[.int .i64 (x.x : Nat), .int .i64 (x.y : Nat), .int .i64 (x.x2 : Nat), .int .i64 (x.y2 : Nat)] 56)) (fun k hk => .inl (by simp at hk; simp [hk]))).trans HCG.out (fun k hk => .inr (Nat.le_trans hWb (HGE.out k hk)))).setCell _ _ (.inl (by simp))))
          refine hK.out _ _ (⟨HBL8.out, HBP8.out⟩) (fun hHeld => ?_)
          clear hK K
          try simp only [Act.put, List.setIfInBounds_toArray, List.set_cons_zero, List.set_cons_succ, List.getElem_toArray, List.getElem_cons_succ, List.getElem_cons_zero]
          refine wpAnyH_take (i := 9) (v := ?vwb9) rfl (by kernel_rfl) (by kernel_rfl) (by kernel_rfl) (fun _ _ _ h => h) (Or.inl ⟨by kernel_rfl, ?hywb9⟩) (by assumption) ?rswb9
          case hywb9 => (intro w9 hSw; skip; go_simp; try with_reducible rfl)
          try simp only [Act.put, List.setIfInBounds_toArray, List.set_cons_zero, List.set_cons_succ, List.getElem_toArray, List.getElem_cons_succ, List.getElem_cons_zero]
          refine wpAnyH_take (i := 10) (v := ?vwb10) rfl (by kernel_rfl) (by kernel_rfl) (by kernel_rfl) (fun _ _ _ h => h) (Or.inl ⟨by kernel_rfl, ?hywb10⟩) (by assumption) ?rswb10
          case hywb10 => (intro w9 hSw; skip; go_simp; try with_reducible rfl)
          try simp only [Act.put, List.setIfInBounds_toArray, List.set_cons_zero, List.set_cons_succ, List.getElem_toArray, List.getElem_cons_succ, List.getElem_cons_zero]
          refine wpAnyH_ready (rs := [11]) (by kernel_rfl) (by simp) (AllReadyH.cons rfl (fun K hK => ?_) AllReadyH.nil)
          have d0 := HD8.out.cell (i := 5) rfl
          have d1 := HD8.out.free 5
          go_simp
          rw [← hv9]
          refine hK.out _ _ (⟨HBL9.out, HBP9.out⟩) (fun hHeld => ?_)
          clear hK K
          try simp only [Act.put, List.setIfInBounds_toArray, List.set_cons_zero, List.set_cons_succ, List.getElem_toArray, List.getElem_cons_succ, List.getElem_cons_zero]
          clear d0 d1 hv9
          refine wpAnyH_done (by kernel_rfl) ?_ _
          try simp only [Act.put, List.setIfInBounds_toArray, List.set_cons_zero, List.set_cons_succ, List.getElem_toArray, List.getElem_cons_succ, List.getElem_cons_zero]
          clear hHeld
          have HO1 := Lib.hid (good5 (show Pn.boxS l = (Pn.box l).bind _ from rfl) HMx.out)
          have cBP_0 := HBP9.out.cell (i := 0) rfl
          go_wp2_with fail
          clear cBP_0
          refine must_two (Lib.hid HP9.out) [59] (fun r6 w6 HM6 HP6 HC6 => ?_) (fun c r w9 HMb HCb => ?_)
          · have HO2 := Lib.hid (good5 HO1.out HM6.out)
            have HLV6 := Lib.hid (HLV9.out.keep HC6.out (by simp; exact HDb.out) (fun k hk => by simp at hk; rw [hk]; exact HbB.out))
            have HCF6 := Lib.hid (HCF9.out.then HC6.out)
            go_wp2_with fail
            refine bodyPost_end (results_none rfl _ _ _) rfl ?_
            first | exact .inl ⟨_, _, _, rfl, HO2.out, HP6.out, HLV6.out, HCF6.out⟩ | exact .inl ⟨rfl, _, _, _, HO2.out, HP6.out, HLV6.out, HCF6.out⟩ | exact .inl ⟨rfl, _, _, HO2.out, HP6.out, ⟨_, HLV6.out⟩, HCF6.out⟩
          · go_wp2_with fail
            exact ⟨rfl, .inr ⟨c, r, rfl, bad5 HO1.out HMb.out, HCF9.out.then HCb.out⟩⟩
      · skip
        go_simp
        refine hK.out _ _ (⟨hHeld.1.alloc _, hHeld.2.alloc _⟩) (fun hHeld => ?_)
        clear hK K
        try simp only [Act.put, List.setIfInBounds_toArray, List.set_cons_zero, List.set_cons_succ, List.getElem_toArray, List.getElem_cons_succ, List.getElem_cons_zero]
        refine wpAnyH_ready (rs := [4]) (by kernel_rfl) (by simp) (AllReadyH.cons rfl (fun K hK => ?_) AllReadyH.nil)
        have x0 := (HLVx.out.blk.alloc (.cells #[.int .i64 (x.x : Nat), .int .i64 (x.y : Nat), .int .i64 (x.x2 : Nat), .int .i64 (x.y2 : Nat)] 56)).cell (i := 5) rfl
        go_simp
        refine hK.out _ _ (hHeld) (fun hHeld => ?_)
        clear hK K
        try simp only [Act.put, List.setIfInBounds_toArray, List.set_cons_zero, List.set_cons_succ, List.getElem_toArray, List.getElem_cons_succ, List.getElem_cons_zero]
        clear x0
        refine wpAnyH_ready (rs := [8]) (by kernel_rfl) (by simp) (AllReadyH.cons rfl (fun K hK => ?_) AllReadyH.nil)
        have HLa : Hid (LevAt B D L u1 u2 u3 (.slice ao L.pillars.length cap) u5 (wx.alloc (.cells #[.int .i64 (x.x : Nat), .int .i64 (x.y : Nat), .int .i64 (x.x2 : Nat), .int .i64 (x.y2 : Nat)] 56))) := Lib.hid (HLVx.out.keep (own := []) ((Chg.refl _ _).alloc _) (by simp) (by simp))
        have hba : B ≤ (wx.alloc (.cells #[.int .i64 (x.x : Nat), .int .i64 (x.y : Nat), .int .i64 (x.x2 : Nat), .int .i64 (x.y2 : Nat)] 56)).heap.size := by have h1 := HN.out; have h2 := (C1.out.alloc (.cells #[.int .i64 (x.x : Nat), .int .i64 (x.y : Nat), .int .i64 (x.x2 : Nat), .int .i64 (x.y2 : Nat)] 56)).size; omega
        refine step_snoc2 rfl (.tmp 8) (.tmp 11) 44 rfl 56 ii (.agg #[.int .i64 0, .int .i64 0, .int .i64 0, .int .i64 0]) 4 32 Tryd.underlying44 hii iz0 iz1 iz2 rfl (by decide) (C := Cbx) (Es := []) (.slice ao L.pillars.length cap) L.pillars.length rfl HLa.out.l4 rfl (kp_bx B) (by decide) x [.int .i64 (x.x : Nat), .int .i64 (x.y : Nat), .int .i64 (x.x2 : Nat), .int .i64 (x.y2 : Nat)] rfl rfl (by intro u hu; simp at hu; rcases hu with rfl | rfl | rfl | rfl <;> rfl) wx.heap.size rfl (Blk.new wx [.int .i64 (x.x : Nat), .int .i64 (x.y : Nat), .int .i64 (x.x2 : Nat), .int .i64 (x.y2 : Nat)] 56) (by unfold maxLen; omega) (by omega) hba ?kk
        case kk =>
          intro g8 cap8 v8 hl8 hg8 ho8 hlt8
          have HL8 := Lib.hid hl8
          have HG8 := Lib.hid hg8
          have HOW8 := Lib.hid ho8
          clear hl8 hg8 ho8 hlt8 hba
          obtain ⟨css, hc1, hc2, hrow⟩ := HLa.out.l4
          have HRW := Lib.hid hrow
          clear hc1 hc2 hrow
          have HCG : Hid (Chg (Value.ownBlock (.slice ao L.pillars.length cap)).toList (wx.alloc (.cells #[.int .i64 (x.x : Nat), .int .i64 (x.y : Nat), .int .i64 (x.x2 : Nat), .int .i64 (x.y2 : Nat)] 56)) v8) := Lib.hid ((Chg.refl _ _).grown HG8.out (fun k hk => .inl (by simp [hk])))
          have HGE : Hid (∀ k ∈ (Value.ownBlock (.slice ao L.pillars.length cap)).toList, B ≤ k) := Lib.hid (fun k hk => own_ge HRW.out k (by simpa using hk))
          have HP8 : Hid (Pp v8 b r5 en) := Lib.hid ((HPx.out.quiet ((Chg.refl [] _).alloc _)).keep HCG.out (fun k hk => by have h1 := HGE.out k hk; have h2 := HbB.out; omega))
          have HD8 : Hid (Blk v8 D [.string ⟨L.name.toArray⟩, .int .i64 (L.height : Nat), u1, u2, u3, (.slice ao L.pillars.length cap), u5, .int .i64 (L.at_ : Nat)] 47) := Lib.hid (grown_blk HLa.out.blk HG8.out HRW.out (by decide))
          have HBL8 : Hid (Blk v8 BL [.pointer (some ⟨D, 0, none⟩)] 90) := Lib.hid (grown_blk (hHeld.1) HG8.out HRW.out (by decide))
          have HBP8 : Hid (Blk v8 BP [.pointer (some ⟨b, 0, none⟩)] 67) := Lib.hid (grown_blk (hHeld.2) HG8.out HRW.out (by decide))
          obtain ⟨v9, hv9⟩ : ∃ W, W = v8.setCell ⟨D, 5, none⟩ (.slice (some ⟨g8, 0, none⟩) (L.pillars.length + 1) cap8) := ⟨_, rfl⟩
          have HLV9 : Hid (LevAt B D { L with pillars := L.pillars ++ [x] } u1 u2 u3 (.slice (some ⟨g8, 0, none⟩) (L.pillars.length + 1) cap8) u5 v9) := Lib.hid (by rw [hv9]; exact HLa.out.app4 HG8.out x HL8.out (fun k hk e => by simp only [Value.ownBlock, Option.some.injEq] at e; rw [← e] at hk; rcases HOW8.out with h1 | h1; exact HLa.out.ne g8 hk h1; (have h2 := HLa.out.l3.below g8 hk; omega)))
          have HP9 : Hid (Pp v9 b r5 en) := Lib.hid (by rw [hv9]; exact HP8.out.keep (own := [D]) ((Chg.refl _ _).setCell _ _ (.inl (by simp))) (fun k hk => by simp at hk; rw [hk]; exact HN.out.1))
          have HBL9 : Hid (Blk v9 BL [.pointer (some ⟨D, 0, none⟩)] 90) := Lib.hid (by rw [hv9]; exact HBL8.out.other _ _ NBL_D)
          have HBP9 : Hid (Blk v9 BP [.pointer (some ⟨b, 0, none⟩)] 67) := Lib.hid (by rw [hv9]; exact HBP8.out.other _ _ NBP_D)
          have HCF9 : Hid (CHF B b D w v9) := Lib.hid (fun Wb hWb hc => by rw [hv9]; exact (((hc.trans (C1.out.alloc (.cells #[.int .i64 (x.x : Nat), .int .i64 (x.y : Nat), .int .i64 (x.x2 : Nat), .int .i64 (x.y2 : Nat)] 56)) (fun k hk => .inl (by simp at hk; simp [hk]))).trans HCG.out (fun k hk => .inr (Nat.le_trans hWb (HGE.out k hk)))).setCell _ _ (.inl (by simp))))
          refine hK.out _ _ (⟨HBL8.out, HBP8.out⟩) (fun hHeld => ?_)
          clear hK K
          try simp only [Act.put, List.setIfInBounds_toArray, List.set_cons_zero, List.set_cons_succ, List.getElem_toArray, List.getElem_cons_succ, List.getElem_cons_zero]
          refine wpAnyH_take (i := 9) (v := ?vwc9) rfl (by kernel_rfl) (by kernel_rfl) (by kernel_rfl) (fun _ _ _ h => h) (Or.inl ⟨by kernel_rfl, ?hywc9⟩) (by assumption) ?rswc9
          case hywc9 => (intro w9 hSw; skip; go_simp; try with_reducible rfl)
          try simp only [Act.put, List.setIfInBounds_toArray, List.set_cons_zero, List.set_cons_succ, List.getElem_toArray, List.getElem_cons_succ, List.getElem_cons_zero]
          refine wpAnyH_take (i := 10) (v := ?vwc10) rfl (by kernel_rfl) (by kernel_rfl) (by kernel_rfl) (fun _ _ _ h => h) (Or.inl ⟨by kernel_rfl, ?hywc10⟩) (by assumption) ?rswc10
          case hywc10 => (intro w9 hSw; skip; go_simp; try with_reducible rfl)
          try simp only [Act.put, List.setIfInBounds_toArray, List.set_cons_zero, List.set_cons_succ, List.getElem_toArray, List.getElem_cons_succ, List.getElem_cons_zero]
          refine wpAnyH_ready (rs := [11]) (by kernel_rfl) (by simp) (AllReadyH.cons rfl (fun K hK => ?_) AllReadyH.nil)
          have d0 := HD8.out.cell (i := 5) rfl
          have d1 := HD8.out.free 5
          go_simp
          rw [← hv9]
          refine hK.out _ _ (⟨HBL9.out, HBP9.out⟩) (fun hHeld => ?_)
          clear hK K
          try simp only [Act.put, List.setIfInBounds_toArray, List.set_cons_zero, List.set_cons_succ, List.getElem_toArray, List.getElem_cons_succ, List.getElem_cons_zero]
          clear d0 d1 hv9
          refine wpAnyH_done (by kernel_rfl) ?_ _
          try simp only [Act.put, List.setIfInBounds_toArray, List.set_cons_zero, List.set_cons_succ, List.getElem_toArray, List.getElem_cons_succ, List.getElem_cons_zero]
          clear hHeld
          have HO1 := Lib.hid (good5 (show Pn.boxS l = (Pn.box l).bind _ from rfl) HMx.out)
          have cBP_0 := HBP9.out.cell (i := 0) rfl
          go_wp2_with fail
          clear cBP_0
          refine must_two (Lib.hid HP9.out) [59] (fun r6 w6 HM6 HP6 HC6 => ?_) (fun c r w9 HMb HCb => ?_)
          · have HO2 := Lib.hid (good5 HO1.out HM6.out)
            have HLV6 := Lib.hid (HLV9.out.keep HC6.out (by simp; exact HDb.out) (fun k hk => by simp at hk; rw [hk]; exact HbB.out))
            have HCF6 := Lib.hid (HCF9.out.then HC6.out)
            go_wp2_with fail
            refine bodyPost_end (results_none rfl _ _ _) rfl ?_
            first | exact .inl ⟨_, _, _, rfl, HO2.out, HP6.out, HLV6.out, HCF6.out⟩ | exact .inl ⟨rfl, _, _, _, HO2.out, HP6.out, HLV6.out, HCF6.out⟩ | exact .inl ⟨rfl, _, _, HO2.out, HP6.out, ⟨_, HLV6.out⟩, HCF6.out⟩
          · go_wp2_with fail
            exact ⟨rfl, .inr ⟨c, r, rfl, bad5 HO1.out HMb.out, HCF9.out.then HCb.out⟩⟩
    · have HCb : Hid (Chg [b] w w9) := Lib.hid (Chg.ofDrew HCd.out)
      exact ⟨rfl, .inr ⟨c, r, rfl, bad5 (show Pn.boxS l = (Pn.box l).bind _ from rfl) HMb.out, chf_b ((Chg.refl [b] w).trans HCb.out (fun k hk => by simp only [List.mem_cons, List.not_mem_nil, or_false] at hk; have h9 := hk; (rw [h9]; exact .inl (by simp))))⟩⟩
end Go.Proofs.YtocadlcglgpdcaaDoor

