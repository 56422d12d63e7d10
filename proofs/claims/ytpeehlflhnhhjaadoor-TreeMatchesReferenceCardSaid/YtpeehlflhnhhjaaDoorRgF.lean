/-
  The reference of the tree (layer 4): the next level, roots and paths.
-/
import Derived.Test.YtpeehlflhnhhjaaDoorRgE
namespace Go.Proofs.YtpeehlflhnhhjaaDoor
set_option linter.unusedVariables false
set_option linter.unusedSimpArgs false
open Go Go.RowKit Go.Shelf

set_option maxRecDepth 100000 in
set_option maxHeartbeats 4000000 in
theorem rup_spec (w : World) (v : Value) (lev : List Bytes) (HV : Hid (Strs w v lev)) (hn60 : lev.length ≤ 60) (HLX : Hid (∀ x ∈ lev, x.length ≤ 1000000)) :
    Calls Tryd.prog 24 #[v] w fun e w' => (∃ ao cap, e = .returned (.slice ao (Tr.up lev).length cap) ∧ Strs w' (.slice ao (Tr.up lev).length cap) (Tr.up lev) ∧ ∀ k, (Value.slice ao (Tr.up lev).length cap).ownBlock = some k → w.heap.size ≤ k) ∧ Chg [] w w' := by
  obtain ⟨lo2, lcap2, rfl, hcap, hle⟩ := HV.out
  have HLE := Lib.hid hle
  obtain ⟨n, hn⟩ : ∃ n, n = lev.length := ⟨_, rfl⟩
  rw [← hn] at hcap hn60 ⊢
  have HN := Lib.hid hn
  clear hle hn
  obtain ⟨i0, hi, hz0, hz1, hz2⟩ := info_parts info_str
  go_enter Tryd.func24, Tryd.ntmps24
  go_wp2_with fail
  go_loopw [3, 4] (fun nv kv wr => ∃ j : Nat, j ≤ (n + 1) / 2 ∧ kv = .int .i64 ((2 * j : Nat) : Int) ∧ wr.ownsRow w.heap.size 9 1 nv j (((List.range j).map (Tr.pairOf lev)).map vstr) ∧ Chg [] w wr) (fun _ kv _ => n + 1 - (intOf kv).toNat)
  case atStart => exact ⟨0, Nat.zero_le _, rfl, World.ownsRow_nil _ _ _ _, Chg.refl _ _⟩
  case round =>
    obtain ⟨j, hj, rfl, hrow, hcr⟩ := hrel
    have HROW := Lib.hid hrow
    have HCR := Lib.hid hcr
    clear hrow hcr
    obtain ⟨e, he⟩ : ∃ e, e = 2 * j := ⟨_, rfl⟩
    rw [← he]
    have HEJ := Lib.hid he
    have hej : j ≤ 61 := by omega
    by_cases hen : e < n
    · have hj1 : j + 1 ≤ (n + 1) / 2 := by omega
      obtain ⟨y1, hy1⟩ : ∃ y1, lev[e]? = some y1 := ⟨lev[e]'(by rw [← HN.out]; exact hen), by simp⟩
      obtain ⟨lg, loff, rfl, c1⟩ := HLE.out e y1 hy1
      have C1 := Lib.hid c1
      have HY1 : Hid (y1.length ≤ 1000000) := Lib.hid (HLX.out y1 (List.mem_of_getElem? hy1))
      have d1 := (World.cell?_of_block (HCR.out.block lg (World.block_lt_of_cell? _ _ c1) (by simp))).trans c1
      have he0 : (0 : Int) ≤ (e : Int) := by omega
      have he1 : (e : Int) < (n : Int) := by omega
      by_cases hen2 : e + 1 < n
      · obtain ⟨z1, hz1'⟩ : ∃ z1, lev[e + 1]? = some z1 := ⟨lev[e + 1]'(by rw [← HN.out]; exact hen2), by simp⟩
        obtain ⟨lg', loff', he', c2⟩ := HLE.out (e + 1) z1 hz1'
        cases he'
        have C2 := Lib.hid c2
        have HZ1 : Hid (z1.length ≤ 1000000) := Lib.hid (HLX.out z1 (List.mem_of_getElem? hz1'))
        have d2 := (World.cell?_of_block (HCR.out.block lg (World.block_lt_of_cell? _ _ c2) (by simp))).trans c2
        have HPO : Hid (Tr.pairOf lev j = Tr.node y1 z1) := Lib.hid (by
          unfold Tr.pairOf
          rw [← he, if_pos (by rw [← HN.out]; exact hen2), List.getD_eq_getElem?_getD, List.getD_eq_getElem?_getD, hy1, hz1']
          rfl)
        have he2 : (e : Int) + 1 < (n : Int) := by omega
        clear hy1 hz1' c1 c2 he
        go_wp2_with fail
        have hw1 : IntKind.i64.wrap ((e : Int) + 1) = (e : Int) + 1 := IntWalk.i64_in _ (by omega)
        have hw2 : ((e : Int) + 1).toNat = e + 1 := by omega
        have hw3 : (0 : Int) ≤ (e : Int) + 1 := by omega
        refine wp_region_held_drew (S := (fun W => W.cell? ⟨lg, loff + e, none⟩ = some (.string ⟨y1.toArray⟩) ∧ W.cell? ⟨lg, loff + (e + 1), none⟩ = some (.string ⟨z1.toArray⟩) ∧ Chg [] w W)) (by kernel_rfl) ⟨d1, d2, HCR.out.drew⟩ (fun hHeld => ?_)
        refine wpAnyH_take (i := 0) (v := ?vp0) rfl (by kernel_rfl) (by kernel_rfl) (by kernel_rfl) (fun _ _ _ h => h) (Or.inl ⟨by kernel_rfl, ?hyp0⟩) (by assumption) ?rsp0
        case hyp0 => (intro w9 hSw; (try dsimp only at hSw); go_split_ands; go_simp; try with_reducible rfl)
        try simp only [Act.put, List.setIfInBounds_toArray, List.set_cons_zero, List.set_cons_succ, List.getElem_toArray, List.getElem_cons_succ, List.getElem_cons_zero]
        refine wpAnyH_take (i := 1) (v := ?vp1) rfl (by kernel_rfl) (by kernel_rfl) (by kernel_rfl) (fun _ _ _ h => h) (Or.inl ⟨by kernel_rfl, ?hyp1⟩) (by assumption) ?rsp1
        case hyp1 => (intro w9 hSw; (try dsimp only at hSw); go_split_ands; go_simp; try with_reducible rfl)
        try simp only [Act.put, List.setIfInBounds_toArray, List.set_cons_zero, List.set_cons_succ, List.getElem_toArray, List.getElem_cons_succ, List.getElem_cons_zero]
        refine wpAnyH_take (i := 2) (v := ?vp2) rfl (by kernel_rfl) (by kernel_rfl) (by kernel_rfl) (fun _ _ _ h => h) (Or.inl ⟨by kernel_rfl, ?hyp2⟩) (by assumption) ?rsp2
        case hyp2 => (intro w9 hSw; (try dsimp only at hSw); go_split_ands; go_simp; try with_reducible rfl)
        try simp only [Act.put, List.setIfInBounds_toArray, List.set_cons_zero, List.set_cons_succ, List.getElem_toArray, List.getElem_cons_succ, List.getElem_cons_zero]
        refine wpAnyH_take (i := 3) (v := ?vp3) rfl (by kernel_rfl) (by kernel_rfl) (by kernel_rfl) (fun _ _ _ h => h) (Or.inl ⟨by kernel_rfl, ?hyp3⟩) (by assumption) ?rsp3
        case hyp3 => (intro w9 hSw; (try dsimp only at hSw); go_split_ands; go_simp; try with_reducible rfl)
        try simp only [Act.put, List.setIfInBounds_toArray, List.set_cons_zero, List.set_cons_succ, List.getElem_toArray, List.getElem_cons_succ, List.getElem_cons_zero]
        refine wpAnyH_take (i := 4) (v := ?vp4) rfl (by kernel_rfl) (by kernel_rfl) (by kernel_rfl) (fun _ _ _ h => h) (Or.inl ⟨by kernel_rfl, ?hyp4⟩) (by assumption) ?rsp4
        case hyp4 => (intro w9 hSw; (try dsimp only at hSw); go_split_ands; go_simp; try with_reducible rfl)
        try simp only [Act.put, List.setIfInBounds_toArray, List.set_cons_zero, List.set_cons_succ, List.getElem_toArray, List.getElem_cons_succ, List.getElem_cons_zero]
        refine wpAnyH_take (i := 5) (v := ?vp5) rfl (by kernel_rfl) (by kernel_rfl) (by kernel_rfl) (fun _ _ _ h => h) (Or.inl ⟨by kernel_rfl, ?hyp5⟩) (by assumption) ?rsp5
        case hyp5 => (intro w9 hSw; (try dsimp only at hSw); go_split_ands; go_simp; try with_reducible rfl)
        try simp only [Act.put, List.setIfInBounds_toArray, List.set_cons_zero, List.set_cons_succ, List.getElem_toArray, List.getElem_cons_succ, List.getElem_cons_zero]
        refine wpAnyH_take (i := 6) (v := ?vp6) rfl (by kernel_rfl) (by kernel_rfl) (by kernel_rfl) (fun _ _ _ h => h) (Or.inl ⟨by kernel_rfl, ?hyp6⟩) (by assumption) ?rsp6
        case hyp6 => (intro w9 hSw; (try dsimp only at hSw); go_split_ands; go_simp; try with_reducible rfl)
        try simp only [Act.put, List.setIfInBounds_toArray, List.set_cons_zero, List.set_cons_succ, List.getElem_toArray, List.getElem_cons_succ, List.getElem_cons_zero]
        refine wpAnyH_take (i := 7) (v := ?vp7) rfl (by kernel_rfl) (by kernel_rfl) (by kernel_rfl) (fun _ _ _ h => h) (Or.inl ⟨by kernel_rfl, ?hyp7⟩) (by assumption) ?rsp7
        case hyp7 => (intro w9 hSw; (try dsimp only at hSw); go_split_ands; go_simp; try with_reducible rfl)
        try simp only [Act.put, List.setIfInBounds_toArray, List.set_cons_zero, List.set_cons_succ, List.getElem_toArray, List.getElem_cons_succ, List.getElem_cons_zero]
        refine wpAnyH_take (i := 8) (v := ?vp8) rfl (by kernel_rfl) (by kernel_rfl) (by kernel_rfl) (fun _ _ _ h => h) (Or.inl ⟨by kernel_rfl, ?hyp8⟩) (by assumption) ?rsp8
        case hyp8 => (intro w9 hSw; (try dsimp only at hSw); go_split_ands; go_simp; try with_reducible rfl)
        try simp only [Act.put, List.setIfInBounds_toArray, List.set_cons_zero, List.set_cons_succ, List.getElem_toArray, List.getElem_cons_succ, List.getElem_cons_zero]
        refine wpAnyH_take (i := 9) (v := ?vp9) rfl (by kernel_rfl) (by kernel_rfl) (by kernel_rfl) (fun _ _ _ h => h) (Or.inl ⟨by kernel_rfl, ?hyp9⟩) (by assumption) ?rsp9
        case hyp9 => (intro w9 hSw; (try dsimp only at hSw); go_split_ands; go_simp; try with_reducible rfl)
        try simp only [Act.put, List.setIfInBounds_toArray, List.set_cons_zero, List.set_cons_succ, List.getElem_toArray, List.getElem_cons_succ, List.getElem_cons_zero]
        refine wpAnyH_ready (rs := [10]) (by kernel_rfl) (by simp) (AllReadyH.cons rfl (fun K hK => ?_) AllReadyH.nil)
        go_simp
        refine (rnode_spec _ y1 z1 HY1.out HZ1.out).mono ?_
        rintro e9 w9 ⟨rfl, hcx⟩
        have HR9 := Lib.hid (row_keptB (row_keptB HROW.out ((Chg.refl _ _).drew)) hcx)
        have hb3 : w.heap.size ≤ (w9.alloc (.cells #[.string ⟨(Tr.node y1 z1).toArray⟩] 9)).heap.size := Nat.le_trans (hHeld.2.2.trans hcx (by simp)).size (by simp)
        refine hK.out _ _ (held2 (hHeld.2.2.trans hcx (by simp)) C1.out C2.out) (fun hHeld => ?_)
        clear hK K
        try simp only [Act.put, List.setIfInBounds_toArray, List.set_cons_zero, List.set_cons_succ, List.getElem_toArray, List.getElem_cons_succ, List.getElem_cons_zero]
        refine wpAnyH_ready (rs := [11]) (by kernel_rfl) (by simp) (AllReadyH.cons rfl (fun K hK => ?_) AllReadyH.nil)
        go_simp
        refine hK.out _ _ (held2 (hHeld.2.2.alloc _) C1.out C2.out) (fun hHeld => ?_)
        clear hK K
        try simp only [Act.put, List.setIfInBounds_toArray, List.set_cons_zero, List.set_cons_succ, List.getElem_toArray, List.getElem_cons_succ, List.getElem_cons_zero]
        refine wpAnyH_ready (rs := [12]) (by kernel_rfl) (by simp) (AllReadyH.cons rfl (fun K hK => ?_) AllReadyH.nil)
        refine step_append_lies (w9.alloc (.cells #[.string ⟨(Tr.node y1 z1).toArray⟩] 9)) rfl (.tmp 16) (.tmp 27) 22 rfl w.heap.size 9 i0 (.string ⟨#[]⟩) 1 16 Tryd.underlying22 hi hz0 hz1 hz2 rfl (by decide) u3 j (((List.range j).map (Tr.pairOf lev)).map vstr) rfl (row_keptB HR9.out ((Chg.refl _ _).alloc _)) ⟨w9.heap.size, 0, none⟩ 1 1 [.string ⟨(Tr.node y1 z1).toArray⟩] rfl rfl (fun j u hj => by rw [addr_add, Nat.zero_add]; exact (Blk.new w9 [.string ⟨(Tr.node y1 z1).toArray⟩] _).cell hj) (by intro u hu; simp at hu; rw [hu]; rfl) (by decide) (by unfold maxLen; omega) (by omega) hb3 _ rfl (fun g9 cap9 w10 hown hgrow hat hlt10 => ?_)
        have HOWN := Lib.hid hown
        have HC10 := Lib.hid (hHeld.2.2.grown hgrow (fun k hk => .inr (own_ge HROW.out k hk)))
        clear hown hat hlt10 hgrow
        refine hK.out _ _ (held2 HC10.out C1.out C2.out) (fun hHeld => ?_)
        clear hK K
        try simp only [Act.put, List.setIfInBounds_toArray, List.set_cons_zero, List.set_cons_succ, List.getElem_toArray, List.getElem_cons_succ, List.getElem_cons_zero]
        refine wpAnyH_take (i := 13) (v := ?vp13) rfl (by kernel_rfl) (by kernel_rfl) (by kernel_rfl) (fun _ _ _ h => h) (Or.inl ⟨by kernel_rfl, ?hyp13⟩) (by assumption) ?rsp13
        case hyp13 => (intro w9 hSw; (try dsimp only at hSw); go_split_ands; go_simp; try with_reducible rfl)
        try simp only [Act.put, List.setIfInBounds_toArray, List.set_cons_zero, List.set_cons_succ, List.getElem_toArray, List.getElem_cons_succ, List.getElem_cons_zero]
        refine wpAnyH_done (by kernel_rfl) ?_ _
        try simp only [Act.put, List.setIfInBounds_toArray, List.set_cons_zero, List.set_cons_succ, List.getElem_toArray, List.getElem_cons_succ, List.getElem_cons_zero]
        clear hw1 hw2 hw3 hHeld
        go_wp2_with fail
        refine ⟨⟨j + 1, hj1, by rw [HEJ.out]; go_num, ?_, HC10.out⟩, by simp [intOf]; omega⟩
        have h := HOWN.out
        rw [List.range_succ, List.map_append, List.map_append]
        show World.ownsRow _ _ _ _ _ _ (_ ++ [vstr (Tr.pairOf lev j)])
        rw [HPO.out]
        exact h
      · have HPO : Hid (Tr.pairOf lev j = y1) := Lib.hid (by
          unfold Tr.pairOf
          rw [← he, if_neg (by rw [← HN.out]; exact hen2), List.getD_eq_getElem?_getD, hy1]
          rfl)
        have he2 : ¬ (e : Int) + 1 < (n : Int) := by omega
        have hb1 : j + 1 ≤ maxLen := by unfold maxLen; omega
        have hb2 : (j + 1) * 16 ≤ 140737488355328 := by omega
        have hb3 : w.heap.size ≤ (wr.alloc (.cells #[.string ⟨y1.toArray⟩] 9)).heap.size := Nat.le_trans HCR.out.size (by simp)
        clear hy1 c1 he
        go_wp2_with (at_builtin; refine wpList_append_strs _ rfl (.tmp 29) (.tmp 34) 22 rfl w.heap.size 9 i0 (.string ⟨#[]⟩) 16 Tryd.underlying22 hi hz0 hz1 hz2 rfl u3 j (((List.range j).map (Tr.pairOf lev)).map vstr) rfl (row_keptB HROW.out ((Chg.refl _ _).alloc _)) (.slice (some ⟨wr.heap.size, 0, none⟩) 1 1) [y1] rfl (one_strs wr y1) hb1 hb2 hb3 ?_; intro v4 w10 hown4 hgrow4; have HC10 := Lib.hid ((HCR.out.alloc _).grown hgrow4 (fun k hk => .inr (own_ge HROW.out k hk))); have HOWN := Lib.hid hown4; clear hown4 hgrow4 hb1 hb2 hb3)
        go_roundw
        case rel =>
          refine ⟨j + 1, hj1, by rw [HEJ.out]; go_num, ?_, HC10.out⟩
          have h := HOWN.out
          rw [List.range_succ, List.map_append, List.map_append]
          show World.ownsRow _ _ _ _ _ _ (_ ++ [vstr (Tr.pairOf lev j)])
          rw [HPO.out]
          exact h
        case measure => simp [intOf]; omega
    · have hjn : j = (n + 1) / 2 := by omega
      have HU : Hid ((Tr.up lev).length = (n + 1) / 2) := Lib.hid (by rw [Tr.up_len, ← HN.out])
      have hr7 : wr.ownsRow w.heap.size 9 1 u3 ((n + 1) / 2) ((Tr.up lev).map vstr) := by
        have h := HROW.out
        rw [hjn] at h
        rw [Tr.up_eq, ← HN.out]
        exact h
      obtain ⟨no, ncap, rfl, hns⟩ := row_strs2 hr7 HU.out.symm
      have HNS := Lib.hid hns
      have HFR := Lib.hid (own_ge hr7)
      clear hr7 hns hjn HROW
      go_wp2_with fail
      go_ret
      exact ⟨⟨no, ncap, by rw [HU.out]; rfl, by rw [HU.out]; exact HNS.out, by rw [HU.out]; exact HFR.out⟩, HCR.out⟩
set_option maxHeartbeats 1000000 in
theorem rroot_spec (w : World) (v : Value) (l : List Bytes) (HV : Hid (Strs w v l)) (hl : l.length ≤ 60) (HLS : Hid (∀ x ∈ l, x.length ≤ 1000000)) :
    Calls Tryd.prog 14 #[v] w fun e w' => e = .returned (.string ⟨(Tr.root l).toArray⟩) ∧ Chg [] w w' := by
  by_cases h0 : l = []
  · subst h0
    obtain ⟨ao, cap, rfl, hcap, _⟩ := HV.out
    rw [List.length_nil]
    go_enter Tryd.func14, Tryd.ntmps14
    go_wp2_with fail
    have HA : Hid (Chg [] w (w.alloc (.cells #[.string ⟨#[110, 111, 110, 101]⟩] 9))) := Lib.hid ((Chg.refl _ _).alloc _)
    refine (rlist_spec _ _ [[110, 111, 110, 101]] (Lib.hid (one_strs w [110, 111, 110, 101])) (by simp) (Lib.hid (by intro x hx; simp at hx; rw [hx]; decide))).mono ?_
    rintro e w2 ⟨rfl, hc⟩
    have HC := Lib.hid (HA.out.trans hc (by simp))
    clear hc
    go_wp2_with fail
    go_ret
    exact ⟨rfl, HC.out⟩
  · have HROOT : Hid (Tr.root l = Tr.top l.length (l.map Tr.leaf)) := Lib.hid (by unfold Tr.root; rw [if_neg h0])
    obtain ⟨ao, cap, rfl, hcap, _⟩ := HV.out
    obtain ⟨m, hm⟩ : ∃ m, m = l.length := ⟨_, rfl⟩
    have hm0 : 0 < m := by rw [hm]; exact List.length_pos_iff.2 h0
    have HV2 : Hid (Strs w (.slice ao m cap) l) := Lib.hid (by rw [hm]; exact HV.out)
    have hmz : ((m : Int) == 0) = false := by rw [beq_eq_false_iff_ne]; omega
    rw [← hm] at hcap hl HROOT ⊢
    have HM := Lib.hid hm
    clear hm h0
    go_enter Tryd.func14, Tryd.ntmps14
    go_wp2_with fail
    refine (rleaves_spec w _ l HV2 (by rw [← HM.out]; exact hl) HLS).mono ?_
    rintro e w2 ⟨⟨lo, lcap, rfl, hs, _⟩, hc⟩
    have HS := Lib.hid hs
    have HC := Lib.hid hc
    clear hs hc
    go_wp2_with fail
    go_loopw [3] (fun lv wr => ∃ (f : Nat) (lev : List Bytes) (lo : Option Addr) (lcap : Nat), lv = .slice lo lev.length lcap ∧ Strs wr (.slice lo lev.length lcap) lev ∧ 0 < lev.length ∧ lev.length ≤ f ∧ lev.length ≤ 60 ∧ (∀ x ∈ lev, x.length ≤ 1000000) ∧ Tr.root l = Tr.top f lev ∧ Chg [] w wr) (fun lv _ => lenOf lv)
    case atStart => exact ⟨m, l.map Tr.leaf, lo, lcap, by rw [List.length_map], by rw [List.length_map]; exact HS.out, by rw [List.length_map, ← HM.out]; exact hm0, by rw [List.length_map, ← HM.out]; exact Nat.le_refl _, by rw [List.length_map, ← HM.out]; exact hl, fun x hx => by
          obtain ⟨z, _, rfl⟩ := List.mem_map.1 hx
          exact leaf_le z, HROOT.out, HC.out⟩
    case round =>
      obtain ⟨f, lev, lo2, lcap2, rfl, hst, hn0, hnf, hn60, hlx, hro, hch⟩ := hrel
      have HST := Lib.hid hst
      obtain ⟨lo', lcap', he', hlc, hle⟩ := hst
      cases he'
      obtain ⟨n, hn⟩ : ∃ n, n = lev.length := ⟨_, rfl⟩
      rw [← hn] at hlc hn0 hnf hn60 ⊢
      have HN := Lib.hid hn
      have HLE := Lib.hid hle
      have HLX := Lib.hid hlx
      have HRO := Lib.hid hro
      have HCH := Lib.hid hch
      have HST2 : Hid (Strs wr (.slice lo2 n lcap2) lev) := Lib.hid (by rw [hn]; exact HST.out)
      clear hn hle hlx hro hch HST HS HC
      by_cases hn1 : n ≤ 1
      · obtain ⟨y, hy⟩ : ∃ y, lev[0]? = some y := ⟨lev[0]'(by rw [← HN.out]; exact hn0), by simp⟩
        obtain ⟨g, off, rfl, c0⟩ := HLE.out 0 y hy
        rw [Nat.add_zero] at c0
        have HR : Hid (Tr.root l = y) := Lib.hid (by
          rw [HRO.out, Tr.top_end _ _ (by rw [← HN.out]; exact hn1)]
          cases lev with
          | nil => simp at hy
          | cons a r => simp at hy; exact hy)
        clear hy
        go_wp2_with fail
        go_ret
        exact ⟨by rw [HR.out]; rfl, HCH.out⟩
      · have hn2 : 1 < n := by omega
        obtain ⟨f, rfl⟩ : ∃ f', f = f' + 1 := ⟨f - 1, by omega⟩
        have HU : Hid ((Tr.up lev).length = (n + 1) / 2) := Lib.hid (by rw [Tr.up_len, ← HN.out])
        clear hn1
        go_wp2_with fail
        refine (rup_spec _ _ lev HST2 (by rw [← HN.out]; exact hn60) HLX).mono ?_
        rintro e w3 ⟨⟨no, ncap, rfl, hs, _⟩, hc⟩
        have HNS := Lib.hid hs
        have HC3 := Lib.hid (HCH.out.trans hc (by simp))
        clear hs hc HST2
        go_wp2_with fail
        go_roundw
        case rel => exact ⟨f, Tr.up lev, no, ncap, rfl, HNS.out, by rw [HU.out]; omega, by rw [HU.out]; omega, by rw [HU.out]; omega, Tr.up_small HLX.out, by rw [HRO.out, Tr.top_go _ _ (by rw [← HN.out]; omega)], HC3.out⟩
        case measure =>
          show (Tr.up lev).length < n
          rw [HU.out]
          omega
end Go.Proofs.YtpeehlflhnhhjaaDoor
