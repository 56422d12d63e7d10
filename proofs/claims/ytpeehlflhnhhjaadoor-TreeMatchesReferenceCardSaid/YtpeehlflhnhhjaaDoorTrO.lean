/-
  Layer 4: the walk of found.
-/
import Derived.Test.YtpeehlflhnhhjaaDoorTrN
import Derived.StillTailTactics
import Derived.Deep.DeepCutAuto
namespace Go.Proofs.YtpeehlflhnhhjaaDoor
set_option linter.unusedVariables false
set_option linter.unusedSimpArgs false
open Go Go.RowKit Go.Shelf

theorem clash_yes (w : World) (HL : Hid (Laid w)) (v u : Value) (a b : List Bytes) (HV : Hid (Strs w v a)) (HU : Hid (Strs w u b)) (ha : a.length ≤ 900) (hb : b.length ≤ 900) (HA : Hid (∀ x ∈ a, x.length ≤ 1000000)) (HB : Hid (∀ x ∈ b, x.length ≤ 1000000)) (H : Hid (Tr.clash a b = true)) :
    Calls Tryd.prog 29 #[v, u] w fun e w' => e = .returned (.bool true) ∧ Chg [] w w' := by
  have h := collide_spec w HL v u a b HV HU ha hb HA HB
  rwa [H.out] at h
theorem clash_no (w : World) (HL : Hid (Laid w)) (v u : Value) (a b : List Bytes) (HV : Hid (Strs w v a)) (HU : Hid (Strs w u b)) (ha : a.length ≤ 900) (hb : b.length ≤ 900) (HA : Hid (∀ x ∈ a, x.length ≤ 1000000)) (HB : Hid (∀ x ∈ b, x.length ≤ 1000000)) (H : Hid (Tr.clash a b = false)) :
    Calls Tryd.prog 29 #[v, u] w fun e w' => e = .returned (.bool false) ∧ Chg [] w w' := by
  have h := collide_spec w HL v u a b HV HU ha hb HA HB
  rwa [H.out] at h
theorem row_strs2 {W : World} {B : Nat} {e : TypeId} {v : Value} {n : Nat} {l : List Bytes} (h : W.ownsRow B e 1 v n (l.map vstr)) (hn : n = l.length) : ∃ ao cap, v = .slice ao n cap ∧ Strs W (.slice ao n cap) l := by
  subst hn
  have h1 := strs_row h
  obtain ⟨ao, cap, rfl, hle, h2⟩ := h1
  exact ⟨ao, cap, rfl, ⟨ao, cap, rfl, hle, h2⟩⟩
theorem held2 {wc W : World} {a1 a2 : Addr} {x1 x2 : Value} (hc : Chg [] wc W) (h1 : wc.cell? a1 = some x1) (h2 : wc.cell? a2 = some x2) : W.cell? a1 = some x1 ∧ W.cell? a2 = some x2 ∧ Chg [] wc W :=
  ⟨(World.cell?_of_block (hc.block a1.block (World.block_lt_of_cell? _ _ h1) (by simp))).trans h1, (World.cell?_of_block (hc.block a2.block (World.block_lt_of_cell? _ _ h2) (by simp))).trans h2, hc⟩
set_option maxRecDepth 100000 in
set_option maxHeartbeats 4000000 in
theorem found_walk (w : World) (HL : Hid (Laid w)) (v : Value) (l : List Bytes) (HV : Hid (Strs w v l)) (i : Nat) (hi : i < l.length) (hl : l.length ≤ 60) (HLS : Hid (∀ x ∈ l, x.length ≤ 1000000)) (t : Bytes) (ht : t.length ≤ 1000000) (u : Value) (ps : List Bytes) (HU : Hid (Strs w u ps)) (hps : ps.length ≤ 100) (HPS : Hid (∀ x ∈ ps, x.length ≤ 1000000)) :
    Calls Tryd.prog 18 #[v, .int .i64 (i : Int), .string ⟨t.toArray⟩, u] w fun e w' => e = .returned (.bool (Tr.found l i t ps)) ∧ Chg [] w w' := by
  obtain ⟨ao, cap, rfl, hcap, hv⟩ := HV.out
  have HE := Lib.hid hv
  obtain ⟨uo, ucap, rfl, hucap, hu⟩ := HU.out
  have HUE := Lib.hid hu
  obtain ⟨m, hm⟩ : ∃ m, m = l.length := ⟨_, rfl⟩
  obtain ⟨pq, hpq⟩ : ∃ pq, pq = ps.length := ⟨_, rfl⟩
  have hm60 : m ≤ 60 := by rw [hm]; exact hl
  have him : i < m := by rw [hm]; exact hi
  have HIL := Lib.hid hi
  have hpq1 : pq ≤ 100 := by rw [hpq]; exact hps
  rw [← hm] at hcap ⊢
  rw [← hpq] at hucap ⊢
  have HM := Lib.hid hm
  have HPQ := Lib.hid hpq
  clear hv hm hu hpq hl hi hps
  obtain ⟨y, hy⟩ : ∃ y, l[i]? = some y := ⟨l[i]'HIL.out, by simp⟩
  obtain ⟨g, off, rfl, c0⟩ := HE.out i y hy
  have hyl : y.length ≤ 1000000 := HLS.out y (List.mem_of_getElem? hy)
  have HYD : Hid (l.getD i [] = y) := Lib.hid (by rw [List.getD_eq_getElem?_getD, hy]; rfl)
  have hi0 : (0 : Int) ≤ (i : Int) := by omega
  have hi1 : (i : Int) < (m : Int) := by omega
  clear hy
  have lg : g < w.heap.size := World.block_lt_of_cell? _ _ c0
  have HA1 : Hid (Chg [] w (w.alloc (.cells #[.string ⟨#[108, 101, 97, 102]⟩, .string ⟨t.toArray⟩] 9))) := Lib.hid ((Chg.refl _ _).alloc _)
  have HA2 : Hid (Chg [] w ((w.alloc (.cells #[.string ⟨#[108, 101, 97, 102]⟩, .string ⟨t.toArray⟩] 9)).alloc (.cells #[.string ⟨#[108, 101, 97, 102]⟩, .string ⟨y.toArray⟩] 9))) := Lib.hid (HA1.out.alloc _)
  have HS1 : Hid (Strs ((w.alloc (.cells #[.string ⟨#[108, 101, 97, 102]⟩, .string ⟨t.toArray⟩] 9)).alloc (.cells #[.string ⟨#[108, 101, 97, 102]⟩, .string ⟨y.toArray⟩] 9)) (.slice (some ⟨w.heap.size, 0, none⟩) 2 2) (Tr.leafL t)) := Lib.hid ((two_strs w [108, 101, 97, 102] t).quiet ((Chg.refl _ _).alloc _))
  have HS2 : Hid (Strs ((w.alloc (.cells #[.string ⟨#[108, 101, 97, 102]⟩, .string ⟨t.toArray⟩] 9)).alloc (.cells #[.string ⟨#[108, 101, 97, 102]⟩, .string ⟨y.toArray⟩] 9)) (.slice (some ⟨w.heap.size + 1, 0, none⟩) 2 2) (Tr.leafL y)) := Lib.hid (by
    have h := two_strs (w.alloc (.cells #[.string ⟨#[108, 101, 97, 102]⟩, .string ⟨t.toArray⟩] 9)) [108, 101, 97, 102] y
    rwa [World.size_alloc] at h)
  have HLT : Hid (∀ x ∈ Tr.leafL t, x.length ≤ 1000000) := Lib.hid (all2 (by decide) ht)
  have HLY : Hid (∀ x ∈ Tr.leafL y, x.length ≤ 1000000) := Lib.hid (all2 (by decide) hyl)
  have hl2 : (Tr.leafL t).length ≤ 900 ∧ (Tr.leafL y).length ≤ 900 := by simp [Tr.leafL]
  cases hcl : Tr.clash (Tr.leafL t) (Tr.leafL y) with
  | true =>
    have HCL := Lib.hid hcl
    have HF : Hid (Tr.found l i t ps = true) := Lib.hid (by unfold Tr.found; rw [HYD.out, hcl, Bool.true_or])
    clear hcl
    go_enter Tryd.func18, Tryd.ntmps18
    go_wp2_with fail
    refine (clash_yes _ (Lib.hid (HL.out.quiet HA2.out)) _ _ (Tr.leafL t) (Tr.leafL y) HS1 HS2 hl2.1 hl2.2 HLT HLY HCL).mono ?_
    rintro e w2 ⟨rfl, hc⟩
    have HC := Lib.hid (HA2.out.trans hc (by simp))
    clear hc
    go_wp2_with fail
    go_ret
    exact ⟨by rw [HF.out]; rfl, HC.out⟩
  | false =>
    have HCL := Lib.hid hcl
    have HF : Hid (Tr.found l i t ps = Tr.fnd m (l.map Tr.leaf) i (Tr.leaf t) ps) := Lib.hid (by unfold Tr.found; rw [HYD.out, hcl, Bool.false_or, ← HM.out])
    clear hcl
    go_enter Tryd.func18, Tryd.ntmps18
    go_wp2_with fail
    refine (clash_no _ (Lib.hid (HL.out.quiet HA2.out)) _ _ (Tr.leafL t) (Tr.leafL y) HS1 HS2 hl2.1 hl2.2 HLT HLY HCL).mono ?_
    rintro e w2 ⟨rfl, hc⟩
    have HC := Lib.hid (HA2.out.trans hc (by simp))
    clear hc HA1 HA2 HS1 HS2 HLT HLY hl2 c0 lg hyl HYD HCL
    go_wp2_with fail
    obtain ⟨i0, hi, hz0, hz1, hz2⟩ := info_parts info_str
    go_loopw [9, 10] (fun lv k wr => ∃ j : Nat, j ≤ m ∧ k = .int .i64 j ∧ wr.ownsRow w.heap.size 9 1 lv j (((l.take j).map Tr.leaf).map vstr) ∧ Chg [] w wr) (fun _ k _ => m - (intOf k).toNat)
    case atStart => exact ⟨0, Nat.zero_le _, rfl, World.ownsRow_nil _ _ _ _, HC.out⟩
    case round =>
      obtain ⟨j, hj, rfl, hrow, hchg⟩ := hrel
      have HROW := Lib.hid hrow
      have HC1 := Lib.hid hchg
      clear hrow hchg
      by_cases hlt : j < m
      · obtain ⟨x, hx⟩ : ∃ x, l[j]? = some x := ⟨l[j]'(by rw [← HM.out]; exact hlt), by simp⟩
        obtain ⟨g', off', he, c0⟩ := HE.out j x hx
        cases he
        have c1 := (World.cell?_of_block (HC1.out.block g (World.block_lt_of_cell? _ _ c0) (by simp))).trans c0
        have hxl : x.length ≤ 1000000 := HLS.out x (List.mem_of_getElem? hx)
        have HX := Lib.hid hx
        clear hx c0
        go_wp2_with fail
        refine (leaf_spec _ (Lib.hid (HL.out.quiet HC1.out)) x hxl).mono ?_
        rintro e w3 ⟨rfl, hc⟩
        have HC3 := Lib.hid (HC1.out.trans hc (by simp))
        have HR3 := Lib.hid (row_keptB HROW.out hc)
        clear hc c1 HROW HC1
        have hb1 : j + 1 ≤ maxLen := by unfold maxLen; omega
        have hb2 : (j + 1) * 16 ≤ 140737488355328 := by omega
        have hb3 : w.heap.size ≤ (w3.alloc (.cells #[.string ⟨(Tr.leaf x).toArray⟩] 9)).heap.size := Nat.le_trans HC3.out.size (by simp)
        go_wp2_with (at_builtin; refine wpList_append_strs _ rfl (.tmp 31) (.tmp 37) 22 rfl w.heap.size 9 i0 (.string ⟨#[]⟩) 16 Tryd.underlying22 hi hz0 hz1 hz2 rfl u9 j (((l.take j).map Tr.leaf).map vstr) rfl (row_keptB HR3.out ((Chg.refl _ _).alloc _)) (.slice (some ⟨w3.heap.size, 0, none⟩) 1 1) [Tr.leaf x] rfl (one_strs w3 (Tr.leaf x)) hb1 hb2 hb3 ?_; intro v4 w4 hown4 hgrow4; have HC4 := Lib.hid ((HC3.out.alloc _).grown hgrow4 (fun k hk => .inr (own_ge HR3.out k hk))); have HR4 := Lib.hid hown4; clear hown4 hgrow4 hb1 hb2 hb3)
        go_roundw
        case rel =>
          refine ⟨j + 1, by omega, by go_num, ?_, HC4.out⟩
          have h := HR4.out
          rw [← List.map_append] at h
          rw [List.take_add_one, HX.out, List.map_append]
          exact h
        case measure => simp [intOf]; omega
      · have hjm : j = m := by omega
        have HR0 : Hid (wr.ownsRow w.heap.size 9 1 u9 m ((l.map Tr.leaf).map vstr)) := Lib.hid (by
          have h := HROW.out
          rw [hjm, List.take_of_length_le (by rw [HM.out]; exact Nat.le_refl _)] at h
          exact h)
        clear hjm HROW
        obtain ⟨lo, lcap, rfl, hls⟩ := row_strs2 HR0.out (by rw [List.length_map]; exact HM.out)
        have HLV := Lib.hid hls
        clear hls HR0
        go_wp2_with fail
        refine (leaf_spec _ (Lib.hid (HL.out.quiet HC1.out)) t ht).mono ?_
        rintro e w3 ⟨rfl, hc⟩
        have HC3 := Lib.hid (HC1.out.trans hc (by simp))
        have HLV3 := Lib.hid (HLV.out.quiet hc)
        clear hc HC1 HLV HC
        go_wp2_with fail
        go_loopw [1, 9, 11, 12] (fun iv lv av uv wr => ∃ (f k used : Nat) (lev : List Bytes) (y : Bytes) (qs : List Bytes) (lo : Option Addr) (lcap : Nat), iv = .int .i64 (k : Int) ∧ lv = .slice lo lev.length lcap ∧ av = .string ⟨y.toArray⟩ ∧ uv = .int .i64 (used : Int) ∧ Strs wr (.slice lo lev.length lcap) lev ∧ k < lev.length ∧ lev.length ≤ f ∧ lev.length ≤ 60 ∧ (∀ x ∈ lev, x.length ≤ 1000000) ∧ y.length ≤ 1000000 ∧ ps.drop used = qs ∧ used ≤ pq ∧ Tr.fnd m (l.map Tr.leaf) i (Tr.leaf t) ps = Tr.fnd f lev k y qs ∧ Chg [] w wr) (fun _ lv _ _ _ => lenOf lv)
        case atStart => exact ⟨m, i, 0, l.map Tr.leaf, Tr.leaf t, ps, lo, lcap, rfl, by rw [List.length_map, ← HM.out], rfl, rfl, by rw [List.length_map, ← HM.out]; exact HLV3.out, by rw [List.length_map]; exact HIL.out, by rw [List.length_map, ← HM.out]; exact Nat.le_refl _, by rw [List.length_map, ← HM.out]; exact hm60, fun x hx => by
          obtain ⟨z, _, rfl⟩ := List.mem_map.1 hx
          exact leaf_le z, leaf_le t, rfl, Nat.zero_le _, rfl, HC3.out⟩
        case round =>
          obtain ⟨f, k, used, lev, y2, qs, lo2, lcap2, rfl, rfl, rfl, rfl, hst, hkn, hnf, hn60, hlx, hy2, hdr, hus, hfe, hch⟩ := hrel
          obtain ⟨lo', lcap', he', hlc, hle⟩ := hst
          cases he'
          obtain ⟨n, hn⟩ : ∃ n, n = lev.length := ⟨_, rfl⟩
          rw [← hn] at hlc hkn hnf hn60 ⊢
          have HN := Lib.hid hn
          have HLE := Lib.hid hle
          have HLX := Lib.hid hlx
          have HDR := Lib.hid hdr
          have HFE := Lib.hid hfe
          have HCH := Lib.hid hch
          clear hn hle hlx hdr hfe hch HLV3 HC3
          by_cases hn1 : n ≤ 1
          · have HR : Hid (Tr.found l i t ps = false) := Lib.hid (by rw [HF.out, HFE.out, Tr.fnd_end _ _ _ _ _ (by rw [← HN.out]; exact hn1)])
            go_wp2_with fail
            go_ret
            exact ⟨by rw [HR.out]; rfl, HCH.out⟩
          · have hn2 : 1 < n := by omega
            obtain ⟨f, rfl⟩ : ∃ f', f = f' + 1 := ⟨f - 1, by omega⟩
            have HSL := Lib.hid (Tr.sib_lt hkn)
            obtain ⟨wo, hwo⟩ : ∃ wo : World, wo = wr := ⟨_, rfl⟩
            rw [← hwo] at HLE HCH ⊢
            clear hwo hn1
            go_upto_region 11 with (fail)
            go_cut [53] (fun s53 wx => wx = wo ∧ s53 = .bool (decide (Tr.sib k < n)))
            case first =>
              by_cases hk2 : k % 2 = 1
              · have hkz : ((k : Int) % 2 == 1) = true := by rw [beq_iff_eq]; omega
                have HSS : Hid (decide (Tr.sib k < n) = true) := Lib.hid (decide_eq_true (HSL.out.2 (.inl hk2)))
                clear hk2
                go_wp2_with fail
                go_meet
                exact ⟨rfl, by rw [HSS.out]⟩
              · have hkz : ((k : Int) % 2 == 1) = false := by rw [beq_eq_false_iff_ne]; omega
                by_cases hk3 : k + 1 < n
                · have HSS : Hid (decide (Tr.sib k < n) = true) := Lib.hid (decide_eq_true (HSL.out.2 (.inr hk3)))
                  have hk4 : (k : Int) + 1 < (n : Int) := by omega
                  clear hk2
                  go_wp2_with fail
                  go_meet
                  exact ⟨rfl, by rw [HSS.out]⟩
                · have HSS : Hid (decide (Tr.sib k < n) = false) := Lib.hid (decide_eq_false (fun h => (HSL.out.1 h).elim hk2 hk3))
                  have hk4 : ¬ (k : Int) + 1 < (n : Int) := by omega
                  clear hk2
                  go_wp2_with fail
                  go_meet
                  exact ⟨rfl, by rw [HSS.out]⟩
            case rest =>
              obtain ⟨hwe, rfl⟩ := hcut
              have hwe := hwe.symm
              subst hwe
              obtain ⟨b, hb⟩ : ∃ b, b = decide (Tr.sib k < n) := ⟨_, rfl⟩
              rw [← hb]
              have HB := Lib.hid hb
              clear hb
              go_upto_if 53 with (fail)
              go_cut [11, 12] (fun av uv wx => ∃ (used' : Nat) (y' : Bytes) (qs' : List Bytes), av = .string ⟨y'.toArray⟩ ∧ uv = .int .i64 (used' : Int) ∧ y'.length ≤ 1000000 ∧ ps.drop used' = qs' ∧ used' ≤ pq ∧ Tr.fnd (f + 1) lev k y2 qs = Tr.fnd f (Tr.up lev) (k / 2) y' qs' ∧ Chg [] wo wx)
              case first =>
                cases b with
                | false =>
                  go_wp2_with fail
                  go_meet
                  exact ⟨used, y2, qs, rfl, rfl, hy2, HDR.out, hus, Tr.fnd_skip _ _ _ _ _ (by rw [← HN.out]; omega) (by rw [← HN.out]; exact of_decide_eq_false HB.out.symm), Chg.refl _ _⟩
                | true =>
                  have hsn : Tr.sib k < n := of_decide_eq_true HB.out.symm
                  have HSN := Lib.hid hsn
                  clear hsn
                  cases qs with
                  | nil =>
                    have HR : Hid (Tr.found l i t ps = false) := Lib.hid (by rw [HF.out, HFE.out, Tr.fnd_stop _ _ _ _ (by rw [← HN.out]; omega) (by rw [← HN.out]; exact HSN.out)])
                    have hup : pq ≤ used := by
                      have := congrArg List.length HDR.out
                      rw [List.length_drop, ← HPQ.out, List.length_nil] at this
                      omega
                    go_wp2_with fail
                    go_ret
                    exact ⟨by rw [HR.out]; rfl, HCH.out⟩
                  | cons pe qs2 =>
                    have hup : used < pq := by
                      have := congrArg List.length HDR.out
                      rw [List.length_drop, ← HPQ.out, List.length_cons] at this
                      omega
                    have hup2 : ¬ pq ≤ used := by omega
                    have hpe : ps[used]? = some pe := by
                      have := congrArg (fun z => z[0]?) HDR.out
                      simpa using this
                    have hdr2 : ps.drop (used + 1) = qs2 := by
                      have := congrArg (List.drop 1) HDR.out
                      rwa [List.drop_drop, List.drop_succ_cons, List.drop_zero] at this
                    have hpel : pe.length ≤ 1000000 := HPS.out pe (List.mem_of_getElem? hpe)
                    obtain ⟨pg, poff, rfl, pc⟩ := HUE.out used pe hpe
                    have pc1 := (World.cell?_of_block (HCH.out.block pg (World.block_lt_of_cell? _ _ pc) (by simp))).trans pc
                    have lpg := World.block_lt_of_cell? _ _ pc1
                    obtain ⟨ye, hye⟩ : ∃ ye, lev[k]? = some ye := ⟨lev[k]'(by rw [← HN.out]; exact hkn), by simp⟩
                    obtain ⟨lg, loff, rfl, lc⟩ := HLE.out k ye hye
                    have llg := World.block_lt_of_cell? _ _ lc
                    have hyel : ye.length ≤ 1000000 := HLX.out ye (List.mem_of_getElem? hye)
                    have HYE : Hid (lev.getD k [] = ye) := Lib.hid (by rw [List.getD_eq_getElem?_getD, hye]; rfl)
                    have HD2 := Lib.hid hdr2
                    clear hpe hdr2 pc hye
                    have hk0 : (0 : Int) ≤ (k : Int) := by omega
                    by_cases hk2 : k % 2 = 1
                    · have hkz : ((k : Int) % 2 == 1) = true := by rw [beq_iff_eq]; omega
                      obtain ⟨kk, hkk⟩ : ∃ kk, k = kk + 1 := ⟨k - 1, by omega⟩
                      obtain ⟨zl, hzl⟩ : ∃ zl, lev[kk]? = some zl := ⟨lev[kk]'(by rw [← HN.out]; omega), by simp⟩
                      obtain ⟨lg', loff', he', zc⟩ := HLE.out kk zl hzl
                      cases he'
                      have hzll : zl.length ≤ 1000000 := HLX.out zl (List.mem_of_getElem? hzl)
                      have HONE : Hid (Tr.oneL k y2 pe = Tr.nodeL pe y2) := Lib.hid (by unfold Tr.oneL; rw [if_pos hk2])
                      have HTWO : Hid (Tr.twoL k lev = Tr.nodeL zl ye) := Lib.hid (by
                        unfold Tr.twoL
                        rw [if_pos hk2, HYE.out, show k - 1 = kk by omega, List.getD_eq_getElem?_getD, hzl]
                        rfl)
                      have hw1 : IntKind.i64.wrap ((k : Int) - 1) = (kk : Int) := by rw [IntWalk.i64_in _ (by omega)]; omega
                      have hkk0 : (0 : Int) ≤ (kk : Int) := by omega
                      have hkk1 : (kk : Int) < (n : Int) := by omega
                      have hkk2 : ((kk : Int)).toNat = kk := by omega
                      have hk3 : (k : Int) < (n : Int) := by omega
                      clear hk2 hkk hzl
                      go_wp2_with fail
                      have HCQ : Hid (Chg [] wo (((wo.alloc (.cells #[.string ⟨#[110, 111, 100, 101]⟩, .string ⟨y2.toArray⟩, .string ⟨pe.toArray⟩] 9)).alloc (.cells #[.string ⟨#[110, 111, 100, 101]⟩, .string ⟨ye.toArray⟩, .string ⟨#[]⟩] 9)).alloc (.cells #[.string ⟨#[110, 111, 100, 101]⟩, .string ⟨pe.toArray⟩, .string ⟨y2.toArray⟩] 9))) := Lib.hid ((((Chg.refl _ _).alloc _).alloc _).alloc _)
                      have HSO0 : Hid (Strs (((wo.alloc (.cells #[.string ⟨#[110, 111, 100, 101]⟩, .string ⟨y2.toArray⟩, .string ⟨pe.toArray⟩] 9)).alloc (.cells #[.string ⟨#[110, 111, 100, 101]⟩, .string ⟨ye.toArray⟩, .string ⟨#[]⟩] 9)).alloc (.cells #[.string ⟨#[110, 111, 100, 101]⟩, .string ⟨pe.toArray⟩, .string ⟨y2.toArray⟩] 9)) (.slice (some ⟨wo.heap.size + 1 + 1, 0, none⟩) 3 3) (Tr.oneL k y2 pe)) := Lib.hid (by
                        rw [HONE.out]
                        have h := three_strs ((wo.alloc (.cells #[.string ⟨#[110, 111, 100, 101]⟩, .string ⟨y2.toArray⟩, .string ⟨pe.toArray⟩] 9)).alloc (.cells #[.string ⟨#[110, 111, 100, 101]⟩, .string ⟨ye.toArray⟩, .string ⟨#[]⟩] 9)) [110, 111, 100, 101] pe y2
                        rwa [World.size_alloc, World.size_alloc] at h)
                      have hqs : ((((wo.alloc (.cells #[.string ⟨#[110, 111, 100, 101]⟩, .string ⟨y2.toArray⟩, .string ⟨pe.toArray⟩] 9)).alloc (.cells #[.string ⟨#[110, 111, 100, 101]⟩, .string ⟨ye.toArray⟩, .string ⟨#[]⟩] 9)).alloc (.cells #[.string ⟨#[110, 111, 100, 101]⟩, .string ⟨pe.toArray⟩, .string ⟨y2.toArray⟩] 9))).heap.size = wo.heap.size + 1 + 1 + 1 := by simp
                      obtain ⟨wq, hwq⟩ : ∃ wq, wq = (((wo.alloc (.cells #[.string ⟨#[110, 111, 100, 101]⟩, .string ⟨y2.toArray⟩, .string ⟨pe.toArray⟩] 9)).alloc (.cells #[.string ⟨#[110, 111, 100, 101]⟩, .string ⟨ye.toArray⟩, .string ⟨#[]⟩] 9)).alloc (.cells #[.string ⟨#[110, 111, 100, 101]⟩, .string ⟨pe.toArray⟩, .string ⟨y2.toArray⟩] 9)) := ⟨_, rfl⟩
                      rw [← hwq] at HCQ HSO0 hqs ⊢
                      have HQS := Lib.hid hqs
                      have q0 := (World.cell?_of_block (HCQ.out.block lg llg (by simp))).trans zc
                      have q1 := (World.cell?_of_block (HCQ.out.block lg llg (by simp))).trans lc
                      have ql : lg < wq.heap.size := Nat.lt_of_lt_of_le llg HCQ.out.size
                      have qn := World.new_ne wq.drew _ (show wq.drew.cell? ⟨lg, loff + kk, none⟩ = some _ from q0)
                      clear hwq hqs zc lc
                      go_region_held3 (fun W => W.cell? ⟨lg, loff + kk, none⟩ = some (.string ⟨zl.toArray⟩) ∧ W.cell? ⟨lg, loff + k, none⟩ = some (.string ⟨ye.toArray⟩)) (first | exact ⟨q0, q1⟩ | go_keep) (fail)
                      clear hw1 hkk2
                      have HCA : Hid (Chg [] wq (wq.drew.alloc (.cells #[.string ⟨#[110, 111, 100, 101]⟩, .string ⟨zl.toArray⟩, .string ⟨ye.toArray⟩] 9))) := Lib.hid ((Chg.refl _ _).drew.alloc _)
                      have HCRW := Lib.hid (HCQ.out.trans HCA.out (by simp))
                      have HCR := Lib.hid (HCH.out.trans HCRW.out (by simp))
                      have HSO := Lib.hid (HSO0.out.quiet HCA.out)
                      have HST : Hid (Strs (wq.drew.alloc (.cells #[.string ⟨#[110, 111, 100, 101]⟩, .string ⟨zl.toArray⟩, .string ⟨ye.toArray⟩] 9)) (.slice (some ⟨wq.heap.size, 0, none⟩) 3 3) (Tr.twoL k lev)) := Lib.hid (by rw [HTWO.out]; exact three_strs wq.drew [110, 111, 100, 101] zl ye)
                      clear q0 q1 ql qn HCQ HSO0 HCA HCH
                      have HSM1 : Hid (∀ x ∈ Tr.oneL k y2 pe, x.length ≤ 1000000) := Lib.hid (by rw [HONE.out]; exact all3 (by decide) (by omega) (by omega))
                      have HSM2 : Hid (∀ x ∈ Tr.twoL k lev, x.length ≤ 1000000) := Lib.hid (by rw [HTWO.out]; exact all3 (by decide) (by omega) (by omega))
                      have hl3 : (Tr.oneL k y2 pe).length ≤ 900 ∧ (Tr.twoL k lev).length ≤ 900 := by rw [HONE.out, HTWO.out]; simp [Tr.nodeL]
                      have HFG : Hid (Tr.fnd (f + 1) lev k y2 (pe :: qs2) = (Tr.clash (Tr.oneL k y2 pe) (Tr.twoL k lev) || Tr.fnd f (Tr.up lev) (k / 2) (Dg.list (Tr.oneL k y2 pe)) qs2)) := Lib.hid (Tr.fnd_go _ _ _ _ _ _ (by rw [← HN.out]; omega) (by rw [← HN.out]; exact HSN.out))
                      cases hcl : Tr.clash (Tr.oneL k y2 pe) (Tr.twoL k lev) with
                      | true =>
                        have HCL := Lib.hid hcl
                        have HR : Hid (Tr.found l i t ps = true) := Lib.hid (by rw [HF.out, HFE.out, HFG.out, hcl, Bool.true_or])
                        clear hcl
                        go_wp2_with fail
                        refine (clash_yes _ (Lib.hid (HL.out.quiet HCR.out)) _ _ (Tr.oneL k y2 pe) (Tr.twoL k lev) HSO HST hl3.1 hl3.2 HSM1 HSM2 HCL).mono ?_
                        rintro e w7 ⟨rfl, hc⟩
                        have HC7 := Lib.hid (HCR.out.trans hc (by simp))
                        clear hc
                        go_wp2_with fail
                        go_ret
                        exact ⟨by rw [HR.out]; rfl, HC7.out⟩
                      | false =>
                        have HCL := Lib.hid hcl
                        have HR : Hid (Tr.fnd (f + 1) lev k y2 (pe :: qs2) = Tr.fnd f (Tr.up lev) (k / 2) (Dg.list (Tr.oneL k y2 pe)) qs2) := Lib.hid (by rw [HFG.out, hcl, Bool.false_or])
                        clear hcl
                        go_wp2_with fail
                        refine (clash_no _ (Lib.hid (HL.out.quiet HCR.out)) _ _ (Tr.oneL k y2 pe) (Tr.twoL k lev) HSO HST hl3.1 hl3.2 HSM1 HSM2 HCL).mono ?_
                        rintro e w7 ⟨rfl, hc⟩
                        have HCR7 := Lib.hid (HCR.out.trans hc (by simp))
                        have HCW7 := Lib.hid (HCRW.out.trans hc (by simp))
                        have HSO7 := Lib.hid (HSO.out.quiet hc)
                        clear hc HCR HSO HST
                        go_wp2_with fail
                        refine (list_spec _ (Lib.hid (HL.out.quiet HCR7.out)) _ (Tr.oneL k y2 pe) HSO7 hl3.1 HSM1).mono ?_
                        rintro e w8 ⟨rfl, hc⟩
                        have HCW8 := Lib.hid (HCW7.out.trans hc (by simp))
                        clear hc HCR7 HSO7 HCW7
                        go_wp2_with fail
                        go_meet
                        exact ⟨used + 1, _, qs2, rfl, by go_num, by unfold Dg.list; rw [Dg.sum_len]; decide, HD2.out, by omega, HR.out, HCW8.out⟩
                    · have hkz : ((k : Int) % 2 == 1) = false := by rw [beq_eq_false_iff_ne]; omega
                      have hks : k + 1 < n := by
                        have := HSL.out.1 HSN.out
                        omega
                      have hks2 : (k : Int) + 1 < (n : Int) := by omega
                      obtain ⟨zl, hzl⟩ : ∃ zl, lev[k + 1]? = some zl := ⟨lev[k + 1]'(by rw [← HN.out]; omega), by simp⟩
                      obtain ⟨lg', loff', he', zc⟩ := HLE.out (k + 1) zl hzl
                      cases he'
                      have hzll : zl.length ≤ 1000000 := HLX.out zl (List.mem_of_getElem? hzl)
                      have HONE : Hid (Tr.oneL k y2 pe = Tr.nodeL y2 pe) := Lib.hid (by unfold Tr.oneL; rw [if_neg hk2])
                      have HTWO : Hid (Tr.twoL k lev = Tr.nodeL ye zl) := Lib.hid (by
                        unfold Tr.twoL
                        rw [if_neg hk2, HYE.out, List.getD_eq_getElem?_getD, hzl]
                        rfl)
                      clear hk2 hzl
                      go_wp2_with fail
                      have HCRW : Hid (Chg [] wo ((wo.alloc (.cells #[.string ⟨#[110, 111, 100, 101]⟩, .string ⟨y2.toArray⟩, .string ⟨pe.toArray⟩] 9)).alloc (.cells #[.string ⟨#[110, 111, 100, 101]⟩, .string ⟨ye.toArray⟩, .string ⟨zl.toArray⟩] 9))) := Lib.hid (((Chg.refl _ _).alloc _).alloc _)
                      have HCR := Lib.hid (HCH.out.trans HCRW.out (by simp))
                      have HSO : Hid (Strs ((wo.alloc (.cells #[.string ⟨#[110, 111, 100, 101]⟩, .string ⟨y2.toArray⟩, .string ⟨pe.toArray⟩] 9)).alloc (.cells #[.string ⟨#[110, 111, 100, 101]⟩, .string ⟨ye.toArray⟩, .string ⟨zl.toArray⟩] 9)) (.slice (some ⟨wo.heap.size, 0, none⟩) 3 3) (Tr.oneL k y2 pe)) := Lib.hid (by rw [HONE.out]; exact (three_strs wo [110, 111, 100, 101] y2 pe).quiet ((Chg.refl _ _).alloc _))
                      have HST : Hid (Strs ((wo.alloc (.cells #[.string ⟨#[110, 111, 100, 101]⟩, .string ⟨y2.toArray⟩, .string ⟨pe.toArray⟩] 9)).alloc (.cells #[.string ⟨#[110, 111, 100, 101]⟩, .string ⟨ye.toArray⟩, .string ⟨zl.toArray⟩] 9)) (.slice (some ⟨wo.heap.size + 1, 0, none⟩) 3 3) (Tr.twoL k lev)) := Lib.hid (by
                        rw [HTWO.out]
                        have h := three_strs (wo.alloc (.cells #[.string ⟨#[110, 111, 100, 101]⟩, .string ⟨y2.toArray⟩, .string ⟨pe.toArray⟩] 9)) [110, 111, 100, 101] ye zl
                        rwa [World.size_alloc] at h)
                      clear zc lc HCH
                      have HSM1 : Hid (∀ x ∈ Tr.oneL k y2 pe, x.length ≤ 1000000) := Lib.hid (by rw [HONE.out]; exact all3 (by decide) (by omega) (by omega))
                      have HSM2 : Hid (∀ x ∈ Tr.twoL k lev, x.length ≤ 1000000) := Lib.hid (by rw [HTWO.out]; exact all3 (by decide) (by omega) (by omega))
                      have hl3 : (Tr.oneL k y2 pe).length ≤ 900 ∧ (Tr.twoL k lev).length ≤ 900 := by rw [HONE.out, HTWO.out]; simp [Tr.nodeL]
                      have HFG : Hid (Tr.fnd (f + 1) lev k y2 (pe :: qs2) = (Tr.clash (Tr.oneL k y2 pe) (Tr.twoL k lev) || Tr.fnd f (Tr.up lev) (k / 2) (Dg.list (Tr.oneL k y2 pe)) qs2)) := Lib.hid (Tr.fnd_go _ _ _ _ _ _ (by rw [← HN.out]; omega) (by rw [← HN.out]; exact HSN.out))
                      cases hcl : Tr.clash (Tr.oneL k y2 pe) (Tr.twoL k lev) with
                      | true =>
                        have HCL := Lib.hid hcl
                        have HR : Hid (Tr.found l i t ps = true) := Lib.hid (by rw [HF.out, HFE.out, HFG.out, hcl, Bool.true_or])
                        clear hcl
                        refine (clash_yes _ (Lib.hid (HL.out.quiet HCR.out)) _ _ (Tr.oneL k y2 pe) (Tr.twoL k lev) HSO HST hl3.1 hl3.2 HSM1 HSM2 HCL).mono ?_
                        rintro e w7 ⟨rfl, hc⟩
                        have HC7 := Lib.hid (HCR.out.trans hc (by simp))
                        clear hc
                        go_wp2_with fail
                        go_ret
                        exact ⟨by rw [HR.out]; rfl, HC7.out⟩
                      | false =>
                        have HCL := Lib.hid hcl
                        have HR : Hid (Tr.fnd (f + 1) lev k y2 (pe :: qs2) = Tr.fnd f (Tr.up lev) (k / 2) (Dg.list (Tr.oneL k y2 pe)) qs2) := Lib.hid (by rw [HFG.out, hcl, Bool.false_or])
                        clear hcl
                        refine (clash_no _ (Lib.hid (HL.out.quiet HCR.out)) _ _ (Tr.oneL k y2 pe) (Tr.twoL k lev) HSO HST hl3.1 hl3.2 HSM1 HSM2 HCL).mono ?_
                        rintro e w7 ⟨rfl, hc⟩
                        have HCR7 := Lib.hid (HCR.out.trans hc (by simp))
                        have HCW7 := Lib.hid (HCRW.out.trans hc (by simp))
                        have HSO7 := Lib.hid (HSO.out.quiet hc)
                        clear hc HCR HSO HST
                        go_wp2_with fail
                        refine (list_spec _ (Lib.hid (HL.out.quiet HCR7.out)) _ (Tr.oneL k y2 pe) HSO7 hl3.1 HSM1).mono ?_
                        rintro e w8 ⟨rfl, hc⟩
                        have HCW8 := Lib.hid (HCW7.out.trans hc (by simp))
                        clear hc HCR7 HSO7 HCW7
                        go_wp2_with fail
                        go_meet
                        exact ⟨used + 1, _, qs2, rfl, by go_num, by unfold Dg.list; rw [Dg.sum_len]; decide, HD2.out, by omega, HR.out, HCW8.out⟩
              case rest =>
                obtain ⟨used', y', qs', rfl, rfl, hy', hdr', hus', hfe', hch'⟩ := hcut
                have HDR' := Lib.hid hdr'
                have HFE' := Lib.hid (HFE.out.trans hfe')
                have HCH' := Lib.hid (HCH.out.trans hch' (by simp))
                have HLE' : Hid (∀ (i : Nat) (x : Bytes), lev[i]? = some x → ∃ g off, lo2 = some ⟨g, off, none⟩ ∧ wc.cell? ⟨g, off + i, none⟩ = some (.string ⟨x.toArray⟩)) := Lib.hid (fun i x hx => by
                  obtain ⟨g, off, h1, h2⟩ := HLE.out i x hx
                  exact ⟨g, off, h1, (World.cell?_of_block (hch'.block g (World.block_lt_of_cell? _ _ h2) (by simp))).trans h2⟩)
                clear hdr' hfe' hch' HDR HFE HCH HLE HB hy2 hus
                go_wp2_with fail
                -- the next level
                have HLC := Lib.hid (HL.out.quiet HCH'.out)
                obtain ⟨wr0, hwr0⟩ : ∃ wr0 : World, wr0 = wc := ⟨_, rfl⟩
                have hn61 : n ≤ 61 := by omega
                go_loopw [15, 16] (fun nv kv wr => ∃ j : Nat, j ≤ (n + 1) / 2 ∧ kv = .int .i64 ((2 * j : Nat) : Int) ∧ wr.ownsRow wc.heap.size 9 1 nv j (((List.range j).map (Tr.pairOf lev)).map vstr) ∧ Chg [] wc wr) (fun _ kv _ => n + 1 - (intOf kv).toNat)
                case atStart => exact ⟨0, Nat.zero_le _, rfl, World.ownsRow_nil _ _ _ _, Chg.refl _ _⟩
                case round =>
                  obtain ⟨j, hj, rfl, hrow, hcr⟩ := hrel
                  have HROW := Lib.hid hrow
                  have HCR := Lib.hid hcr
                  clear hrow hcr
                  obtain ⟨e, he⟩ : ∃ e, e = 2 * j := ⟨_, rfl⟩
                  rw [← he]
                  have HEJ := Lib.hid he
                  have hej : j ≤ 61 := by omega
                  by_cases hen : e < n
                  · have hj1 : j + 1 ≤ (n + 1) / 2 := by omega
                    obtain ⟨y1, hy1⟩ : ∃ y1, lev[e]? = some y1 := ⟨lev[e]'(by rw [← HN.out]; exact hen), by simp⟩
                    obtain ⟨lg, loff, rfl, c1⟩ := HLE'.out e y1 hy1
                    have C1 := Lib.hid c1
                    have HY1 : Hid (y1.length ≤ 1000000) := Lib.hid (HLX.out y1 (List.mem_of_getElem? hy1))
                    have d1 := (World.cell?_of_block (HCR.out.block lg (World.block_lt_of_cell? _ _ c1) (by simp))).trans c1
                    have he0 : (0 : Int) ≤ (e : Int) := by omega
                    have he1 : (e : Int) < (n : Int) := by omega
                    by_cases hen2 : e + 1 < n
                    · obtain ⟨z1, hz1'⟩ : ∃ z1, lev[e + 1]? = some z1 := ⟨lev[e + 1]'(by rw [← HN.out]; exact hen2), by simp⟩
                      obtain ⟨lg', loff', he', c2⟩ := HLE'.out (e + 1) z1 hz1'
                      cases he'
                      have C2 := Lib.hid c2
                      have HZ1 : Hid (z1.length ≤ 1000000) := Lib.hid (HLX.out z1 (List.mem_of_getElem? hz1'))
                      have d2 := (World.cell?_of_block (HCR.out.block lg (World.block_lt_of_cell? _ _ c2) (by simp))).trans c2
                      have HPO : Hid (Tr.pairOf lev j = Tr.node y1 z1) := Lib.hid (by
                        unfold Tr.pairOf
                        rw [← he, if_pos (by rw [← HN.out]; exact hen2), List.getD_eq_getElem?_getD, List.getD_eq_getElem?_getD, hy1, hz1']
                        rfl)
                      have he2 : (e : Int) + 1 < (n : Int) := by omega
                      clear hy1 hz1' c1 c2 he
                      go_wp2_with fail
                      have hw1 : IntKind.i64.wrap ((e : Int) + 1) = (e : Int) + 1 := IntWalk.i64_in _ (by omega)
                      have hw2 : ((e : Int) + 1).toNat = e + 1 := by omega
                      have hw3 : (0 : Int) ≤ (e : Int) + 1 := by omega
                      refine wp_region_held_drew (S := (fun W => W.cell? ⟨lg, loff + e, none⟩ = some (.string ⟨y1.toArray⟩) ∧ W.cell? ⟨lg, loff + (e + 1), none⟩ = some (.string ⟨z1.toArray⟩) ∧ Chg [] wc W)) (by kernel_rfl) ⟨d1, d2, HCR.out.drew⟩ (fun hHeld => ?_)
                      refine wpAnyH_take (i := 0) (v := ?vp0) rfl (by kernel_rfl) (by kernel_rfl) (by kernel_rfl) (fun _ _ _ h => h) (Or.inl ⟨by kernel_rfl, ?hyp0⟩) (by assumption) ?rsp0
                      case hyp0 => (intro w9 hSw; (try dsimp only at hSw); go_split_ands; go_simp; try with_reducible rfl)
                      try simp only [Act.put, List.setIfInBounds_toArray, List.set_cons_zero, List.set_cons_succ, List.getElem_toArray, List.getElem_cons_succ, List.getElem_cons_zero]
                      refine wpAnyH_take (i := 1) (v := ?vp1) rfl (by kernel_rfl) (by kernel_rfl) (by kernel_rfl) (fun _ _ _ h => h) (Or.inl ⟨by kernel_rfl, ?hyp1⟩) (by assumption) ?rsp1
                      case hyp1 => (intro w9 hSw; (try dsimp only at hSw); go_split_ands; go_simp; try with_reducible rfl)
                      try simp only [Act.put, List.setIfInBounds_toArray, List.set_cons_zero, List.set_cons_succ, List.getElem_toArray, List.getElem_cons_succ, List.getElem_cons_zero]
                      refine wpAnyH_take (i := 2) (v := ?vp2) rfl (by kernel_rfl) (by kernel_rfl) (by kernel_rfl) (fun _ _ _ h => h) (Or.inl ⟨by kernel_rfl, ?hyp2⟩) (by assumption) ?rsp2
                      case hyp2 => (intro w9 hSw; (try dsimp only at hSw); go_split_ands; go_simp; try with_reducible rfl)
                      try simp only [Act.put, List.setIfInBounds_toArray, List.set_cons_zero, List.set_cons_succ, List.getElem_toArray, List.getElem_cons_succ, List.getElem_cons_zero]
                      refine wpAnyH_take (i := 3) (v := ?vp3) rfl (by kernel_rfl) (by kernel_rfl) (by kernel_rfl) (fun _ _ _ h => h) (Or.inl ⟨by kernel_rfl, ?hyp3⟩) (by assumption) ?rsp3
                      case hyp3 => (intro w9 hSw; (try dsimp only at hSw); go_split_ands; go_simp; try with_reducible rfl)
                      try simp only [Act.put, List.setIfInBounds_toArray, List.set_cons_zero, List.set_cons_succ, List.getElem_toArray, List.getElem_cons_succ, List.getElem_cons_zero]
                      refine wpAnyH_take (i := 4) (v := ?vp4) rfl (by kernel_rfl) (by kernel_rfl) (by kernel_rfl) (fun _ _ _ h => h) (Or.inl ⟨by kernel_rfl, ?hyp4⟩) (by assumption) ?rsp4
                      case hyp4 => (intro w9 hSw; (try dsimp only at hSw); go_split_ands; go_simp; try with_reducible rfl)
                      try simp only [Act.put, List.setIfInBounds_toArray, List.set_cons_zero, List.set_cons_succ, List.getElem_toArray, List.getElem_cons_succ, List.getElem_cons_zero]
                      refine wpAnyH_take (i := 5) (v := ?vp5) rfl (by kernel_rfl) (by kernel_rfl) (by kernel_rfl) (fun _ _ _ h => h) (Or.inl ⟨by kernel_rfl, ?hyp5⟩) (by assumption) ?rsp5
                      case hyp5 => (intro w9 hSw; (try dsimp only at hSw); go_split_ands; go_simp; try with_reducible rfl)
                      try simp only [Act.put, List.setIfInBounds_toArray, List.set_cons_zero, List.set_cons_succ, List.getElem_toArray, List.getElem_cons_succ, List.getElem_cons_zero]
                      refine wpAnyH_take (i := 6) (v := ?vp6) rfl (by kernel_rfl) (by kernel_rfl) (by kernel_rfl) (fun _ _ _ h => h) (Or.inl ⟨by kernel_rfl, ?hyp6⟩) (by assumption) ?rsp6
                      case hyp6 => (intro w9 hSw; (try dsimp only at hSw); go_split_ands; go_simp; try with_reducible rfl)
                      try simp only [Act.put, List.setIfInBounds_toArray, List.set_cons_zero, List.set_cons_succ, List.getElem_toArray, List.getElem_cons_succ, List.getElem_cons_zero]
                      refine wpAnyH_take (i := 7) (v := ?vp7) rfl (by kernel_rfl) (by kernel_rfl) (by kernel_rfl) (fun _ _ _ h => h) (Or.inl ⟨by kernel_rfl, ?hyp7⟩) (by assumption) ?rsp7
                      case hyp7 => (intro w9 hSw; (try dsimp only at hSw); go_split_ands; go_simp; try with_reducible rfl)
                      try simp only [Act.put, List.setIfInBounds_toArray, List.set_cons_zero, List.set_cons_succ, List.getElem_toArray, List.getElem_cons_succ, List.getElem_cons_zero]
                      refine wpAnyH_take (i := 8) (v := ?vp8) rfl (by kernel_rfl) (by kernel_rfl) (by kernel_rfl) (fun _ _ _ h => h) (Or.inl ⟨by kernel_rfl, ?hyp8⟩) (by assumption) ?rsp8
                      case hyp8 => (intro w9 hSw; (try dsimp only at hSw); go_split_ands; go_simp; try with_reducible rfl)
                      try simp only [Act.put, List.setIfInBounds_toArray, List.set_cons_zero, List.set_cons_succ, List.getElem_toArray, List.getElem_cons_succ, List.getElem_cons_zero]
                      refine wpAnyH_take (i := 9) (v := ?vp9) rfl (by kernel_rfl) (by kernel_rfl) (by kernel_rfl) (fun _ _ _ h => h) (Or.inl ⟨by kernel_rfl, ?hyp9⟩) (by assumption) ?rsp9
                      case hyp9 => (intro w9 hSw; (try dsimp only at hSw); go_split_ands; go_simp; try with_reducible rfl)
                      try simp only [Act.put, List.setIfInBounds_toArray, List.set_cons_zero, List.set_cons_succ, List.getElem_toArray, List.getElem_cons_succ, List.getElem_cons_zero]
                      refine wpAnyH_ready (rs := [10]) (by kernel_rfl) (by simp) (AllReadyH.cons rfl (fun K hK => ?_) AllReadyH.nil)
                      go_simp
                      refine (node_spec _ (Lib.hid (HLC.out.quiet hHeld.2.2)) y1 z1 HY1.out HZ1.out).mono ?_
                      rintro e9 w9 ⟨rfl, hcx⟩
                      have HR9 := Lib.hid (row_keptB (row_keptB HROW.out ((Chg.refl _ _).drew)) hcx)
                      have hb3 : wc.heap.size ≤ (w9.alloc (.cells #[.string ⟨(Tr.node y1 z1).toArray⟩] 9)).heap.size := Nat.le_trans (hHeld.2.2.trans hcx (by simp)).size (by simp)
                      refine hK.out _ _ (held2 (hHeld.2.2.trans hcx (by simp)) C1.out C2.out) (fun hHeld => ?_)
                      clear hK K
                      try simp only [Act.put, List.setIfInBounds_toArray, List.set_cons_zero, List.set_cons_succ, List.getElem_toArray, List.getElem_cons_succ, List.getElem_cons_zero]
                      refine wpAnyH_ready (rs := [11]) (by kernel_rfl) (by simp) (AllReadyH.cons rfl (fun K hK => ?_) AllReadyH.nil)
                      go_simp
                      refine hK.out _ _ (held2 (hHeld.2.2.alloc _) C1.out C2.out) (fun hHeld => ?_)
                      clear hK K
                      try simp only [Act.put, List.setIfInBounds_toArray, List.set_cons_zero, List.set_cons_succ, List.getElem_toArray, List.getElem_cons_succ, List.getElem_cons_zero]
                      refine wpAnyH_ready (rs := [12]) (by kernel_rfl) (by simp) (AllReadyH.cons rfl (fun K hK => ?_) AllReadyH.nil)
                      refine step_append_lies (w9.alloc (.cells #[.string ⟨(Tr.node y1 z1).toArray⟩] 9)) rfl (.tmp 113) (.tmp 124) 22 rfl wc.heap.size 9 i0 (.string ⟨#[]⟩) 1 16 Tryd.underlying22 hi hz0 hz1 hz2 rfl (by decide) u15 j (((List.range j).map (Tr.pairOf lev)).map vstr) rfl (row_keptB HR9.out ((Chg.refl _ _).alloc _)) ⟨w9.heap.size, 0, none⟩ 1 1 [.string ⟨(Tr.node y1 z1).toArray⟩] rfl rfl (fun j u hj => by rw [addr_add, Nat.zero_add]; exact (Blk.new w9 [.string ⟨(Tr.node y1 z1).toArray⟩] _).cell hj) (by intro u hu; simp at hu; rw [hu]; rfl) (by decide) (by unfold maxLen; omega) (by omega) hb3 _ rfl (fun g9 cap9 w10 hown hgrow hat hlt10 => ?_)
                      have HOWN := Lib.hid hown
                      have HC10 := Lib.hid (hHeld.2.2.grown hgrow (fun k hk => .inr (own_ge HROW.out k hk)))
                      clear hown hat hlt10 hgrow
                      refine hK.out _ _ (held2 HC10.out C1.out C2.out) (fun hHeld => ?_)
                      clear hK K
                      try simp only [Act.put, List.setIfInBounds_toArray, List.set_cons_zero, List.set_cons_succ, List.getElem_toArray, List.getElem_cons_succ, List.getElem_cons_zero]
                      refine wpAnyH_take (i := 13) (v := ?vp13) rfl (by kernel_rfl) (by kernel_rfl) (by kernel_rfl) (fun _ _ _ h => h) (Or.inl ⟨by kernel_rfl, ?hyp13⟩) (by assumption) ?rsp13
                      case hyp13 => (intro w9 hSw; (try dsimp only at hSw); go_split_ands; go_simp; try with_reducible rfl)
                      try simp only [Act.put, List.setIfInBounds_toArray, List.set_cons_zero, List.set_cons_succ, List.getElem_toArray, List.getElem_cons_succ, List.getElem_cons_zero]
                      refine wpAnyH_done (by kernel_rfl) ?_ _
                      try simp only [Act.put, List.setIfInBounds_toArray, List.set_cons_zero, List.set_cons_succ, List.getElem_toArray, List.getElem_cons_succ, List.getElem_cons_zero]
                      clear hw1 hw2 hw3 hHeld
                      go_wp2_with fail
                      refine ⟨⟨j + 1, hj1, by rw [HEJ.out]; go_num, ?_, HC10.out⟩, by simp [intOf]; omega⟩
                      have h := HOWN.out
                      rw [List.range_succ, List.map_append, List.map_append]
                      show World.ownsRow _ _ _ _ _ _ (_ ++ [vstr (Tr.pairOf lev j)])
                      rw [HPO.out]
                      exact h
                    · have HPO : Hid (Tr.pairOf lev j = y1) := Lib.hid (by
                        unfold Tr.pairOf
                        rw [← he, if_neg (by rw [← HN.out]; exact hen2), List.getD_eq_getElem?_getD, hy1]
                        rfl)
                      have he2 : ¬ (e : Int) + 1 < (n : Int) := by omega
                      have hb1 : j + 1 ≤ maxLen := by unfold maxLen; omega
                      have hb2 : (j + 1) * 16 ≤ 140737488355328 := by omega
                      have hb3 : wc.heap.size ≤ (wr.alloc (.cells #[.string ⟨y1.toArray⟩] 9)).heap.size := Nat.le_trans HCR.out.size (by simp)
                      clear hy1 c1 he
                      go_wp2_with (at_builtin; refine wpList_append_strs _ rfl (.tmp 126) (.tmp 131) 22 rfl wc.heap.size 9 i0 (.string ⟨#[]⟩) 16 Tryd.underlying22 hi hz0 hz1 hz2 rfl u15 j (((List.range j).map (Tr.pairOf lev)).map vstr) rfl (row_keptB HROW.out ((Chg.refl _ _).alloc _)) (.slice (some ⟨wr.heap.size, 0, none⟩) 1 1) [y1] rfl (one_strs wr y1) hb1 hb2 hb3 ?_; intro v4 w10 hown4 hgrow4; have HC10 := Lib.hid ((HCR.out.alloc _).grown hgrow4 (fun k hk => .inr (own_ge HROW.out k hk))); have HOWN := Lib.hid hown4; clear hown4 hgrow4 hb1 hb2 hb3)
                      go_roundw
                      case rel =>
                        refine ⟨j + 1, hj1, by rw [HEJ.out]; go_num, ?_, HC10.out⟩
                        have h := HOWN.out
                        rw [List.range_succ, List.map_append, List.map_append]
                        show World.ownsRow _ _ _ _ _ _ (_ ++ [vstr (Tr.pairOf lev j)])
                        rw [HPO.out]
                        exact h
                      case measure => simp [intOf]; omega
                  · have hjn : j = (n + 1) / 2 := by omega
                    have HU : Hid ((Tr.up lev).length = (n + 1) / 2) := Lib.hid (by rw [Tr.up_len, ← HN.out])
                    have hr7 : wr.ownsRow wc.heap.size 9 1 u15 ((n + 1) / 2) ((Tr.up lev).map vstr) := by
                      have h := HROW.out
                      rw [hjn] at h
                      rw [Tr.up_eq, ← HN.out]
                      exact h
                    obtain ⟨no, ncap, rfl, hns⟩ := row_strs2 hr7 HU.out.symm
                    have HNS := Lib.hid hns
                    have HCW := Lib.hid (HCH'.out.trans HCR.out (by simp))
                    clear hr7 hns hjn HROW
                    have hk0 : (0 : Int) ≤ (k : Int) := by omega
                    go_wp2_with fail
                    go_roundw
                    case rel =>
                      exact ⟨f, k / 2, used', Tr.up lev, y', qs', no, ncap, by go_num, by rw [HU.out], rfl, rfl, by rw [HU.out]; exact HNS.out, by rw [HU.out]; omega, by rw [HU.out]; omega, by rw [HU.out]; omega, Tr.up_small HLX.out, hy', HDR'.out, hus', HFE'.out, HCW.out⟩
                    case measure =>
                      show (n + 1) / 2 < n
                      omega
end Go.Proofs.YtpeehlflhnhhjaaDoor
