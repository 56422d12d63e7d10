/-
  The walk of DiskReads, and the plain law behind it.
-/
import Derived.Test.YtnlgblcldbdnlaaLwI
import Derived.Deep.RegionLaw
namespace Go.Proofs.Ytnlgblcldbdnlaa
set_option linter.unusedVariables false
set_option linter.unusedSimpArgs false
open Go Go.RowKit

set_option maxHeartbeats 4000000 in
set_option maxRecDepth 100000 in
theorem diskReads_walk (w : World) (raw : Nat) (braw : raw < 256) (lo : Option Addr) (ln lc : Nat) (l : List ActD) (Hl : Hid (ActsAt w (.slice lo ln lc) l)) (hnl : ln ≤ 9223372036854775807) (Hal : Hid (∀ x ∈ l, x.after ≤ 9223372036854775807)) (x : ActD) (bx : x.after ≤ 9223372036854775807) :
    Calls Try.prog 6 #[.int .u8 raw, .slice lo ln lc, x.val] w fun e w' => e = .returned (.bool true) ∧ Chg [] w w' := by
  have hcb : Chg [] w (w.alloc (.cells x.cells.toArray 34)) := (Chg.refl _ _).alloc _
  have hbb := Blk.new w x.cells 34
  have htb : w.heap.size < (w.alloc (.cells x.cells.toArray 34)).heap.size := by simp
  have HCB := Lib.hid hcb
  have HBB := Lib.hid hbb
  unfold ActD.val
  by_cases hokl : okL l = true
  · have hokl2 := hokl
    have hokl' := hokl
    unfold okL at hokl'
    rw [Bool.and_eq_true, List.all_eq_true, decide_eq_true_eq] at hokl'
    have Htxl : Hid (∀ x ∈ l, x.text.length ≤ 100) := Lib.hid (fun x hx => by simpa using hokl'.1 x hx)
    have Hll : Hid (l.length ≤ 60) := Lib.hid hokl'.2
    have Hokl := Lib.hid hokl
    clear hokl' hokl
    clear hokl2 hcb hbb
    by_cases hxt : x.text.length ≤ 100
    · have Hokx : Hid (okL [x] = true) := Lib.hid (by unfold okL; simp [hxt])
      obtain ⟨N, hN⟩ : ∃ N, N = 1 + raw % 12 := ⟨_, rfl⟩
      have hN1 : 1 ≤ N := by omega
      have hN2 : N ≤ 12 := by omega
      have HN := Lib.hid hN
      clear hN
      go_enter Try.func6, Try.ntmps6
      go_wp2_with fail
      simp only [ActD.cells] at HCB HBB htb
      generalize (w.alloc (.cells _ 34)) = w0 at *
      generalize htbn : w.heap.size = tb at *
      have HTB := Lib.hid htbn
      clear htbn
      refine (head_spec w0).mono ?_
      rintro e w1 ⟨rfl, hc⟩
      have HC1 := Lib.hid (HCB.out.trans hc (by simp))
      have HB1 := Lib.hid (hc.blk HBB.out (by simp))
      have htb1 : tb < w1.heap.size := Nat.lt_of_lt_of_le htb hc.size
      clear hc
      go_wp2_with fail
      refine (ok_spec w1 lo ln lc l (Lib.hid (Hl.out.quiet HC1.out)) hnl).mono ?_
      rintro e w2 ⟨rfl, rfl⟩
      rw [Hokl.out]
      have b0 := HB1.out.cell (i := 0) rfl
      have b1 := HB1.out.cell (i := 1) rfl
      have b2 := HB1.out.cell (i := 2) rfl
      have b3 := HB1.out.cell (i := 3) rfl
      have b4 := HB1.out.cell (i := 4) rfl
      have b5 := HB1.out.cell (i := 5) rfl
      go_wp2_with fail
      have hnb := Blk.new w1 x.cells 34
      have hna : ActsAt (w1.alloc (.cells x.cells.toArray 34)) (.slice (some ⟨w1.heap.size, 0, none⟩) 1 1) [x] := ⟨some ⟨w1.heap.size, 0, none⟩, 1, rfl, fun i y hy => by
        have hi : i = 0 := by have := (List.getElem?_eq_some_iff.1 hy).1; simpa using this
        subst hi
        simp at hy
        subst hy
        exact ⟨w1.heap.size, 0, rfl, by simp, fun j c hj => by have := hnb.cell hj; simpa using this⟩⟩
      have HC2 := Lib.hid (HC1.out.trans ((Chg.refl [] w1).alloc (.cells x.cells.toArray 34)) (by simp))
      have HB2 := Lib.hid (HB1.out.alloc (.cells x.cells.toArray 34))
      have htb2 : tb < (w1.alloc (.cells x.cells.toArray 34)).heap.size := by simp; omega
      have HNA := Lib.hid hna
      clear hnb hna b0 b1 b2 b3 b4 b5
      simp only [ActD.cells] at HC2 HB2 htb2 HNA
      generalize (w1.alloc (.cells _ 34)) = w2 at *
      refine (ok_spec w2 _ 1 1 [x] HNA (by omega)).mono ?_
      rintro e w3 ⟨rfl, rfl⟩
      rw [Hokx.out]
      clear HNA HC1 HB1 HCB HBB
      go_wp2_with fail
      refine (size_spec w2 raw braw).mono ?_
      rintro e w3 ⟨rfl, rfl⟩
      rw [← HN.out]
      go_wp2_with fail
      refine (At.new w2 N hN1 (by omega)).mono ?_
      rintro e w3 ⟨p, rfl, hA⟩
      have HB3 := Lib.hid (hA.chg.blk HB2.out (by simp))
      have HA := Lib.hid ((hA.old (new := [tb]) (by simpa using htb2)).rebase HC2.out)
      clear hA HC2 HB2
      go_wp2_with fail
      go_loopw [10] (fun s wr => ∃ k : Nat, k ≤ ln ∧ s = .int .i64 k ∧ At w wr [tb] p ((DK.new N).run (l.take k)) ∧ Kept [tb] w3 wr) (fun s _ => ln - (intOf s).toNat)
      case atStart => exact ⟨0, Nat.zero_le _, rfl, by simpa [DK.run] using HA.out, Kept.refl _ _⟩
      case round =>
        obtain ⟨k, hk, rfl, hD, hK⟩ := hrel
        have HD := Lib.hid hD
        have HK := Lib.hid hK
        have Hn := Lib.hid Hl.out.len
        clear hD hK HA
        have HQ : Hid (((DK.new N).run (l.take k)).q.length ≤ 60) := Lib.hid (run_new_q N _ (by rw [List.length_take]; have := Hll.out; omega))
        by_cases hlt : k < ln
        · obtain ⟨x, hx⟩ : ∃ x, l[k]? = some x := ⟨l[k]'(by rw [← Hn.out]; exact hlt), by simp⟩
          have hmem := List.mem_of_getElem? hx
          have hxt := Htxl.out x hmem
          have hxa := Hal.out x hmem
          have Hrun := Lib.hid (DK.run_snoc (DK.new N) l k x hx)
          have HX := Lib.hid hx
          clear hmem hx
          obtain ⟨ab, off, rfl, hbl, c0, c1, c2, c3, c4, c5⟩ := (Hl.out.quiet HD.out.chg).elem k x HX.out
          go_wp2_with fail
          refine (HD.out.act (by have := HQ.out; omega) x hxt hxa).mono ?_
          rintro e w5 ⟨rfl, h, hk⟩
          have HD1 := Lib.hid h
          have HK1 := Lib.hid (HK.out.trans hk)
          clear h hk c0 c1 c2 c3 c4 c5
          go_wp2_with fail
          go_roundw
          case rel => exact ⟨k + 1, by omega, by go_num, by rw [Hrun.out]; exact HD1.out, HK1.out⟩
          case measure => simp [intOf]; omega
        · have HE : Hid (((DK.new N).run (l.take k)).n = N) := Lib.hid (DK.run_n _ _)
          generalize ((DK.new N).run (l.take k)) = D at *
          have HB4 := Lib.hid (HK.out.blk HB3.out (by simp))
          clear HB3 HK
          go_wp2_with fail
          refine (HD.out.start).mono ?_
          rintro e w5 ⟨rfl, h, hk⟩
          have HD1 := Lib.hid h
          have HB5 := Lib.hid (hk.blk HB4.out (by simp))
          clear h hk HD HB4
          go_wp2_with fail
          refine (HD1.out.contents (Nat.le_trans HQ.out (by omega)) rfl N HE.out).mono ?_
          rintro e w6 ⟨v1, rfl, hr, hA, hc, hv⟩
          have HR1 := Lib.hid hr
          have HA6 := Lib.hid hA
          have HB6 := Lib.hid (hc.blk HB5.out (by simp))
          have HV := Lib.hid (fun k hk => Nat.le_trans HD1.out.chg.size (hv k hk))
          clear hr hA hc hv HB5 HD1
          obtain ⟨oth, hoth⟩ : ∃ oth, oth = v1.ownBlock.toList ++ [tb] := ⟨_, rfl⟩
          rw [← hoth] at HA6
          have Hm1 : Hid (∀ k ∈ v1.ownBlock.toList, k ∈ oth) := Lib.hid (fun k hk => by rw [hoth]; simp [hk])
          have Hmt : Hid (tb ∈ oth) := Lib.hid (by rw [hoth]; simp)
          have Hm2 : Hid (∀ k ∈ v1.ownBlock.toList, w.heap.size ≤ k) := HV
          clear hoth
          have hs := start_write D x.sector x.txt
          have HS := Lib.hid hs
          clear hs
          go_upto_region 12 with fail
          have b0 := HB6.out.cell (i := 0) rfl
          have b1 := HB6.out.cell (i := 1) rfl
          have b2 := HB6.out.cell (i := 2) rfl
          have b3 := HB6.out.cell (i := 3) rfl
          have b4 := HB6.out.cell (i := 4) rfl
          have b5 := HB6.out.cell (i := 5) rfl
          go_cut [13] (fun s13 wx => s13 = .int .i64 (D.start.write x.sector x.txt).1 ∧ At w wx oth p (D.start.write x.sector x.txt).2 ∧ Kept oth w6 wx)
          case first =>
            go_region_law (first
              | (go_simp; go_at_call 23; refine (text_spec _ x hxt).mono ?_; rintro e w7 ⟨rfl, hc1⟩; have e1 : w7.cell? ⟨tb, 1, none⟩ = some (.int .i64 x.sector) := (hc1.blk (w := w6.drew) HB6.out (by simp)).cell (i := 1) rfl; have HC7 : Hid (Chg [] w6 w7) := Lib.hid (Chg.ofDrew hc1); clear hc1)
              | (go_simp; go_at_call 22; refine ((HA6.out.quiet HC7.out).write (Nat.le_trans HQ.out (by omega)) x.sector _).mono ?_; rintro e w8 ⟨rfl, h, hk⟩; have HA8 := Lib.hid h; have HK8 := Lib.hid hk; clear h hk))
            all_goals
              go_wp2_with fail
              go_meet
              exact ⟨rfl, HA8.out, (HC7.out.toKept _).trans HK8.out⟩
          case rest =>
            obtain ⟨rfl, hA, hk⟩ := hcut
            have HA7 := Lib.hid hA
            have HB7 := Lib.hid (hk.blk HB6.out Hmt.out)
            have HR7 := Lib.hid (HR1.out.keptBy hk Hm1.out)
            clear hA hk HB6 HR1 HA6 b0 b1 b2 b3 b4 b5
            clear w6
            obtain ⟨c, E, hce⟩ : ∃ c E, D.start.write x.sector x.txt = (c, E) := ⟨_, _, rfl⟩
            rw [hce] at HA7 HS ⊢
            have hE : E.off = false ∧ E.q.length ≤ 61 ∧ E.n = N := by
              have h := HS.out
              have hq := HQ.out
              have hn := HE.out
              split at h
              · obtain ⟨_, rfl⟩ := Prod.mk.inj h
                exact ⟨rfl, by simp [DK.push, DK.start]; exact hq, hn⟩
              · obtain ⟨_, rfl⟩ := Prod.mk.inj h
                exact ⟨rfl, Nat.le_trans hq (by omega), hn⟩
            have HEo := Lib.hid hE.1
            have HEq := Lib.hid hE.2.1
            have HEn := Lib.hid hE.2.2
            clear hE hce
            simp only
            go_wp2_with fail
            refine (HA7.out.contents (Nat.le_trans HEq.out (by omega)) HEo.out N HEn.out).mono ?_
            rintro e w8 ⟨v2, rfl, hr, hA, hc, hv⟩
            have HR8 := Lib.hid (HR7.out.kept hc (by simp))
            have HR28 := Lib.hid hr
            have HA8 := Lib.hid hA
            have HB8 := Lib.hid (hc.blk HB7.out (by simp))
            have hm2 : ∀ k ∈ v2.ownBlock.toList, k ∉ v1.ownBlock.toList := by
              intro k hk hm
              have := hv k hk
              have := row_lt HR7.out k hm
              omega
            have HM2 := Lib.hid hm2
            clear hr hA hc hv HR7 HA7 HB7 hm2
            go_wp2_with fail
            refine (HA8.out.contents (Nat.le_trans HEq.out (by omega)) HEo.out N HEn.out).mono ?_
            rintro e w9 ⟨v3, rfl, hr, hA, hc, hv⟩
            have HR9 := Lib.hid (HR8.out.kept hc (by simp))
            have HR29 := Lib.hid (HR28.out.kept hc (by simp))
            have HR39 := Lib.hid hr
            have HA9 := Lib.hid hA
            have HB9 := Lib.hid (hc.blk HB8.out (by simp))
            clear hr hA hc hv HR8 HR28 HA8 HB8
            have hlen : E.all.length ≤ 1000000 := by rw [DK.all_len, HEn.out]; omega
            have hlen2 : D.start.all.length ≤ 1000000 := by rw [DK.all_len, show D.start.n = D.n from rfl, HE.out]; omega
            go_wp2_with fail
            refine (same_spec w9 _ _ _ _ HR29.out HR39.out hlen hlen).mono ?_
            rintro e w10 ⟨rfl, hc⟩
            rw [decide_eq_true rfl]
            have HR10 := Lib.hid (HR9.out.kept hc (by simp))
            have HR210 := Lib.hid (HR29.out.kept hc (by simp))
            have HA10 := Lib.hid (HA9.out.quiet hc)
            have HB10 := Lib.hid (hc.blk HB9.out (by simp))
            clear hc HR9 HR29 HR39 HA9 HB9
            by_cases hw : D.valid x.sector = true ∧ x.txt.length = 64
            · have h := HS.out
              rw [if_pos hw] at h
              obtain ⟨hc0, hE0⟩ := Prod.mk.inj h
              subst hc0
              subst hE0
              clear h HS
              have hval : 0 ≤ x.sector ∧ x.sector < (N : Int) := by
                have := hw.1
                unfold DK.valid at this
                rw [HE.out] at this
                simpa using this
              obtain ⟨i, hi⟩ : ∃ i : Nat, x.sector = (i : Int) := ⟨x.sector.toNat, by omega⟩
              have hiN : i < N := by omega
              have hi0 : ¬ (i : Int) < 0 := by omega
              have hiN' : ¬ (N : Int) ≤ (i : Int) := by omega
              have HI := Lib.hid hi
              have HW := Lib.hid hw
              have hb10 := HB10.out
              rw [hi] at hb10
              have b0 := hb10.cell (i := 0) rfl
              have b1 := hb10.cell (i := 1) rfl
              have b2 := hb10.cell (i := 2) rfl
              have b3 := hb10.cell (i := 3) rfl
              have b4 := hb10.cell (i := 4) rfl
              have b5 := hb10.cell (i := 5) rfl
              clear hw hval hi
              have hlN : i < D.start.all.length := by rw [DK.all_len, show D.start.n = D.n from rfl, HE.out]; exact hiN
              obtain ⟨g, cap, hv1, hfz, hcell, hg⟩ := HR10.out.spot i hlN
              rw [DK.all_len, show D.start.n = D.n from rfl, HE.out] at hv1
              subst hv1
              have hgo : g ∈ oth := Hm1.out g (by simp [Value.ownBlock])
              have hgw : w.heap.size ≤ g := Hm2.out g (by simp [Value.ownBlock])
              have HGO := Lib.hid hgo
              have HGW := Lib.hid hgw
              have HLN := Lib.hid hlN
              clear hcell hfz hg hlN hgo hgw
              go_upto_region 21 with fail
              go_cut [] (fun wx => StrRow wx (.slice (some ⟨g, 0, none⟩) N cap) (D.start.all.set i x.txt) ∧ StrRow wx v2 (D.start.push x.sector x.txt).all ∧ At w wx (v3.ownBlock.toList ++ (v2.ownBlock.toList ++ oth)) p (D.start.push x.sector x.txt))
              case first =>
                go_region_law (go_simp; go_at_call 23; refine (text_spec _ ⟨x.kind, (i : Int), x.bytes, x.text, x.odd, x.after⟩ hxt).mono ?_; rintro e w11 ⟨rfl, hc1⟩; have e1 : w11.cell? ⟨tb, 1, none⟩ = some (.int .i64 (i : Int)) := (hc1.blk (w := w10.drew) hb10 (by simp)).cell (i := 1) rfl; have HC11 : Hid (Chg [] w10 w11) := Lib.hid (Chg.ofDrew hc1); clear hc1; (obtain ⟨f11, k11, g11⟩ := (HR10.out.kept HC11.out (by simp)).spot2 i HLN.out))
                all_goals
                  go_wp2_with fail
                  go_meet
                  refine ⟨(HR10.out.kept HC11.out (by simp)).set i _, HR210.out.kept (own := [g]) ?_ ?_, HA10.out.beside (blk := [g]) ?_ ?_⟩
                  · exact (HC11.out.mono (by simp)).setCell _ _ (.inl (by simp))
                  · intro k hk hm
                    exact HM2.out k hk (by simpa [Value.ownBlock] using hm)
                  · exact (HC11.out.mono (by simp)).setCell _ _ (.inl (by simp))
                  · intro k hk
                    obtain rfl : k = g := by simpa using hk
                    exact ⟨by simp [HGO.out], HGW.out⟩
              case rest =>
                obtain ⟨hr1, hr2, hA⟩ := hcut
                have HA11 := Lib.hid hA
                have hal : (D.start.push x.sector x.txt).all = D.start.all.set i x.txt := by rw [HI.out]; exact push_all D.start i x.txt
                rw [hal] at hr2
                have hl2 : (D.start.all.set i x.txt).length ≤ 1000000 := by rw [List.length_set]; exact hlen2
                have HS1 := Lib.hid hr1
                have HS2 := Lib.hid hr2
                clear hr1 hr2 hA HR10 HR210 HA10 HB10 hb10 b0 b1 b2 b3 b4 b5
                go_wp2_with fail
                refine (same_spec _ _ _ _ _ HS1.out HS2.out hl2 hl2).mono ?_
                rintro e w12 ⟨rfl, hc⟩
                rw [decide_eq_true rfl]
                have HA12 := Lib.hid (HA11.out.quiet hc)
                clear hc HS1 HS2 HA11 hl2 hal
                go_wp2_with fail
                refine (HA12.out.fail (Nat.le_trans HEq.out (by omega)) 0 0).mono ?_
                rintro e w13 ⟨rfl, h, hk⟩
                have HF := Lib.hid (DK.fail_off (D.start.push x.sector x.txt) 0 0)
                have HFq := Lib.hid (Nat.le_trans (DK.fail_q (D.start.push x.sector x.txt) 0 0) HEq.out)
                generalize (D.start.push x.sector x.txt).fail 0 0 = F at *
                have HA13 := Lib.hid h
                clear h hk HA12
                go_wp2_with fail
                refine (fill_spec w13 97).mono ?_
                rintro e w14 ⟨rfl, hc⟩
                have HA14 := Lib.hid (HA13.out.quiet hc)
                clear hc HA13
                go_wp2_with fail
                refine (HA14.out.write (Nat.le_trans HFq.out (by omega)) 0 _).mono ?_
                rintro e w15 ⟨rfl, h, hk⟩
                rw [DK.write_dead HF.out] at h ⊢
                have HA15 := Lib.hid h
                clear h hk HA14
                simp only
                go_wp2_with fail
                refine (HA15.out.read (Nat.le_trans HFq.out (by omega)) 0).mono ?_
                rintro e w16 ⟨rfl, h, hk⟩
                rw [DK.read_dead HF.out]
                have HA16 := Lib.hid h
                clear h hk HA15
                simp only
                go_wp2_with fail
                go_ret
                exact ⟨rfl, HA16.out.chg⟩
            · have h := HS.out
              rw [if_neg hw] at h
              obtain ⟨hc0, hE0⟩ := Prod.mk.inj h
              subst hc0
              subst hE0
              clear h HS
              have b0 := HB10.out.cell (i := 0) rfl
              have b1 := HB10.out.cell (i := 1) rfl
              have b2 := HB10.out.cell (i := 2) rfl
              have b3 := HB10.out.cell (i := 3) rfl
              have b4 := HB10.out.cell (i := 4) rfl
              have b5 := HB10.out.cell (i := 5) rfl
              have HW : Hid (¬ (D.valid x.sector = true ∧ x.txt.length = 64)) := Lib.hid hw
              clear hw
              go_wp2_with fail
              refine (same_spec w10 _ _ _ _ HR10.out HR210.out hlen2 hlen2).mono ?_
              rintro e w11 ⟨rfl, hc⟩
              rw [decide_eq_true rfl]
              have HB11 := Lib.hid (hc.blk HB10.out (by simp))
              have HA11 := Lib.hid (HA10.out.quiet hc)
              clear hc b0 b1 b2 b3 b4 b5 HB10 HA10 HR10 HR210
              have b0 := HB11.out.cell (i := 0) rfl
              have b1 := HB11.out.cell (i := 1) rfl
              have b2 := HB11.out.cell (i := 2) rfl
              have b3 := HB11.out.cell (i := 3) rfl
              have b4 := HB11.out.cell (i := 4) rfl
              have b5 := HB11.out.cell (i := 5) rfl
              by_cases h1 : x.sector < 0
              · go_wp2_with fail
                go_ret
                exact ⟨rfl, HA11.out.chg⟩
              · by_cases h2 : (N : Int) ≤ x.sector
                · go_wp2_with fail
                  go_ret
                  exact ⟨rfl, HA11.out.chg⟩
                · have h3 : ¬ x.txt.length = 64 := fun h => HW.out ⟨by unfold DK.valid; rw [HE.out]; simp; omega, h⟩
                  have H3 := Lib.hid h3
                  clear h3
                  go_wp2_with fail
                  refine (text_spec _ x hxt).mono ?_
                  rintro e w12 ⟨rfl, hc⟩
                  have HA12 := Lib.hid (HA11.out.quiet hc)
                  clear hc HA11 HB11 b0 b1 b2 b3 b4 b5
                  have h4 : (((x.txt.length : Nat) : Int) == 64) = false := by rw [beq_eq_false_iff_ne]; have := H3.out; omega
                  have h5 : (decide (x.sector < 0) || decide ((N : Int) ≤ x.sector) || ((x.txt.length : Nat) : Int) != 64) = true := by simp [bne, h4]
                  go_wp2_with fail
                  go_ret
                  exact ⟨rfl, HA12.out.chg⟩
    · have Hokx : Hid (okL [x] = false) := Lib.hid (by unfold okL; simp; omega)
      go_enter Try.func6, Try.ntmps6
      go_wp2_with fail
      simp only [ActD.cells] at HCB HBB htb
      generalize (w.alloc (.cells _ 34)) = w0 at *
      generalize htbn : w.heap.size = tb at *
      refine (head_spec w0).mono ?_
      rintro e w1 ⟨rfl, hc⟩
      have HC1 := Lib.hid (HCB.out.trans hc (by simp))
      have HB1 := Lib.hid (hc.blk HBB.out (by simp))
      clear hc
      go_wp2_with fail
      refine (ok_spec w1 lo ln lc l (Lib.hid (Hl.out.quiet HC1.out)) hnl).mono ?_
      rintro e w2 ⟨rfl, rfl⟩
      rw [Hokl.out]
      have b0 := HB1.out.cell (i := 0) rfl
      have b1 := HB1.out.cell (i := 1) rfl
      have b2 := HB1.out.cell (i := 2) rfl
      have b3 := HB1.out.cell (i := 3) rfl
      have b4 := HB1.out.cell (i := 4) rfl
      have b5 := HB1.out.cell (i := 5) rfl
      go_wp2_with fail
      have hnb := Blk.new w1 x.cells 34
      have hna : ActsAt (w1.alloc (.cells x.cells.toArray 34)) (.slice (some ⟨w1.heap.size, 0, none⟩) 1 1) [x] := ⟨some ⟨w1.heap.size, 0, none⟩, 1, rfl, fun i y hy => by
        have hi : i = 0 := by have := (List.getElem?_eq_some_iff.1 hy).1; simpa using this
        subst hi
        simp at hy
        subst hy
        exact ⟨w1.heap.size, 0, rfl, by simp, fun j c hj => by have := hnb.cell hj; simpa using this⟩⟩
      have HC2 := Lib.hid (HC1.out.trans ((Chg.refl [] w1).alloc (.cells x.cells.toArray 34)) (by simp))
      have HNA := Lib.hid hna
      clear hnb hna b0 b1 b2 b3 b4 b5
      simp only [ActD.cells] at HC2 HNA
      generalize (w1.alloc (.cells _ 34)) = w2 at *
      refine (ok_spec w2 _ 1 1 [x] HNA (by omega)).mono ?_
      rintro e w3 ⟨rfl, rfl⟩
      rw [Hokx.out]
      go_wp2_with fail
      go_ret
      exact ⟨rfl, HC2.out⟩
  · have hokf : okL l = false := by simpa using hokl
    have Hokl := Lib.hid hokf
    clear hokf hokl hcb hbb
    go_enter Try.func6, Try.ntmps6
    go_wp2_with fail
    simp only [ActD.cells] at HCB HBB htb
    generalize (w.alloc (.cells _ 34)) = w0 at *
    generalize htbn : w.heap.size = tb at *
    refine (head_spec w0).mono ?_
    rintro e w1 ⟨rfl, hc⟩
    have HC1 := Lib.hid (HCB.out.trans hc (by simp))
    clear hc
    go_wp2_with fail
    refine (ok_spec w1 lo ln lc l (Lib.hid (Hl.out.quiet HC1.out)) hnl).mono ?_
    rintro e w2 ⟨rfl, rfl⟩
    rw [Hokl.out]
    go_wp2_with fail
    go_ret
    exact ⟨rfl, HC1.out⟩
end Go.Proofs.Ytnlgblcldbdnlaa
