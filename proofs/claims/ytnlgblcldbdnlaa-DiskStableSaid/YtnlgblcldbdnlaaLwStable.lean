/-
  The walk of DiskStable.
-/
import Derived.Test.YtnlgblcldbdnlaaLwJ
import Derived.Deep.RegionLaw
namespace Go.Proofs.Ytnlgblcldbdnlaa
set_option linter.unusedVariables false
set_option linter.unusedSimpArgs false
open Go Go.RowKit
attribute [local irreducible] Go.wpStill

set_option maxHeartbeats 4000000 in
set_option maxRecDepth 100000 in
theorem diskStable_walk (w : World) (raw : Nat) (braw : raw < 256) (lo : Option Addr) (ln lc : Nat) (l : List ActD) (Hl : Hid (ActsAt w (.slice lo ln lc) l)) (hnl : ln ≤ 9223372036854775807) (Hal : Hid (∀ x ∈ l, x.after ≤ 9223372036854775807)) (mo : Option Addr) (mn mc : Nat) (m : List ActD) (Hm : Hid (ActsAt w (.slice mo mn mc) m)) (hnm : mn ≤ 9223372036854775807) (Ham : Hid (∀ x ∈ m, x.after ≤ 9223372036854775807)) (ws : Int) (bws : -9223372036854775808 ≤ ws ∧ ws ≤ 9223372036854775807) (bs : Int) (bbs : -9223372036854775808 ≤ bs ∧ bs ≤ 9223372036854775807) :
    Calls Try.prog 4 #[.int .u8 raw, .slice lo ln lc, .slice mo mn mc, .int .i64 ws, .int .i64 bs] w fun e w' => e = .returned (.bool true) ∧ Chg [] w w' := by
  cases hokl : okL l with
  | false =>
    have Hokl := Lib.hid hokl
    clear hokl
    go_enter Try.func4, Try.ntmps4
    go_wp2_with fail
    refine (head_spec _).mono ?_
    rintro e w1 ⟨rfl, hc⟩
    have HC1 : Hid (Chg [] w w1) := Lib.hid (hc)
    clear hc
    go_wp2_with fail
    refine (ok_spec w1 lo ln lc l (Lib.hid (Hl.out.quiet HC1.out)) hnl).mono ?_
    rintro e w2 ⟨rfl, rfl⟩
    rw [Hokl.out]
    go_wp2_with fail
    go_ret
    exact ⟨rfl, HC1.out⟩
  | true =>
    have hokl' := hokl
    unfold okL at hokl'
    rw [Bool.and_eq_true, List.all_eq_true, decide_eq_true_eq] at hokl'
    have Htxl : Hid (∀ x ∈ l, x.text.length ≤ 100) := Lib.hid (fun x hx => by simpa using hokl'.1 x hx)
    have Hll : Hid (l.length ≤ 60) := Lib.hid hokl'.2
    have Hokl := Lib.hid hokl
    clear hokl' hokl
    cases hokm : okL m with
    | false =>
      have Hokm := Lib.hid hokm
      clear hokm
      go_enter Try.func4, Try.ntmps4
      go_wp2_with fail
      refine (head_spec _).mono ?_
      rintro e w1 ⟨rfl, hc⟩
      have HC1 : Hid (Chg [] w w1) := Lib.hid (hc)
      clear hc
      go_wp2_with fail
      refine (ok_spec w1 lo ln lc l (Lib.hid (Hl.out.quiet HC1.out)) hnl).mono ?_
      rintro e w2 ⟨rfl, rfl⟩
      rw [Hokl.out]
      go_wp2_with fail
      refine (ok_spec w1 mo mn mc m (Lib.hid (Hm.out.quiet HC1.out)) hnm).mono ?_
      rintro e w2 ⟨rfl, rfl⟩
      rw [Hokm.out]
      go_wp2_with fail
      go_ret
      exact ⟨rfl, HC1.out⟩
    | true =>
      have hokm' := hokm
      unfold okL at hokm'
      rw [Bool.and_eq_true, List.all_eq_true, decide_eq_true_eq] at hokm'
      have Htxm : Hid (∀ x ∈ m, x.text.length ≤ 100) := Lib.hid (fun x hx => by simpa using hokm'.1 x hx)
      have Hlm : Hid (m.length ≤ 60) := Lib.hid hokm'.2
      have Hokm := Lib.hid hokm
      clear hokm' hokm
      obtain ⟨N, hN⟩ : ∃ N, N = 1 + raw % 12 := ⟨_, rfl⟩
      have hN1 : 1 ≤ N := by omega
      have hN2 : N ≤ 12 := by omega
      have HN := Lib.hid hN
      clear hN
      obtain ⟨QQ, hQQ⟩ : ∃ Q : Prop, Q := ⟨True, trivial⟩
      have hmk := make_bools N (by omega)
      obtain ⟨Z, hZ⟩ : ∃ Z, Z = ((List.replicate N false).map BV).toArray := ⟨_, rfl⟩
      rw [← hZ] at hmk
      have HZ := Lib.hid hZ
      have HMK := Lib.hid hmk
      clear hmk hQQ QQ hZ
      go_enter Try.func4, Try.ntmps4
      go_wp2_with fail
      refine (head_spec _).mono ?_
      rintro e w1 ⟨rfl, hc⟩
      have HC1 : Hid (Chg [] w w1) := Lib.hid (hc)
      clear hc
      go_wp2_with fail
      refine (ok_spec w1 lo ln lc l (Lib.hid (Hl.out.quiet HC1.out)) hnl).mono ?_
      rintro e w2 ⟨rfl, rfl⟩
      rw [Hokl.out]
      go_wp2_with fail
      refine (ok_spec w1 mo mn mc m (Lib.hid (Hm.out.quiet HC1.out)) hnm).mono ?_
      rintro e w2 ⟨rfl, rfl⟩
      rw [Hokm.out]
      go_wp2_with fail
      refine (size_spec w1 raw braw).mono ?_
      rintro e w2 ⟨rfl, rfl⟩
      rw [← HN.out]
      go_wp2_with fail
      refine (At.new w1 N hN1 (by omega)).mono ?_
      rintro e w3 ⟨p, rfl, hA⟩
      have HA := Lib.hid (hA.rebase HC1.out)
      clear hA
      go_wp2_with fail
      go_loopw [14] (fun s wr => ∃ k : Nat, k ≤ ln ∧ s = .int .i64 k ∧ At w wr [] p ((DK.new N).run (l.take k)) ∧ Kept [] w3 wr) (fun s _ => ln - (intOf s).toNat)
      case atStart => exact ⟨0, Nat.zero_le _, rfl, by simpa [DK.run] using HA.out, Kept.refl _ _⟩
      case round =>
        obtain ⟨k, hk, rfl, hD, hK⟩ := hrel
        have HD := Lib.hid hD
        have HK := Lib.hid hK
        have Hn := Lib.hid Hl.out.len
        clear hD hK HA
        have HQ : Hid (((DK.new N).run (l.take k)).q.length ≤ 60) := Lib.hid (run_new_q N _ (by rw [List.length_take]; have := Hll.out; omega))
        by_cases hlt : k < ln
        · obtain ⟨x, hx⟩ : ∃ x, l[k]? = some x := ⟨l[k]'(by rw [← Hn.out]; exact hlt), by simp⟩
          have hmem := List.mem_of_getElem? hx
          have hxt := Htxl.out x hmem
          have hxa := Hal.out x hmem
          have Hrun := Lib.hid (DK.run_snoc (DK.new N) l k x hx)
          have HX := Lib.hid hx
          clear hmem hx
          obtain ⟨ab, off, rfl, hbl, c0, c1, c2, c3, c4, c5⟩ := (Hl.out.quiet HD.out.chg).elem k x HX.out
          go_wp2_with fail
          refine (HD.out.act (by have := HQ.out; omega) x hxt hxa).mono ?_
          rintro e w5 ⟨rfl, h, hk⟩
          have HD1 := Lib.hid h
          have HK1 := Lib.hid (HK.out.trans hk)
          clear h hk c0 c1 c2 c3 c4 c5
          go_wp2_with fail
          go_roundw
          case rel => exact ⟨k + 1, by omega, by go_num, by rw [Hrun.out]; exact HD1.out, HK1.out⟩
          case measure => simp [intOf]; omega
        · have HE : Hid (((DK.new N).run (l.take k)).n = N) := Lib.hid (DK.run_n _ _)
          generalize ((DK.new N).run (l.take k)) = D at *
          clear HK
          go_wp2_with fail
          refine (HD.out.start).mono ?_
          rintro e w5 ⟨rfl, h, hk⟩
          have HD1 := Lib.hid h
          clear h hk HD
          go_wp2_with fail
          refine (HD1.out.sync (Nat.le_trans HQ.out (by omega))).mono ?_
          rintro e w6 ⟨rfl, h, hk⟩
          rw [DK.start_sync] at h ⊢
          have HEn : Hid (D.start.flush.n = N) := Lib.hid ((DK.settle_n _ _).trans HE.out)
          have HEq : Hid (D.start.flush.q = []) := Lib.hid rfl
          have HEo : Hid (D.start.flush.off = false) := Lib.hid ((DK.settle_off _ _).trans rfl)
          have HEa : Hid (D.start.flush.arm = none) := Lib.hid ((DK.settle_arm _ _).trans rfl)
          generalize D.start.flush = S at *
          have HD2 := Lib.hid h
          clear h hk HD1 HE HQ
          clear D
          simp only
          go_wp2_with fail
          refine (HD2.out.contents (by rw [HEq.out]; exact Nat.zero_le _) HEo.out N HEn.out).mono ?_
          rintro e w7 ⟨v1, rfl, hr, hA, hc, hv⟩
          have HR7 := Lib.hid hr
          have HA7 := Lib.hid hA
          clear hr hA hc hv HD2
          have hmk := HMK.out w7
          go_wp2_with fail
          have hcw : Chg [] w7 (w7.alloc (.cells Z 4)) := (Chg.refl _ _).alloc _
          have hB : Blk (w7.alloc (.cells Z 4)) w7.heap.size ((List.replicate N false).map BV) 4 := by rw [HZ.out]; exact Blk.new _ _ _
          have hA8 := HA7.out.more (new := [w7.heap.size]) hcw (fun k hk => by simp at hk ⊢; omega)
          have HGW := Lib.hid HA7.out.chg.size
          have hgv : ∀ k ∈ v1.ownBlock.toList, k ≠ w7.heap.size := fun k hk => Nat.ne_of_lt (row_lt HR7.out k hk)
          have HGV := Lib.hid hgv
          have HR8 := Lib.hid (HR7.out.kept hcw (by simp))
          have HA8 := Lib.hid hA8
          have HB8 := Lib.hid hB
          clear hcw hB hA8 hgv hmk HR7 HA7
          generalize (w7.alloc (.cells _ 4)) = w8 at *
          generalize w7.heap.size = g at *
          obtain ⟨oth, hoth⟩ : ∃ oth, oth = [g] ++ (v1.ownBlock.toList ++ []) := ⟨_, rfl⟩
          rw [← hoth] at HA8
          have Hmg : Hid (g ∈ oth) := Lib.hid (by rw [hoth]; simp)
          have Hmv : Hid (∀ k ∈ v1.ownBlock.toList, k ∈ oth) := Lib.hid (fun k hk => by rw [hoth]; simp [hk])
          have Hml := Lib.hid Hm.out.len
          clear hoth
          go_wp2_with fail
          go_loopw [18] (fun s wr => ∃ (k : Nat) (E : DK) (bl : List Bool), k ≤ mn ∧ s = .int .i64 k ∧ At w wr oth p E ∧ Blk wr g (bl.map BV) 4 ∧ StrRow wr v1 S.all ∧ E.off = false ∧ E.arm = none ∧ E.n = N ∧ E.st = S.st ∧ E.q.length ≤ k ∧ bl.length = N ∧ ∀ i : Nat, bl[i]? = some false → ∀ y ∈ E.q, y.1 ≠ i) (fun s _ => mn - (intOf s).toNat)
          case atStart => exact ⟨0, S, List.replicate N false, Nat.zero_le _, rfl, HA8.out, HB8.out, HR8.out, HEo.out, HEa.out, HEn.out, rfl, by rw [HEq.out]; exact Nat.le_refl _, by simp, fun i _ y hy => by rw [HEq.out] at hy; cases hy⟩
          case round =>
            obtain ⟨k, E, bl, hk, rfl, hA, hB, hR, hEo, hEa, hEn, hEs, hEq, hbl, hmark⟩ := hrel
            have HA9 := Lib.hid hA
            have HB9 := Lib.hid hB
            have HR9 := Lib.hid hR
            have HFo := Lib.hid hEo
            have HFa := Lib.hid hEa
            have HFn := Lib.hid hEn
            have HFs := Lib.hid hEs
            have HFq := Lib.hid hEq
            have HBL := Lib.hid hbl
            have HMK := Lib.hid hmark
            clear hA hB hR hEo hEa hEn hEs hEq hbl hmark HA8 HB8 HR8
            have hq60 : E.q.length ≤ 900000 := by have := HFq.out; have := Hlm.out; have := Hml.out; omega
            have HQ60 := Lib.hid hq60
            clear hq60
            by_cases hlt : k < mn
            · obtain ⟨x, hx⟩ : ∃ x, m[k]? = some x := ⟨m[k]'(by rw [← Hml.out]; exact hlt), by simp⟩
              have hmem := List.mem_of_getElem? hx
              have hxt := Htxm.out x hmem
              have HX := Lib.hid hx
              clear hmem hx
              obtain ⟨ab, off, rfl, hbl, _⟩ := Hm.out.elem k x HX.out
              clear hbl
              obtain ⟨c0, c1, c2, c3, c4, c5⟩ := Hm.out.cellsAt HA9.out.chg k x HX.out
              go_upto_region 18 with fail
              go_cut [19] (fun s19 wx => s19 = .int .i64 (E.write x.sector x.txt).1 ∧ At w wx oth p (E.write x.sector x.txt).2 ∧ Kept oth wr wx)
              case first =>
                go_region_law (first
                  | (go_simp; go_at_call 23; refine (text_spec _ x hxt).mono ?_; rintro e w10 ⟨rfl, hc1⟩; have HC10 : Hid (Chg [] wr w10) := Lib.hid (Chg.ofDrew hc1); clear hc1; (obtain ⟨_, e1, _⟩ := Hm.out.cellsAt (HA9.out.quiet HC10.out).chg k x HX.out))
                  | (go_simp; go_at_call 22; refine ((HA9.out.quiet HC10.out).write HQ60.out x.sector _).mono ?_; rintro e w11 ⟨rfl, h, hk⟩; have HA11 := Lib.hid h; have HK11 := Lib.hid hk; clear h hk))
                all_goals
                  go_wp2_with fail
                  go_meet
                  exact ⟨rfl, HA11.out, (HC10.out.toKept _).trans HK11.out⟩
              case rest =>
                obtain ⟨rfl, hA, hk2⟩ := hcut
                have HA10 := Lib.hid hA
                have HB10 := Lib.hid (hk2.blk HB9.out Hmg.out)
                have HR10 := Lib.hid (HR9.out.keptBy hk2 Hmv.out)
                clear hA hk2 HA9 HB9 HR9 c0 c1 c2 c3 c4 c5
                obtain ⟨c0, c1, c2, c3, c4, c5⟩ := Hm.out.cellsAt HA10.out.chg k x HX.out
                by_cases hw : E.valid x.sector = true ∧ x.txt.length = 64
                · rw [DK.write_on HFo.out HFa.out, if_pos hw] at HA10 ⊢
                  have hval : 0 ≤ x.sector ∧ x.sector < (N : Int) := by
                    have := hw.1
                    unfold DK.valid at this
                    rw [HFn.out] at this
                    simpa using this
                  obtain ⟨i, hi⟩ : ∃ i : Nat, x.sector = (i : Int) := ⟨x.sector.toNat, by omega⟩
                  have hiN : i < N := by omega
                  have hi0 : ¬ (i : Int) < 0 := by omega
                  have hiN' : ¬ (N : Int) ≤ (i : Int) := by omega
                  have hqq : (E.push x.sector x.txt).q = E.q ++ [(i, x.txt)] := by rw [hi]; rfl
                  have HQQ := Lib.hid hqq
                  rw [hi] at c1
                  have hfz := HB10.out.free i
                  have hib : i < bl.length := by rw [HBL.out]; exact hiN
                  have HIB := Lib.hid hib
                  have hcl := HB10.out.cell (i := i) (v := BV (bl[i]'HIB.out)) (by rw [List.getElem?_map, List.getElem?_eq_getElem hib]; rfl)
                  clear hw hval hi hqq hib
                  simp only
                  go_wp2_with fail
                  go_roundw
                  case rel =>
                    refine ⟨k + 1, E.push x.sector x.txt, bl.set i true, by omega, by go_num, HA10.out.beside (blk := [g]) ((Chg.refl _ _).setCell _ _ (.inl (by simp))) (fun k hk => by rw [List.mem_singleton.1 hk]; exact ⟨Hmg.out, HGW.out⟩), ?_, HR10.out.kept (own := [g]) ((Chg.refl _ _).setCell _ _ (.inl (by simp))) (fun k hk hm => HGV.out k hk (by simpa using hm)), HFo.out, HFa.out, HFn.out, HFs.out, ?_, by rw [List.length_set]; exact HBL.out, ?_⟩
                    · rw [List.map_set]
                      exact HB10.out.set i _
                    · rw [HQQ.out, List.length_append]
                      have := HFq.out
                      simp
                      omega
                    · rw [HQQ.out]
                      exact DK.mark_push HMK.out
                  case measure => simp [intOf]; omega
                · rw [DK.write_on HFo.out HFa.out, if_neg hw] at HA10 ⊢
                  clear hw
                  simp only
                  go_wp2_with fail
                  go_roundw
                  case rel => exact ⟨k + 1, E, bl, by omega, by go_num, HA10.out, HB10.out, HR10.out, HFo.out, HFa.out, HFn.out, HFs.out, Nat.le_succ_of_le HFq.out, HBL.out, HMK.out⟩
                  case measure => simp [intOf]; omega
            · go_wp2_with fail
              refine (HA9.out.fail HQ60.out ws bs).mono ?_
              rintro e w10 ⟨rfl, h, hk2⟩
              have HA10 := Lib.hid h
              have HB10 := Lib.hid (hk2.blk HB9.out Hmg.out)
              have HR10 := Lib.hid (HR9.out.keptBy hk2 Hmv.out)
              clear h hk2 HA9 HB9 HR9
              go_wp2_with fail
              refine (HA10.out.start).mono ?_
              rintro e w11 ⟨rfl, h, hk2⟩
              have HA11 := Lib.hid h
              have HB11 := Lib.hid (hk2.blk HB10.out Hmg.out)
              have HR11 := Lib.hid (HR10.out.keptBy hk2 Hmv.out)
              clear h hk2 HA10 HB10 HR10
              have HGn : Hid ((E.fail ws bs).start.n = N) := Lib.hid ((DK.fail_n _ _ _).trans HFn.out)
              have HGq : Hid ((E.fail ws bs).start.q.length ≤ 900000) := Lib.hid (Nat.le_trans (DK.fail_q E ws bs) HQ60.out)
              have HGo : Hid ((E.fail ws bs).start.off = false) := Lib.hid rfl
              have HGc : Hid (∀ i, i < N → bl[i]? = some false → ∃ y, S.all[i]? = some y ∧ (E.fail ws bs).start.all[i]? = some y) := Lib.hid (fun i hi hb => ⟨S.cur i, DK.all_at _ _ (by rw [HEn.out]; exact hi), by rw [DK.all_at _ _ (by rw [HGn.out]; exact hi), DK.fail_far E ws bs i (HMK.out i hb), HFs.out, DK.cur_of_nil HEq.out]⟩)
              generalize (E.fail ws bs).start = G at *
              go_wp2_with fail
              refine (HA11.out.contents HGq.out HGo.out N HGn.out).mono ?_
              rintro e w12 ⟨v2, rfl, hr, hA, hc, hv⟩
              have HR12 := Lib.hid (HR11.out.kept hc (by simp))
              have HB12 := Lib.hid (hc.blk HB11.out (by simp))
              have HS12 := Lib.hid hr
              have HC12 := Lib.hid hA.chg
              have HGa : Hid (S.all.length = N) := Lib.hid ((DK.all_len _).trans HEn.out)
              have HGb : Hid (G.all.length = N) := Lib.hid ((DK.all_len _).trans HGn.out)
              clear hr hA hc hv HR11 HB11 HA11
              go_wp2_with fail
              go_loopw [22] (fun s wr => ∃ k : Nat, k ≤ N ∧ s = .int .i64 k ∧ Chg [] w wr ∧ Blk wr g (bl.map BV) 4 ∧ StrRow wr v1 S.all ∧ StrRow wr v2 G.all) (fun s _ => N - (intOf s).toNat)
              case atStart => exact ⟨0, Nat.zero_le _, rfl, HC12.out, HB12.out, HR12.out, HS12.out⟩
              case round =>
                obtain ⟨j, hj, rfl, hC, hB, hR, hS⟩ := hrel
                have HC := Lib.hid hC
                have HB := Lib.hid hB
                have HR := Lib.hid hR
                have HS := Lib.hid hS
                clear hC hB hR hS HC12 HB12 HR12 HS12
                by_cases hjl : j < N
                · have hjb : j < bl.length := by rw [HBL.out]; exact hjl
                  cases hb : bl[j]'hjb with
                  | true =>
                    have c0 : wr.cell? ⟨g, j, none⟩ = some (.bool true) := HB.out.cell (by rw [List.getElem?_map, List.getElem?_eq_getElem hjb, hb]; rfl)
                    clear hb hjb
                    go_wp2_with fail
                    refine wp_region_reads (by kernel_rfl) (by kernel_rfl) (fun L hL => ?_)
                    repeat still_step
                    refine wpStill_nil (hL _ ?_)
                    clear hL L
                    go_wp2_with fail
                    go_roundw
                    case rel => exact ⟨j + 1, by omega, by go_num, HC.out.drew, HB.out.drew, HR.out.kept (own := []) (Chg.refl _ _).drew (by simp), HS.out.kept (own := []) (Chg.refl _ _).drew (by simp)⟩
                    case measure => simp [intOf]; omega
                  | false =>
                    have c0 : wr.cell? ⟨g, j, none⟩ = some (.bool false) := HB.out.cell (by rw [List.getElem?_map, List.getElem?_eq_getElem hjb, hb]; rfl)
                    obtain ⟨y, hy1, hy2⟩ := HGc.out j hjl (by rw [List.getElem?_eq_getElem hjb, hb])
                    clear hb hjb
                    obtain ⟨g1, cap1, rfl, c1⟩ := HR.out.at N HGa.out j y hy1
                    obtain ⟨g2, cap2, rfl, c2⟩ := HS.out.at N HGb.out j y hy2
                    have hyy : (y == y) = true := by simp
                    clear hy1 hy2
                    go_wp2_with fail
                    refine wp_region_reads (by kernel_rfl) (by kernel_rfl) (fun L hL => ?_)
                    repeat still_step
                    refine wpStill_nil (hL _ ?_)
                    clear hL L
                    go_wp2_with fail
                    go_roundw
                    case rel => exact ⟨j + 1, by omega, by go_num, HC.out.drew, HB.out.drew, HR.out.kept (own := []) (Chg.refl _ _).drew (by simp), HS.out.kept (own := []) (Chg.refl _ _).drew (by simp)⟩
                    case measure => simp [intOf]; omega
                · go_wp2_with fail
                  go_ret
                  exact ⟨rfl, HC.out⟩
end Go.Proofs.Ytnlgblcldbdnlaa
