/-
  The walk of DiskArmed.
-/
import Derived.Test.YtnlgblcldbdnlaaLwM
import Derived.Deep.RegionLaw
namespace Go.Proofs.Ytnlgblcldbdnlaa
set_option linter.unusedVariables false
set_option linter.unusedSimpArgs false
open Go Go.RowKit
attribute [local irreducible] Go.wpStill

set_option maxHeartbeats 4000000 in
set_option maxRecDepth 100000 in
theorem diskArmed_walk (w : World) (raw : Nat) (braw : raw < 256) (lo : Option Addr) (ln lc : Nat) (l : List ActD) (Hl : Hid (ActsAt w (.slice lo ln lc) l)) (hnl : ln ≤ 9223372036854775807) (Hal : Hid (∀ x ∈ l, x.after ≤ 9223372036854775807)) (mo : Option Addr) (mn mc : Nat) (m : List ActD) (Hm : Hid (ActsAt w (.slice mo mn mc) m)) (hnm : mn ≤ 9223372036854775807) (Ham : Hid (∀ x ∈ m, x.after ≤ 9223372036854775807)) (a : Int) (ba : -9223372036854775808 ≤ a ∧ a ≤ 9223372036854775807) (x1 : Int) (bx1 : -9223372036854775808 ≤ x1 ∧ x1 ≤ 9223372036854775807) (y1 : Int) (by1 : -9223372036854775808 ≤ y1 ∧ y1 ≤ 9223372036854775807) :
    Calls Try.prog 8 #[.int .u8 raw, .slice lo ln lc, .slice mo mn mc, .int .i64 a, .int .i64 x1, .int .i64 y1] w fun e w' => e = .returned (.bool true) ∧ Chg [] w w' := by
  cases hokl : okL l with
  | false =>
    have Hokl := Lib.hid hokl
    clear hokl
    go_enter Try.func8, Try.ntmps8
    go_wp2_with fail
    refine (head_spec _).mono ?_
    rintro e w1 ⟨rfl, hc⟩
    have HC1 : Hid (Chg [] w w1) := Lib.hid (hc)
    clear hc
    go_wp2_with fail
    refine (ok_spec w1 lo ln lc l (Lib.hid (Hl.out.quiet HC1.out)) hnl).mono ?_
    rintro e w2 ⟨rfl, rfl⟩
    rw [Hokl.out]
    go_wp2_with fail
    go_ret
    exact ⟨rfl, HC1.out⟩
  | true =>
    have hokl' := hokl
    unfold okL at hokl'
    rw [Bool.and_eq_true, List.all_eq_true, decide_eq_true_eq] at hokl'
    have Htxl : Hid (∀ x ∈ l, x.text.length ≤ 100) := Lib.hid (fun x hx => by simpa using hokl'.1 x hx)
    have Hll : Hid (l.length ≤ 60) := Lib.hid hokl'.2
    have Hokl := Lib.hid hokl
    clear hokl' hokl
    cases hokm : okL m with
    | false =>
      have Hokm := Lib.hid hokm
      clear hokm
      go_enter Try.func8, Try.ntmps8
      go_wp2_with fail
      refine (head_spec _).mono ?_
      rintro e w1 ⟨rfl, hc⟩
      have HC1 : Hid (Chg [] w w1) := Lib.hid (hc)
      clear hc
      go_wp2_with fail
      refine (ok_spec w1 lo ln lc l (Lib.hid (Hl.out.quiet HC1.out)) hnl).mono ?_
      rintro e w2 ⟨rfl, rfl⟩
      rw [Hokl.out]
      go_wp2_with fail
      refine (ok_spec w1 mo mn mc m (Lib.hid (Hm.out.quiet HC1.out)) hnm).mono ?_
      rintro e w2 ⟨rfl, rfl⟩
      rw [Hokm.out]
      go_wp2_with fail
      go_ret
      exact ⟨rfl, HC1.out⟩
    | true =>
      have hokm' := hokm
      unfold okL at hokm'
      rw [Bool.and_eq_true, List.all_eq_true, decide_eq_true_eq] at hokm'
      have Htxm : Hid (∀ x ∈ m, x.text.length ≤ 100) := Lib.hid (fun x hx => by simpa using hokm'.1 x hx)
      have Hlm : Hid (m.length ≤ 60) := Lib.hid hokm'.2
      have Hokm := Lib.hid hokm
      clear hokm' hokm
      obtain ⟨N, hN⟩ : ∃ N, N = 1 + raw % 12 := ⟨_, rfl⟩
      have hN1 : 1 ≤ N := by omega
      have hN2 : N ≤ 12 := by omega
      have HN := Lib.hid hN
      clear hN
      go_enter Try.func8, Try.ntmps8
      go_wp2_with fail
      refine (head_spec _).mono ?_
      rintro e w1 ⟨rfl, hc⟩
      have HC1 : Hid (Chg [] w w1) := Lib.hid (hc)
      clear hc
      go_wp2_with fail
      refine (ok_spec w1 lo ln lc l (Lib.hid (Hl.out.quiet HC1.out)) hnl).mono ?_
      rintro e w2 ⟨rfl, rfl⟩
      rw [Hokl.out]
      go_wp2_with fail
      refine (ok_spec w1 mo mn mc m (Lib.hid (Hm.out.quiet HC1.out)) hnm).mono ?_
      rintro e w2 ⟨rfl, rfl⟩
      rw [Hokm.out]
      go_wp2_with fail
      refine (size_spec w1 raw braw).mono ?_
      rintro e w2 ⟨rfl, rfl⟩
      rw [← HN.out]
      go_wp2_with fail
      refine (At.new w1 N hN1 (by omega)).mono ?_
      rintro e w2 ⟨p, rfl, hA⟩
      have HA := Lib.hid (hA.rebase HC1.out)
      clear hA HC1
      go_wp2_with fail
      refine (At.new w2 N hN1 (by omega)).mono ?_
      rintro e w3 ⟨q, rfl, hB⟩
      have HB := Lib.hid (HA.out.two hB)
      clear hB HA
      go_wp2_with fail
      go_loopw [17] (fun s wr => ∃ k : Nat, k ≤ ln ∧ s = .int .i64 k ∧ At2 w wr p ((DK.new N).run (l.take k)) q ((DK.new N).run (l.take k))) (fun s _ => ln - (intOf s).toNat)
      case atStart => exact ⟨0, Nat.zero_le _, rfl, by simpa [DK.run] using HB.out⟩
      case round =>
        obtain ⟨k, hk, rfl, hD⟩ := hrel
        have HD := Lib.hid hD
        have Hn := Lib.hid Hl.out.len
        clear hD HB
        have HQ : Hid (((DK.new N).run (l.take k)).q.length ≤ 60) := Lib.hid (run_new_q N _ (by rw [List.length_take]; have := Hll.out; omega))
        by_cases hlt : k < ln
        · obtain ⟨x, hx⟩ : ∃ x, l[k]? = some x := ⟨l[k]'(by rw [← Hn.out]; exact hlt), by simp⟩
          have hmem := List.mem_of_getElem? hx
          have hxt := Htxl.out x hmem
          have hxa := Hal.out x hmem
          have Hrun := Lib.hid (DK.run_snoc (DK.new N) l k x hx)
          have HX := Lib.hid hx
          clear hmem hx
          obtain ⟨ab, off, rfl, hbl, c0, c1, c2, c3, c4, c5⟩ := (Hl.out.quiet HD.out.chg).elem k x HX.out
          go_wp2_with fail
          refine (HD.out.fst (fun oth hA => hA.act (by have := HQ.out; omega) x hxt hxa)).mono ?_
          rintro e w5 ⟨rfl, h⟩
          have HD1 := Lib.hid h
          clear h c0 c1 c2 c3 c4 c5
          obtain ⟨ab', off', hao, hbl', c0, c1, c2, c3, c4, c5⟩ := (Hl.out.quiet HD1.out.chg).elem k x HX.out
          simp only [Option.some.injEq, Addr.mk.injEq] at hao
          obtain ⟨rfl, rfl, _⟩ := hao
          go_wp2_with fail
          refine (HD1.out.snd (fun oth hA => hA.act (by have := HQ.out; omega) x hxt hxa)).mono ?_
          rintro e w6 ⟨rfl, h⟩
          have HD2 := Lib.hid h
          clear h c0 c1 c2 c3 c4 c5
          go_wp2_with fail
          go_roundw
          case rel => exact ⟨k + 1, by omega, by go_num, by rw [Hrun.out]; exact HD2.out⟩
          case measure => simp [intOf]; omega
        · have HE : Hid (((DK.new N).run (l.take k)).n = N) := Lib.hid (DK.run_n _ _)
          generalize ((DK.new N).run (l.take k)) = D at *
          go_wp2_with fail
          refine (HD.out.fst (fun oth hA => hA.start)).mono ?_
          rintro e w5 ⟨rfl, h⟩
          have HD1 := Lib.hid h
          clear h HD
          go_wp2_with fail
          refine (HD1.out.snd (fun oth hA => hA.start)).mono ?_
          rintro e w6 ⟨rfl, h⟩
          have HD2 := Lib.hid h
          clear h HD1
          have HEn : Hid (D.start.n = N) := Lib.hid HE.out
          have HEo : Hid (D.start.off = false) := Lib.hid rfl
          have HEa : Hid (D.start.arm = none) := Lib.hid rfl
          have HEq : Hid (D.start.q.length ≤ 60) := Lib.hid HQ.out
          clear HE HQ
          generalize D.start = E0 at *
          clear D
          go_wp2_with fail
          refine (HD2.out.fst (fun oth hA => hA.arm a x1 y1 (by omega))).mono ?_
          rintro e w7 ⟨rfl, h⟩
          rw [DK.setArm_wait HEo.out] at h
          have HD3 := Lib.hid h
          have Hml := Lib.hid Hm.out.len
          clear h HD2 Hn
          go_wp2_with fail
          go_loopw [18, 19] (fun u s wr => ∃ (k : Nat) (L : Int) (E : DK), k ≤ mn ∧ s = .int .i64 k ∧ u = .int .i64 L ∧ At2 w wr p (E.wait L x1 y1) q E ∧ (-9223372036854775808 ≤ L ∧ L ≤ 9223372036854775807) ∧ E.off = false ∧ E.arm = none ∧ E.n = N ∧ E.q.length ≤ 60 + k ∧ (a < 0 → L = a)) (fun _ s _ => mn - (intOf s).toNat)
          case atStart => exact ⟨0, a, E0, Nat.zero_le _, rfl, rfl, HD3.out, ba, HEo.out, HEa.out, HEn.out, HEq.out, fun _ => rfl⟩
          case round =>
            obtain ⟨k, L, E, hk, rfl, rfl, hA, hL, hEo, hEa, hEn, hEq, hLa⟩ := hrel
            have HA9 := Lib.hid hA
            have HFo := Lib.hid hEo
            have HFa := Lib.hid hEa
            have HFn0 := Lib.hid hEn
            have HFq0 := Lib.hid hEq
            have HLa := Lib.hid hLa
            have HQ60 : Hid (E.q.length ≤ 900000) := Lib.hid (by have := Hlm.out; have := Hml.out; omega)
            clear hA hEo hEa hEn hEq hLa HD3 HEn HEo HEa HEq
            clear E0
            by_cases hlt : k < mn
            · obtain ⟨x, hx⟩ : ∃ x, m[k]? = some x := ⟨m[k]'(by rw [← Hml.out]; exact hlt), by simp⟩
              have hmem := List.mem_of_getElem? hx
              have hxt := Htxm.out x hmem
              have HX := Lib.hid hx
              clear hmem hx
              obtain ⟨ab, off, rfl, hbl, _⟩ := Hm.out.elem k x HX.out
              clear hbl
              obtain ⟨c0, c1, c2, c3, c4, c5⟩ := Hm.out.cellsAt HA9.out.chg k x HX.out
              by_cases hs : x.kind = 2
              · have hs' : (x.kind == 2) = true := by simpa using hs
                by_cases hL0 : L = 0
                · subst hL0
                  have HSy : Hid ((E.wait 0 x1 y1).sync = (24, E.fail x1 y1)) := Lib.hid (DK.sync_wait HFo.out 0 x1 y1)
                  go_wp2_with fail
                  refine (HA9.out.snd (fun oth hA => hA.fail HQ60.out x1 y1)).mono ?_
                  rintro e w10 ⟨rfl, h⟩
                  have HA10 := Lib.hid h
                  clear h c0 c1 c2 c3 c4 c5
                  go_wp2_with fail
                  refine (HA10.out.fst (fun oth hA => hA.sync HQ60.out)).mono ?_
                  rintro e w11 ⟨rfl, h⟩
                  rw [HSy.out] at h ⊢
                  have HA11 := Lib.hid h
                  clear h HA10
                  simp only
                  have HFn : Hid ((E.fail x1 y1).n = N) := Lib.hid ((DK.fail_n _ _ _).trans HFn0.out)
                  have HFq : Hid ((E.fail x1 y1).q.length ≤ 900000) := Lib.hid (Nat.le_trans (DK.fail_q _ _ _) HQ60.out)
                  have HZ := HA11
                  have HLL : Hid (a < 0 → 0 = a) := HLa
                  go_upto_region 38 with fail
                  go_cut [145] (fun s wx => s = .bool false ∧ At2 w wx p ((E.fail x1 y1)) q ((E.fail x1 y1)))
                  case first =>
                    have HLL1 := HLL.out
                    by_cases ha : a < 0
                    · exact absurd (HLL1 ha) (by omega)
                    · have ha' : 0 ≤ a := by omega
                      go_wp2_with fail
                      go_meet
                      exact ⟨rfl, HZ.out⟩
                  case rest =>
                    obtain ⟨rfl, hz⟩ := hcut
                    have HZ0 := Lib.hid hz
                    clear hz HZ
                    go_wp2_with fail
                    refine (HZ0.out.fst (fun oth hA => hA.start)).mono ?_
                    rintro e w20 ⟨rfl, h⟩
                    have h : At2 w w20 p ((E.fail x1 y1)).start q (E.fail x1 y1) := h
                    have HZ1 := Lib.hid h
                    clear h HZ0
                    go_wp2_with fail
                    refine (HZ1.out.snd (fun oth hA => hA.start)).mono ?_
                    rintro e w21 ⟨rfl, h⟩
                    have HZ2 := Lib.hid h
                    clear h HZ1
                    have HGn : Hid (((E.fail x1 y1)).start.n = N) := Lib.hid HFn.out
                    have HGq : Hid (((E.fail x1 y1)).start.q.length ≤ 900000) := Lib.hid HFq.out
                    have HGo : Hid (((E.fail x1 y1)).start.off = false) := Lib.hid rfl
                    clear HFq HFn
                    generalize ((E.fail x1 y1)).start = G at *
                    have HGl : Hid (G.all.length ≤ 1000000) := Lib.hid (by rw [DK.all_len, HGn.out]; omega)
                    go_wp2_with fail
                    refine (HZ2.out.left.contents HGq.out HGo.out N HGn.out).mono ?_
                    rintro e w22 ⟨v, rfl, hr, _, hc, hv⟩
                    have HR1 := Lib.hid hr
                    have HZ3 := Lib.hid (HZ2.out.quiet hc)
                    clear hr hc hv HZ2
                    go_wp2_with fail
                    refine (HZ3.out.swap.left.contents HGq.out HGo.out N HGn.out).mono ?_
                    rintro e w23 ⟨u, rfl, hr, _, hc, hv⟩
                    have HR2 := Lib.hid hr
                    have HR3 := Lib.hid (HR1.out.kept hc (by simp))
                    have HC23 := Lib.hid ((HZ3.out.quiet hc).chg)
                    clear hr hc hv HZ3 HR1
                    go_wp2_with fail
                    refine (same_spec w23 v u G.all G.all HR3.out HR2.out HGl.out HGl.out).mono ?_
                    rintro e w24 ⟨rfl, hc⟩
                    have HC24 := Lib.hid (HC23.out.trans hc (by simp))
                    rw [decide_eq_true rfl]
                    clear hc
                    go_wp2_with fail
                    go_ret
                    exact ⟨rfl, HC24.out⟩
                · have hL0' : (L == 0) = false := by rw [beq_eq_false_iff_ne]; exact hL0
                  have HSy : Hid ((E.wait L x1 y1).sync = (0, E.flush.wait (DK.less L) x1 y1)) := Lib.hid (by rw [DK.sync_wait HFo.out]; exact if_neg hL0)
                  go_wp2_with fail
                  refine (HA9.out.snd (fun oth hA => hA.sync HQ60.out)).mono ?_
                  rintro e w10 ⟨rfl, h⟩
                  rw [DK.sync_on HFo.out HFa.out] at h ⊢
                  have HA10 := Lib.hid h
                  clear h c0 c1 c2 c3 c4 c5
                  simp only
                  go_wp2_with fail
                  refine (HA10.out.fst (fun oth hA => hA.sync HQ60.out)).mono ?_
                  rintro e w11 ⟨rfl, h⟩
                  rw [HSy.out] at h ⊢
                  have HA11 := Lib.hid h
                  clear h HA10
                  simp only
                  have HGo : Hid (E.flush.off = false) := Lib.hid ((DK.settle_off _ _).trans HFo.out)
                  have HGa : Hid (E.flush.arm = none) := Lib.hid ((DK.settle_arm _ _).trans HFa.out)
                  have HGn : Hid (E.flush.n = N) := Lib.hid ((DK.settle_n _ _).trans HFn0.out)
                  have HGq : Hid (E.flush.q.length ≤ 60 + (k + 1)) := Lib.hid (Nat.zero_le _)
                  by_cases hLp : 0 < L
                  · have hl : DK.less L = L - 1 := by unfold DK.less; rw [if_pos hLp]
                    rw [hl] at HA11
                    go_wp2_with fail
                    go_roundw
                    case rel => exact ⟨k + 1, L - 1, E.flush, by omega, by go_num, rfl, HA11.out, by omega, HGo.out, HGa.out, HGn.out, HGq.out, fun h => by have := HLa.out h; omega⟩
                    case measure => simp [intOf]; omega
                  · have hl : DK.less L = L := by unfold DK.less; rw [if_neg hLp]
                    rw [hl] at HA11
                    go_wp2_with fail
                    go_roundw
                    case rel => exact ⟨k + 1, L, E.flush, by omega, by go_num, rfl, HA11.out, hL, HGo.out, HGa.out, HGn.out, HGq.out, HLa.out⟩
                    case measure => simp [intOf]; omega
              · have hs' : (x.kind == 2) = false := by rw [beq_eq_false_iff_ne]; exact hs
                go_upto_region 22 with fail
                go_cut [21] (fun s wx => s = .int .i64 (E.write x.sector x.txt).1 ∧ At2 w wx p (E.wait L x1 y1) q (E.write x.sector x.txt).2)
                case first =>
                  go_region_law (first
                    | (go_simp; go_at_call 23; refine (text_spec _ x hxt).mono ?_; rintro e w10 ⟨rfl, hc1⟩; have HC10 : Hid (Chg [] wr w10) := Lib.hid (Chg.ofDrew hc1); clear hc1; (obtain ⟨_, e1, _⟩ := Hm.out.cellsAt (HA9.out.quiet HC10.out).chg k x HX.out))
                    | (go_simp; go_at_call 22; refine ((HA9.out.quiet HC10.out).snd (fun oth hA => hA.write HQ60.out x.sector _)).mono ?_; rintro e w11 ⟨rfl, h⟩; have HA11 := Lib.hid h; clear h))
                  all_goals
                    go_wp2_with fail
                    go_meet
                    exact ⟨rfl, HA11.out⟩
                case rest =>
                  obtain ⟨rfl, hA⟩ := hcut
                  rw [DK.write_on HFo.out HFa.out] at hA ⊢
                  clear HA9 c0 c1 c2 c3 c4 c5
                  have HWw := Lib.hid (DK.write_wait HFo.out L x1 y1 x.sector x.txt)
                  by_cases hw : E.valid x.sector = true ∧ x.txt.length = 64
                  · rw [if_pos hw] at HWw hA ⊢
                    clear hw
                    simp only at hA ⊢
                    have HA10 := Lib.hid hA
                    clear hA
                    by_cases hL0 : L = 0
                    · subst hL0
                      rw [if_pos rfl] at HWw
                      obtain ⟨c0, c1, c2, c3, c4, c5⟩ := Hm.out.cellsAt HA10.out.chg k x HX.out
                      go_wp2_with fail
                      refine (HA10.out.snd (fun oth hA => hA.fail (by show (E.q ++ _).length ≤ _; have := HFq0.out; have := Hlm.out; have := Hml.out; simp; omega) x1 y1)).mono ?_
                      rintro e w12 ⟨rfl, h⟩
                      have HA12 := Lib.hid h
                      clear h c0 c1 c2 c3 c4 c5 HA10
                      obtain ⟨c0, c1, c2, c3, c4, c5⟩ := Hm.out.cellsAt HA12.out.chg k x HX.out
                      go_upto_region 32 with fail
                      go_cut [23] (fun s wx => s = .int .i64 24 ∧ At2 w wx p ((E.push x.sector x.txt).fail x1 y1) q ((E.push x.sector x.txt).fail x1 y1))
                      case first =>
                        go_region_law (first
                          | (go_simp; go_at_call 23; refine (text_spec _ x hxt).mono ?_; rintro e w10 ⟨rfl, hc1⟩; have HC10 : Hid (Chg [] w12 w10) := Lib.hid (Chg.ofDrew hc1); clear hc1; (obtain ⟨_, e1, _⟩ := Hm.out.cellsAt (HA12.out.quiet HC10.out).chg k x HX.out))
                          | (go_simp; go_at_call 22; refine ((HA12.out.quiet HC10.out).fst (fun oth hA => hA.write (show (E.wait 0 x1 y1).q.length ≤ 900000 from HQ60.out) x.sector _)).mono ?_; rintro e w11 ⟨rfl, h⟩; rw [HWw.out] at h ⊢; have HA11 := Lib.hid h; clear h))
                        all_goals
                          go_wp2_with fail
                          go_meet
                          exact ⟨rfl, HA11.out⟩
                      case rest =>
                        obtain ⟨rfl, hA⟩ := hcut
                        have HA13 := Lib.hid hA
                        clear hA HA12 c0 c1 c2 c3 c4 c5
                        have HFn : Hid (((E.push x.sector x.txt).fail x1 y1).n = N) := Lib.hid ((DK.fail_n _ _ _).trans HFn0.out)
                        have HFq : Hid (((E.push x.sector x.txt).fail x1 y1).q.length ≤ 900000) := Lib.hid (Nat.le_trans (DK.fail_q _ _ _) (by show (E.q ++ _).length ≤ _; have := HFq0.out; have := Hlm.out; have := Hml.out; simp; omega))
                        have HZ := HA13
                        have HLL : Hid (a < 0 → 0 = a) := HLa
                        go_upto_region 38 with fail
                        go_cut [145] (fun s wx => s = .bool false ∧ At2 w wx p (((E.push x.sector x.txt).fail x1 y1)) q (((E.push x.sector x.txt).fail x1 y1)))
                        case first =>
                          have HLL1 := HLL.out
                          by_cases ha : a < 0
                          · exact absurd (HLL1 ha) (by omega)
                          · have ha' : 0 ≤ a := by omega
                            go_wp2_with fail
                            go_meet
                            exact ⟨rfl, HZ.out⟩
                        case rest =>
                          obtain ⟨rfl, hz⟩ := hcut
                          have HZ0 := Lib.hid hz
                          clear hz HZ
                          go_wp2_with fail
                          refine (HZ0.out.fst (fun oth hA => hA.start)).mono ?_
                          rintro e w20 ⟨rfl, h⟩
                          have h : At2 w w20 p (((E.push x.sector x.txt).fail x1 y1)).start q ((E.push x.sector x.txt).fail x1 y1) := h
                          have HZ1 := Lib.hid h
                          clear h HZ0
                          go_wp2_with fail
                          refine (HZ1.out.snd (fun oth hA => hA.start)).mono ?_
                          rintro e w21 ⟨rfl, h⟩
                          have HZ2 := Lib.hid h
                          clear h HZ1
                          have HGn : Hid ((((E.push x.sector x.txt).fail x1 y1)).start.n = N) := Lib.hid HFn.out
                          have HGq : Hid ((((E.push x.sector x.txt).fail x1 y1)).start.q.length ≤ 900000) := Lib.hid HFq.out
                          have HGo : Hid ((((E.push x.sector x.txt).fail x1 y1)).start.off = false) := Lib.hid rfl
                          clear HFq HFn
                          generalize (((E.push x.sector x.txt).fail x1 y1)).start = G at *
                          have HGl : Hid (G.all.length ≤ 1000000) := Lib.hid (by rw [DK.all_len, HGn.out]; omega)
                          go_wp2_with fail
                          refine (HZ2.out.left.contents HGq.out HGo.out N HGn.out).mono ?_
                          rintro e w22 ⟨v, rfl, hr, _, hc, hv⟩
                          have HR1 := Lib.hid hr
                          have HZ3 := Lib.hid (HZ2.out.quiet hc)
                          clear hr hc hv HZ2
                          go_wp2_with fail
                          refine (HZ3.out.swap.left.contents HGq.out HGo.out N HGn.out).mono ?_
                          rintro e w23 ⟨u, rfl, hr, _, hc, hv⟩
                          have HR2 := Lib.hid hr
                          have HR3 := Lib.hid (HR1.out.kept hc (by simp))
                          have HC23 := Lib.hid ((HZ3.out.quiet hc).chg)
                          clear hr hc hv HZ3 HR1
                          go_wp2_with fail
                          refine (same_spec w23 v u G.all G.all HR3.out HR2.out HGl.out HGl.out).mono ?_
                          rintro e w24 ⟨rfl, hc⟩
                          have HC24 := Lib.hid (HC23.out.trans hc (by simp))
                          rw [decide_eq_true rfl]
                          clear hc
                          go_wp2_with fail
                          go_ret
                          exact ⟨rfl, HC24.out⟩
                    · rw [if_neg hL0] at HWw
                      have hL0' : (L == 0) = false := by rw [beq_eq_false_iff_ne]; exact hL0
                      obtain ⟨c0, c1, c2, c3, c4, c5⟩ := Hm.out.cellsAt HA10.out.chg k x HX.out
                      go_upto_region 32 with fail
                      go_cut [23] (fun s wx => s = .int .i64 0 ∧ At2 w wx p ((E.push x.sector x.txt).wait (DK.less L) x1 y1) q (E.push x.sector x.txt))
                      case first =>
                        go_region_law (first
                          | (go_simp; go_at_call 23; refine (text_spec _ x hxt).mono ?_; rintro e w10 ⟨rfl, hc1⟩; have HC10 : Hid (Chg [] wc w10) := Lib.hid (Chg.ofDrew hc1); clear hc1; (obtain ⟨_, e1, _⟩ := Hm.out.cellsAt (HA10.out.quiet HC10.out).chg k x HX.out))
                          | (go_simp; go_at_call 22; refine ((HA10.out.quiet HC10.out).fst (fun oth hA => hA.write (show (E.wait L x1 y1).q.length ≤ 900000 from HQ60.out) x.sector _)).mono ?_; rintro e w11 ⟨rfl, h⟩; rw [HWw.out] at h ⊢; have HA11 := Lib.hid h; clear h))
                        all_goals
                          go_wp2_with fail
                          go_meet
                          exact ⟨rfl, HA11.out⟩
                      case rest =>
                        obtain ⟨rfl, hA⟩ := hcut
                        have HA11 := Lib.hid hA
                        clear hA HA10 c0 c1 c2 c3 c4 c5
                        have HGo : Hid ((E.push x.sector x.txt).off = false) := Lib.hid HFo.out
                        have HGa : Hid ((E.push x.sector x.txt).arm = none) := Lib.hid HFa.out
                        have HGn : Hid ((E.push x.sector x.txt).n = N) := Lib.hid HFn0.out
                        have HGq : Hid ((E.push x.sector x.txt).q.length ≤ 60 + (k + 1)) := Lib.hid (by show (E.q ++ _).length ≤ _; have := HFq0.out; simp; omega)
                        by_cases hLp : 0 < L
                        · have hl : DK.less L = L - 1 := by unfold DK.less; rw [if_pos hLp]
                          rw [hl] at HA11
                          go_wp2_with fail
                          go_roundw
                          case rel => exact ⟨k + 1, L - 1, E.push x.sector x.txt, by omega, by go_num, rfl, HA11.out, by omega, HGo.out, HGa.out, HGn.out, HGq.out, fun h => by have := HLa.out h; omega⟩
                          case measure => simp [intOf]; omega
                        · have hl : DK.less L = L := by unfold DK.less; rw [if_neg hLp]
                          rw [hl] at HA11
                          go_wp2_with fail
                          go_roundw
                          case rel => exact ⟨k + 1, L, E.push x.sector x.txt, by omega, by go_num, rfl, HA11.out, hL, HGo.out, HGa.out, HGn.out, HGq.out, HLa.out⟩
                          case measure => simp [intOf]; omega
                  · rw [if_neg hw] at HWw hA ⊢
                    clear hw
                    simp only at hA ⊢
                    have HA10 := Lib.hid hA
                    clear hA
                    obtain ⟨c0, c1, c2, c3, c4, c5⟩ := Hm.out.cellsAt HA10.out.chg k x HX.out
                    go_upto_region 32 with fail
                    go_cut [23] (fun s wx => s = .int .i64 1 ∧ At2 w wx p (E.wait L x1 y1) q E)
                    case first =>
                      go_region_law (first
                        | (go_simp; go_at_call 23; refine (text_spec _ x hxt).mono ?_; rintro e w10 ⟨rfl, hc1⟩; have HC10 : Hid (Chg [] wc w10) := Lib.hid (Chg.ofDrew hc1); clear hc1; (obtain ⟨_, e1, _⟩ := Hm.out.cellsAt (HA10.out.quiet HC10.out).chg k x HX.out))
                        | (go_simp; go_at_call 22; refine ((HA10.out.quiet HC10.out).fst (fun oth hA => hA.write (show (E.wait L x1 y1).q.length ≤ 900000 from HQ60.out) x.sector _)).mono ?_; rintro e w11 ⟨rfl, h⟩; rw [HWw.out] at h ⊢; have HA11 := Lib.hid h; clear h))
                      all_goals
                        go_wp2_with fail
                        go_meet
                        exact ⟨rfl, HA11.out⟩
                    case rest =>
                      obtain ⟨rfl, hA⟩ := hcut
                      have HA11 := Lib.hid hA
                      clear hA HA10 c0 c1 c2 c3 c4 c5
                      go_wp2_with fail
                      go_roundw
                      case rel => exact ⟨k + 1, L, E, by omega, by go_num, rfl, HA11.out, hL, HFo.out, HFa.out, HFn0.out, by have := HFq0.out; omega, HLa.out⟩
                      case measure => simp [intOf]; omega
            · clear HFa HFq0
              have HFn : Hid (E.n = N) := HFn0
              have HFq : Hid (E.q.length ≤ 900000) := HQ60
              have HZ := HA9
              have HLL : Hid (a < 0 → L = a) := HLa
              go_upto_region 38 with fail
              go_cut [145] (fun s wx => s = .bool false ∧ At2 w wx p ((E.wait L x1 y1)) q (E))
              case first =>
                have HLL1 := HLL.out
                by_cases ha : a < 0
                · have h1 := HLL1 ha
                  subst h1
                  go_wp2_with fail
                  go_meet
                  exact ⟨rfl, HZ.out⟩
                · have ha' : 0 ≤ a := by omega
                  go_wp2_with fail
                  go_meet
                  exact ⟨rfl, HZ.out⟩
              case rest =>
                obtain ⟨rfl, hz⟩ := hcut
                have HZ0 := Lib.hid hz
                clear hz HZ
                go_wp2_with fail
                refine (HZ0.out.fst (fun oth hA => hA.start)).mono ?_
                rintro e w20 ⟨rfl, h⟩
                have h : At2 w w20 p (E).start q E := h
                have HZ1 := Lib.hid h
                clear h HZ0
                go_wp2_with fail
                refine (HZ1.out.snd (fun oth hA => hA.start)).mono ?_
                rintro e w21 ⟨rfl, h⟩
                have HZ2 := Lib.hid h
                clear h HZ1
                have HGn : Hid ((E).start.n = N) := Lib.hid HFn.out
                have HGq : Hid ((E).start.q.length ≤ 900000) := Lib.hid HFq.out
                have HGo : Hid ((E).start.off = false) := Lib.hid rfl
                clear HFq HFn
                generalize (E).start = G at *
                have HGl : Hid (G.all.length ≤ 1000000) := Lib.hid (by rw [DK.all_len, HGn.out]; omega)
                go_wp2_with fail
                refine (HZ2.out.left.contents HGq.out HGo.out N HGn.out).mono ?_
                rintro e w22 ⟨v, rfl, hr, _, hc, hv⟩
                have HR1 := Lib.hid hr
                have HZ3 := Lib.hid (HZ2.out.quiet hc)
                clear hr hc hv HZ2
                go_wp2_with fail
                refine (HZ3.out.swap.left.contents HGq.out HGo.out N HGn.out).mono ?_
                rintro e w23 ⟨u, rfl, hr, _, hc, hv⟩
                have HR2 := Lib.hid hr
                have HR3 := Lib.hid (HR1.out.kept hc (by simp))
                have HC23 := Lib.hid ((HZ3.out.quiet hc).chg)
                clear hr hc hv HZ3 HR1
                go_wp2_with fail
                refine (same_spec w23 v u G.all G.all HR3.out HR2.out HGl.out HGl.out).mono ?_
                rintro e w24 ⟨rfl, hc⟩
                have HC24 := Lib.hid (HC23.out.trans hc (by simp))
                rw [decide_eq_true rfl]
                clear hc
                go_wp2_with fail
                go_ret
                exact ⟨rfl, HC24.out⟩
end Go.Proofs.Ytnlgblcldbdnlaa
