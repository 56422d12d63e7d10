/-
  The walk of DiskPrefix.
-/
import Derived.Test.YtnlgblcldbdnlaaLwL
import Derived.Deep.RegionLaw
namespace Go.Proofs.Ytnlgblcldbdnlaa
set_option linter.unusedVariables false
set_option linter.unusedSimpArgs false
open Go Go.RowKit
attribute [local irreducible] Go.wpStill

/-- What the statement's 'next' holds: the write at place c of those accepted, or none. -/
def LastOf (n : Nat) (q : List (Nat × Bytes)) (c : Nat) (y : ActD) : Prop :=
  (q[c]? = some (y.sector.toNat, y.txt) ∧ 0 ≤ y.sector ∧ y.sector < (n : Int) ∧ y.text.length ≤ 100) ∨ (q.length ≤ c ∧ y.sector = -1)
theorem LastOf.more {n : Nat} {q : List (Nat × Bytes)} {c : Nat} {y : ActD} {z : Nat × Bytes} (h : LastOf n q c y) (hne : q.length ≠ c) : LastOf n (q ++ [z]) c y := by
  rcases h with ⟨h1, h2⟩ | ⟨h1, h2⟩
  · exact .inl ⟨by rw [List.getElem?_append_left (List.getElem?_eq_some_iff.1 h1).1]; exact h1, h2⟩
  · exact .inr ⟨by simp; omega, h2⟩

theorem slice_str (x z : Bytes) (b : Nat) : Value.string ((⟨x.toArray⟩ : ByteArray).extract 0 b ++ (⟨z.toArray⟩ : ByteArray).extract b z.length) = vstr (x.take b ++ z.drop b) := by
  unfold vstr
  refine congrArg Value.string ?_
  apply ByteArray.ext
  apply Array.ext'
  simp
  exact List.take_of_length_le (by simp)
theorem prefix_tail {w w13 w14 : World} {g2 N cap2 i b : Nat} {tx z : Bytes} {v1 : Value} {W G : List Bytes} (HW : StrRow w13 (.slice (some ⟨g2, 0, none⟩) N cap2) W) (HR : StrRow w13 v1 G) (hC : Chg [] w13 w14) (hC0 : Chg [] w w13)
    (hd : ∀ k ∈ (Value.slice (some ⟨g2, 0, none⟩) N cap2).ownBlock.toList, k ∉ v1.ownBlock.toList) (hg : ∀ k ∈ (Value.slice (some ⟨g2, 0, none⟩) N cap2).ownBlock.toList, w.heap.size ≤ k) (hG : G = W.set i (tx.take b ++ z.drop b)) :
    StrRow (w14.setCell ⟨g2, i, none⟩ (.string ((⟨tx.toArray⟩ : ByteArray).extract 0 b ++ (⟨z.toArray⟩ : ByteArray).extract b z.length))) (.slice (some ⟨g2, 0, none⟩) N cap2) G ∧
    StrRow (w14.setCell ⟨g2, i, none⟩ (.string ((⟨tx.toArray⟩ : ByteArray).extract 0 b ++ (⟨z.toArray⟩ : ByteArray).extract b z.length))) v1 G ∧
    Chg [] w (w14.setCell ⟨g2, i, none⟩ (.string ((⟨tx.toArray⟩ : ByteArray).extract 0 b ++ (⟨z.toArray⟩ : ByteArray).extract b z.length))) := by
  have hm : g2 ∈ (Value.slice (some ⟨g2, 0, none⟩) N cap2).ownBlock.toList := by simp [Value.ownBlock]
  rw [slice_str, hG]
  have hc : Chg [g2] w14 (w14.setCell ⟨g2, i, none⟩ (vstr (tx.take b ++ z.drop b))) := (Chg.refl _ _).setCell _ _ (.inl (by simp))
  refine ⟨(HW.kept hC (by simp)).set i _, ?_, (hC0.trans hC (by simp)).setCell _ _ (.inr (hg g2 hm))⟩
  rw [← hG]
  exact (HR.kept hC (by simp)).kept hc (fun k hk hm2 => by
    rw [List.mem_singleton.1 hm2] at hk
    exact hd g2 hm hk)

set_option maxHeartbeats 4000000 in
set_option maxRecDepth 100000 in
theorem diskPrefix_walk (w : World) (raw : Nat) (braw : raw < 256) (lo : Option Addr) (ln lc : Nat) (l : List ActD) (Hl : Hid (ActsAt w (.slice lo ln lc) l)) (hnl : ln ≤ 9223372036854775807) (Hal : Hid (∀ x ∈ l, x.after ≤ 9223372036854775807)) (mo : Option Addr) (mn mc : Nat) (m : List ActD) (Hm : Hid (ActsAt w (.slice mo mn mc) m)) (hnm : mn ≤ 9223372036854775807) (Ham : Hid (∀ x ∈ m, x.after ≤ 9223372036854775807)) (fi : Nat) (bfi : fi < 256) (tn : Nat) (btn : tn < 256) :
    Calls Try.prog 5 #[.int .u8 raw, .slice lo ln lc, .slice mo mn mc, .int .u8 fi, .int .u8 tn] w fun e w' => e = .returned (.bool true) ∧ Chg [] w w' := by
  cases hokl : okL l with
  | false =>
    have Hokl := Lib.hid hokl
    clear hokl
    go_enter Try.func5, Try.ntmps5
    go_wp2_with fail
    refine (head_spec _).mono ?_
    rintro e w1 ⟨rfl, hc⟩
    have HC1 : Hid (Chg [] w w1) := Lib.hid (hc)
    clear hc
    go_wp2_with fail
    refine (ok_spec w1 lo ln lc l (Lib.hid (Hl.out.quiet HC1.out)) hnl).mono ?_
    rintro e w2 ⟨rfl, rfl⟩
    rw [Hokl.out]
    go_wp2_with fail
    go_ret
    exact ⟨rfl, HC1.out⟩
  | true =>
    have hokl' := hokl
    unfold okL at hokl'
    rw [Bool.and_eq_true, List.all_eq_true, decide_eq_true_eq] at hokl'
    have Htxl : Hid (∀ x ∈ l, x.text.length ≤ 100) := Lib.hid (fun x hx => by simpa using hokl'.1 x hx)
    have Hll : Hid (l.length ≤ 60) := Lib.hid hokl'.2
    have Hokl := Lib.hid hokl
    clear hokl' hokl
    cases hokm : okL m with
    | false =>
      have Hokm := Lib.hid hokm
      clear hokm
      go_enter Try.func5, Try.ntmps5
      go_wp2_with fail
      refine (head_spec _).mono ?_
      rintro e w1 ⟨rfl, hc⟩
      have HC1 : Hid (Chg [] w w1) := Lib.hid (hc)
      clear hc
      go_wp2_with fail
      refine (ok_spec w1 lo ln lc l (Lib.hid (Hl.out.quiet HC1.out)) hnl).mono ?_
      rintro e w2 ⟨rfl, rfl⟩
      rw [Hokl.out]
      go_wp2_with fail
      refine (ok_spec w1 mo mn mc m (Lib.hid (Hm.out.quiet HC1.out)) hnm).mono ?_
      rintro e w2 ⟨rfl, rfl⟩
      rw [Hokm.out]
      go_wp2_with fail
      go_ret
      exact ⟨rfl, HC1.out⟩
    | true =>
      have hokm' := hokm
      unfold okL at hokm'
      rw [Bool.and_eq_true, List.all_eq_true, decide_eq_true_eq] at hokm'
      have Htxm : Hid (∀ x ∈ m, x.text.length ≤ 100) := Lib.hid (fun x hx => by simpa using hokm'.1 x hx)
      have Hlm : Hid (m.length ≤ 60) := Lib.hid hokm'.2
      have Hokm := Lib.hid hokm
      clear hokm' hokm
      obtain ⟨N, hN⟩ : ∃ N, N = 1 + raw % 12 := ⟨_, rfl⟩
      have hN1 : 1 ≤ N := by omega
      have hN2 : N ≤ 12 := by omega
      have HN := Lib.hid hN
      clear hN
      obtain ⟨c, hc⟩ : ∃ c, c = fi % 61 := ⟨_, rfl⟩
      obtain ⟨b, hb⟩ : ∃ b, b = tn % 33 := ⟨_, rfl⟩
      have hcm : (fi : Int) % 61 = (c : Int) := by omega
      have hbm : (tn : Int) % 33 = (b : Int) := by omega
      have hc60 : c ≤ 60 := by omega
      have hb32 : b ≤ 32 := by omega
      clear hc hb
      go_enter Try.func5, Try.ntmps5
      go_wp2_with fail
      refine (head_spec _).mono ?_
      rintro e w1 ⟨rfl, hc⟩
      have HC1 : Hid (Chg [] w w1) := Lib.hid (hc)
      clear hc
      go_wp2_with fail
      refine (ok_spec w1 lo ln lc l (Lib.hid (Hl.out.quiet HC1.out)) hnl).mono ?_
      rintro e w2 ⟨rfl, rfl⟩
      rw [Hokl.out]
      go_wp2_with fail
      refine (ok_spec w1 mo mn mc m (Lib.hid (Hm.out.quiet HC1.out)) hnm).mono ?_
      rintro e w2 ⟨rfl, rfl⟩
      rw [Hokm.out]
      go_wp2_with fail
      refine (size_spec w1 raw braw).mono ?_
      rintro e w2 ⟨rfl, rfl⟩
      rw [← HN.out]
      go_wp2_with fail
      rw [hcm, hbm]
      clear hcm hbm
      refine (At.new w1 N hN1 (by omega)).mono ?_
      rintro e w3 ⟨p, rfl, hA⟩
      have HA := Lib.hid (hA.rebase HC1.out)
      clear hA
      go_wp2_with fail
      go_loopw [16] (fun s wr => ∃ k : Nat, k ≤ ln ∧ s = .int .i64 k ∧ At w wr [] p ((DK.new N).run (l.take k)) ∧ Kept [] w3 wr) (fun s _ => ln - (intOf s).toNat)
      case atStart => exact ⟨0, Nat.zero_le _, rfl, by simpa [DK.run] using HA.out, Kept.refl _ _⟩
      case round =>
        obtain ⟨k, hk, rfl, hD, hK⟩ := hrel
        have HD := Lib.hid hD
        have HK := Lib.hid hK
        have Hn := Lib.hid Hl.out.len
        clear hD hK HA
        have HQ : Hid (((DK.new N).run (l.take k)).q.length ≤ 60) := Lib.hid (run_new_q N _ (by rw [List.length_take]; have := Hll.out; omega))
        by_cases hlt : k < ln
        · obtain ⟨x, hx⟩ : ∃ x, l[k]? = some x := ⟨l[k]'(by rw [← Hn.out]; exact hlt), by simp⟩
          have hmem := List.mem_of_getElem? hx
          have hxt := Htxl.out x hmem
          have hxa := Hal.out x hmem
          have Hrun := Lib.hid (DK.run_snoc (DK.new N) l k x hx)
          have HX := Lib.hid hx
          clear hmem hx
          obtain ⟨ab, off, rfl, hbl, c0, c1, c2, c3, c4, c5⟩ := (Hl.out.quiet HD.out.chg).elem k x HX.out
          go_wp2_with fail
          refine (HD.out.act (by have := HQ.out; omega) x hxt hxa).mono ?_
          rintro e w5 ⟨rfl, h, hk⟩
          have HD1 := Lib.hid h
          have HK1 := Lib.hid (HK.out.trans hk)
          clear h hk c0 c1 c2 c3 c4 c5
          go_wp2_with fail
          go_roundw
          case rel => exact ⟨k + 1, by omega, by go_num, by rw [Hrun.out]; exact HD1.out, HK1.out⟩
          case measure => simp [intOf]; omega
        · have HT : Hid ((DK.new N).run (l.take k) = (DK.new N).run l) := Lib.hid (by rw [List.take_of_length_le (by rw [← Hn.out]; omega)])
          have HE : Hid (((DK.new N).run (l.take k)).n = N) := Lib.hid (DK.run_n _ _)
          generalize ((DK.new N).run (l.take k)) = D at *
          clear HK
          go_wp2_with fail
          refine (HD.out.start).mono ?_
          rintro e w5 ⟨rfl, h, hk⟩
          have HD1 := Lib.hid h
          clear h hk HD
          go_wp2_with fail
          refine (HD1.out.sync (Nat.le_trans HQ.out (by omega))).mono ?_
          rintro e w6 ⟨rfl, h, hk⟩
          rw [DK.start_sync] at h ⊢
          have HEn : Hid (D.start.flush.n = N) := Lib.hid ((DK.settle_n _ _).trans HE.out)
          have HEo : Hid (D.start.flush.off = false) := Lib.hid ((DK.settle_off _ _).trans rfl)
          have HEa : Hid (D.start.flush.arm = none) := Lib.hid ((DK.settle_arm _ _).trans rfl)
          have HEq : Hid (D.start.flush = D.start.flush.onq []) := Lib.hid rfl
          have HS0 : Hid (D.start.flush = ((DK.new N).run l).start.flush) := Lib.hid (by rw [HT.out])
          generalize D.start.flush = S at *
          have HD2 := Lib.hid h
          have Hml := Lib.hid Hm.out.len
          clear h hk HD1 HE HQ HT
          clear D
          simp only
          go_wp2_with fail
          have hcw := (Chg.refl [] w6).alloc (.cells (ActD.cells ⟨0, -1, 0, [], false, 0⟩).toArray 34)
          have hB := Blk.new w6 (ActD.cells ⟨0, -1, 0, [], false, 0⟩) 34
          have hA8 := HD2.out.more (new := [w6.heap.size]) hcw (fun k hk => by simp at hk ⊢; omega)
          have HGW := Lib.hid HD2.out.chg.size
          have HB8 := Lib.hid hB
          have HA8 := Lib.hid hA8
          clear hcw hB hA8 HD2
          simp only [ActD.cells] at HB8 HA8
          generalize (w6.alloc (.cells _ 34)) = w8 at *
          generalize w6.heap.size = g at *
          obtain ⟨oth, hoth⟩ : ∃ oth, oth = [g] ++ [] := ⟨_, rfl⟩
          rw [← hoth] at HA8
          have Hmg : Hid (g ∈ oth) := Lib.hid (by rw [hoth]; simp)
          clear hoth
          go_loopw [17, 19] (fun u s wr => ∃ (k : Nat) (y : ActD), k ≤ mn ∧ s = .int .i64 k ∧ u = .int .i64 ((DK.acc N (m.take k)).length : Nat) ∧ At w wr oth p (S.onq (DK.acc N (m.take k))) ∧ Blk wr g y.cells 34 ∧ LastOf N (DK.acc N (m.take k)) c y) (fun _ s _ => mn - (intOf s).toNat)
          case atStart => exact ⟨0, ⟨0, -1, 0, [], false, 0⟩, Nat.zero_le _, rfl, rfl, by have := HA8.out; rw [HEq.out] at this; exact this, HB8.out, .inr ⟨Nat.zero_le _, rfl⟩⟩
          case round =>
            obtain ⟨k, y, hk, rfl, rfl, hA, hB, hL⟩ := hrel
            have HA9 := Lib.hid hA
            have HB9 := Lib.hid hB
            have HL9 := Lib.hid hL
            obtain ⟨d, hd⟩ : ∃ d, d = (DK.acc N (m.take k)).length := ⟨_, rfl⟩
            rw [← hd]
            have HDd := Lib.hid hd
            have HQ60 : Hid ((S.onq (DK.acc N (m.take k))).q.length ≤ 900000) := Lib.hid (by
              show (DK.acc N (m.take k)).length ≤ 900000
              have h1 := DK.acc_len N (m.take k)
              have h2 := Hlm.out
              rw [List.length_take] at h1
              omega)
            have hd60 : d ≤ 60 := by
              have h1 := DK.acc_len N (m.take k)
              have h2 := Hlm.out
              rw [List.length_take] at h1
              omega
            clear hA hB hL hd HA8 HB8
            by_cases hlt : k < mn
            · obtain ⟨x, hx⟩ : ∃ x, m[k]? = some x := ⟨m[k]'(by rw [← Hml.out]; exact hlt), by simp⟩
              have hmem := List.mem_of_getElem? hx
              have hxt := Htxm.out x hmem
              have HX := Lib.hid hx
              clear hmem hx
              obtain ⟨ab, off, rfl, hbl, _⟩ := Hm.out.elem k x HX.out
              clear hbl
              obtain ⟨c0, c1, c2, c3, c4, c5⟩ := Hm.out.cellsAt HA9.out.chg k x HX.out
              have HAC := Lib.hid (DK.acc_snoc N m k x HX.out)
              go_upto_region 19 with fail
              go_cut [79] (fun s79 wx => s79 = .bool (((S.onq (DK.acc N (m.take k))).write x.sector x.txt).1 == 0) ∧ At w wx oth p ((S.onq (DK.acc N (m.take k))).write x.sector x.txt).2 ∧ Kept oth wr wx)
              case first =>
                go_region_law (first
                  | (go_simp; go_at_call 23; refine (text_spec _ x hxt).mono ?_; rintro e w10 ⟨rfl, hc1⟩; have HC10 : Hid (Chg [] wr w10) := Lib.hid (Chg.ofDrew hc1); clear hc1; (obtain ⟨_, e1, _⟩ := Hm.out.cellsAt (HA9.out.quiet HC10.out).chg k x HX.out))
                  | (go_simp; go_at_call 22; refine ((HA9.out.quiet HC10.out).write HQ60.out x.sector _).mono ?_; rintro e w11 ⟨rfl, h, hk⟩; have HA11 := Lib.hid h; have HK11 := Lib.hid hk; clear h hk))
                all_goals
                  go_wp2_with fail
                  go_meet
                  exact ⟨rfl, HA11.out, (HC10.out.toKept _).trans HK11.out⟩
              case rest =>
                obtain ⟨rfl, hA, hk2⟩ := hcut
                rw [DK.write_onq HEo.out HEa.out, HEn.out] at hA ⊢
                have HA10 := Lib.hid hA
                have HB10 := Lib.hid (hk2.blk HB9.out Hmg.out)
                clear hA hk2 HA9 HB9 c0 c1 c2 c3 c4 c5
                obtain ⟨c0, c1, c2, c3, c4, c5⟩ := Hm.out.cellsAt HA10.out.chg k x HX.out
                by_cases hw : (0 ≤ x.sector ∧ x.sector < (N : Int)) ∧ x.txt.length = 64
                · rw [if_pos hw] at HA10 HAC ⊢
                  have HW := Lib.hid hw
                  clear hw
                  simp only
                  by_cases hdc : d = c
                  · subst hdc
                    have b0 := HB10.out.cell (i := 0) rfl
                    have b1 := HB10.out.cell (i := 1) rfl
                    have b2 := HB10.out.cell (i := 2) rfl
                    have b3 := HB10.out.cell (i := 3) rfl
                    have b4 := HB10.out.cell (i := 4) rfl
                    have b5 := HB10.out.cell (i := 5) rfl
                    have f0 := HB10.out.free 0
                    have f1 := HB10.out.free 1
                    have f2 := HB10.out.free 2
                    have f3 := HB10.out.free 3
                    have f4 := HB10.out.free 4
                    have f5 := HB10.out.free 5
                    go_wp2_with fail
                    go_roundw
                    case rel =>
                      refine ⟨k + 1, x, by omega, by go_num, by rw [HAC.out, List.length_append, ← HDd.out]; simp, ?_, (((((HB10.out.set 0 _).set 1 _).set 2 _).set 3 _).set 4 _).set 5 _, .inl ⟨?_, HW.out.1.1, HW.out.1.2, hxt⟩⟩
                      · rw [HAC.out]
                        refine HA10.out.beside (blk := [g]) ?_ (fun k hk => by rw [List.mem_singleton.1 hk]; exact ⟨Hmg.out, HGW.out⟩)
                        exact ((((((Chg.refl _ _).setCell _ _ (.inl (by simp))).setCell _ _ (.inl (by simp))).setCell _ _ (.inl (by simp))).setCell _ _ (.inl (by simp))).setCell _ _ (.inl (by simp))).setCell _ _ (.inl (by simp))
                      · rw [HAC.out, List.getElem?_append_right (by rw [← HDd.out]; exact Nat.le_refl _), ← HDd.out, Nat.sub_self]
                        rfl
                    case measure => simp [intOf]; omega
                  · have hdc' : ((d : Int) == (c : Int)) = false := by rw [beq_eq_false_iff_ne]; omega
                    go_wp2_with fail
                    go_roundw
                    case rel => exact ⟨k + 1, y, by omega, by go_num, by rw [HAC.out, List.length_append, ← HDd.out]; simp, by rw [HAC.out]; exact HA10.out, HB10.out, by rw [HAC.out]; exact HL9.out.more (by rw [← HDd.out]; exact hdc)⟩
                    case measure => simp [intOf]; omega
                · rw [if_neg hw] at HA10 HAC ⊢
                  clear hw
                  rw [List.append_nil] at HAC
                  simp only
                  go_wp2_with fail
                  go_roundw
                  case rel => exact ⟨k + 1, y, by omega, by go_num, by rw [HAC.out, ← HDd.out], by rw [HAC.out]; exact HA10.out, HB10.out, by rw [HAC.out]; exact HL9.out⟩
                  case measure => simp [intOf]; omega
            · have HTK : Hid (DK.acc N (m.take k) = DK.acc N m) := Lib.hid (by rw [List.take_of_length_le (l := m) (by rw [← Hml.out]; omega)])
              rw [HTK.out] at HA9 HL9 HDd HQ60
              clear HTK
              go_wp2_with fail
              refine (HA9.out.fail HQ60.out (c : Int) (b : Int)).mono ?_
              rintro e w10 ⟨rfl, h, hk2⟩
              have HA10 := Lib.hid h
              have HB10 := Lib.hid (hk2.blk HB9.out Hmg.out)
              clear h hk2 HB9
              have HOk := Lib.hid HA9.out.ok
              clear HA9
              go_wp2_with fail
              refine (HA10.out.start).mono ?_
              rintro e w11 ⟨rfl, h, hk2⟩
              have HA11 := Lib.hid h
              have HB11 := Lib.hid (hk2.blk HB10.out Hmg.out)
              clear h hk2 HA10 HB10
              have HGn : Hid (((S.onq (DK.acc N m)).fail (c : Int) (b : Int)).start.n = N) := Lib.hid ((DK.fail_n _ _ _).trans HEn.out)
              have HGq : Hid (((S.onq (DK.acc N m)).fail (c : Int) (b : Int)).start.q.length ≤ 900000) := Lib.hid (Nat.le_trans (DK.fail_q _ _ _) HQ60.out)
              have HGo : Hid (((S.onq (DK.acc N m)).fail (c : Int) (b : Int)).start.off = false) := Lib.hid rfl
              have HGa := Lib.hid (DK.fail_prefix HEo.out (DK.acc N m) c b (by omega) HOk.out.st HOk.out.q)
              generalize ((S.onq (DK.acc N m)).fail (c : Int) (b : Int)).start = G at *
              go_wp2_with fail
              refine (HA11.out.contents HGq.out HGo.out N HGn.out).mono ?_
              rintro e w12 ⟨v1, rfl, hr, hA, hc, hv⟩
              have HR12 := Lib.hid hr
              have HB12 := Lib.hid (hc.blk HB11.out (by simp))
              have HC12 := Lib.hid hA.chg
              clear hr hA hc hv HB11 HA11
              go_wp2_with fail
              refine (prefix_spec w12 N hN1 hN2 lo ln lc l (Lib.hid (Hl.out.quiet HC12.out)) hnl Hal mo mn mc m (Lib.hid (Hm.out.quiet HC12.out)) hnm Ham Htxl Hll Htxm Hlm c hc60).mono ?_
              rintro e w13 ⟨v2, rfl, hr, hc, hv⟩
              rw [← HS0.out] at hr
              have HR13 := Lib.hid (HR12.out.kept hc (by simp))
              have HW13 := Lib.hid hr
              have HV13 : Hid (∀ k ∈ v2.ownBlock.toList, w.heap.size ≤ k) := Lib.hid (fun k hk => Nat.le_trans HC12.out.size (hv k hk))
              have HB13 := Lib.hid (hc.blk HB12.out (by simp))
              have HC13 := Lib.hid (HC12.out.trans hc (by simp))
              have HD12 : Hid (∀ k ∈ v2.ownBlock.toList, k ∉ v1.ownBlock.toList) := Lib.hid (fun k hk hm => by have := hv k hk; have := row_lt HR12.out k hm; omega)
              have HWn : Hid ((S.onq ((DK.acc N m).take c)).n = N) := Lib.hid HEn.out
              have HGl : Hid (G.all.length ≤ 1000000) := Lib.hid (by rw [DK.all_len, HGn.out]; omega)
              clear hr hc hv HR12 HB12 HC12
              have b0 := HB13.out.cell (i := 0) rfl
              have b1 := HB13.out.cell (i := 1) rfl
              have b2 := HB13.out.cell (i := 2) rfl
              have b3 := HB13.out.cell (i := 3) rfl
              have b4 := HB13.out.cell (i := 4) rfl
              have b5 := HB13.out.cell (i := 5) rfl
              rcases HL9.out with ⟨hq, hs0, hsN, hxt⟩ | ⟨hq, hs⟩
              · obtain ⟨i, hi⟩ : ∃ i : Nat, y.sector = (i : Int) := ⟨y.sector.toNat, by omega⟩
                have hiN : i < N := by omega
                have hi0 : ¬ (i : Int) < 0 := by omega
                have hi0' : (0 : Int) ≤ (i : Int) := by omega
                have hiN' : ¬ (N : Int) ≤ (i : Int) := by omega
                have ht64 : y.txt.length = 64 := (HOk.out.q _ (List.mem_of_getElem? hq)).2
                have hWok : (S.onq ((DK.acc N m).take c)).Ok := ⟨HOk.out.n1, HOk.out.n2, HOk.out.st, HOk.out.el, fun p hp => HOk.out.q p (List.mem_of_mem_take hp), HOk.out.arm⟩
                have hx64 : ((S.onq ((DK.acc N m).take c)).cur i).length = 64 := cur_len hWok i (by rw [HWn.out]; exact hiN)
                rw [hq] at HGa
                simp only at HGa
                rw [show y.sector.toNat = i by omega] at HGa
                obtain ⟨g2, cap2, hv2, k2⟩ := HW13.out.at N ((DK.all_len _).trans HWn.out) i _ (DK.all_at _ i (by rw [HWn.out]; exact hiN))
                subst hv2
                obtain ⟨z, hz⟩ : ∃ z, z = (S.onq ((DK.acc N m).take c)).cur i := ⟨_, rfl⟩
                rw [← hz] at k2 hx64
                rw [← hz] at HGa
                have HZ := Lib.hid hz
                have HT64 := Lib.hid ht64
                have HX64 := Lib.hid hx64
                have hb13 := HB13.out
                simp only [ActD.cells] at hb13
                rw [hi] at b1 hb13
                clear hz ht64 hx64 hq hs0 hsN hi hWok
                obtain ⟨tx, htx⟩ : ∃ tx, tx = y.txt := ⟨_, rfl⟩
                have HTS : Hid (∀ wq, Calls Try.prog 23 #[.agg #[.int .i64 y.kind, .int .i64 (i : Int), .int .i64 y.bytes, .string ⟨y.text.toArray⟩, .bool y.odd, .int .i64 y.after]] wq fun e w' => e = .returned (.string ⟨tx.toArray⟩) ∧ Chg [] wq w') := Lib.hid (fun wq => by rw [htx]; exact text_spec wq ⟨y.kind, (i : Int), y.bytes, y.text, y.odd, y.after⟩ hxt)
                rw [← htx] at HGa HT64
                have hbt : b ≤ tx.length := by rw [HT64.out]; omega
                have hbz : b ≤ z.length := by rw [HX64.out]; omega
                have hzm : ¬ 9223372036854775807 < z.length := by rw [HX64.out]; omega
                have HKZ : Hid (∀ wq, StrRow wq (.slice (some ⟨g2, 0, none⟩) N cap2) (S.onq ((DK.acc N m).take c)).all → wq.frozen? ⟨g2, i, none⟩ = false ∧ wq.cell? ⟨g2, i, none⟩ = some (.string ⟨z.toArray⟩)) := Lib.hid (fun wq h => by
                  obtain ⟨h1, _, _⟩ := h.spot2 i (by rw [DK.all_len, HWn.out]; exact hiN)
                  obtain ⟨g', cap', hv', h2⟩ := h.at N ((DK.all_len _).trans HWn.out) i z (by rw [HZ.out]; exact DK.all_at _ i (by rw [HWn.out]; exact hiN))
                  simp only [Value.slice.injEq, Option.some.injEq, Addr.mk.injEq, and_true, true_and] at hv'
                  obtain ⟨rfl, _⟩ := hv'
                  exact ⟨h1, h2⟩)
                clear k2
                obtain ⟨f2, k2⟩ := HKZ.out _ HW13.out
                clear htx
                go_upto_region 30 with fail
                go_cut [] (fun wx => StrRow wx (.slice (some ⟨g2, 0, none⟩) N cap2) G.all ∧ StrRow wx v1 G.all ∧ Chg [] w wx)
                case first =>
                  go_region_law (go_simp; go_at_call 23; refine (HTS.out _).mono ?_; rintro e w14 ⟨rfl, hc1⟩; have e1 : w14.cell? ⟨g, 1, none⟩ = some (.int .i64 (i : Int)) := (hc1.blk (w := w13.drew) hb13 (by simp)).cell (i := 1) rfl; have HC14 : Hid (Chg [] w13 w14) := Lib.hid (Chg.ofDrew hc1); clear hc1; (obtain ⟨f14, k14⟩ := HKZ.out _ (HW13.out.kept HC14.out (by simp))))
                  all_goals
                    go_wp2_with fail
                    go_meet
                    exact prefix_tail HW13.out HR13.out HC14.out HC13.out HD12.out HV13.out HGa.out
                case rest =>
                  obtain ⟨h1, h2, h3⟩ := hcut
                  have HR20 := Lib.hid h1
                  have HR21 := Lib.hid h2
                  have HC20 := Lib.hid h3
                  clear h1 h2 h3 HW13 HR13 HC13 f2 k2 HKZ hb13 HTS
                  go_wp2_with fail
                  refine (same_spec _ _ _ _ _ HR21.out HR20.out HGl.out HGl.out).mono ?_
                  rintro e w15 ⟨rfl, hc⟩
                  rw [decide_eq_true rfl]
                  have HC21 := Lib.hid (HC20.out.trans hc (by simp))
                  clear hc
                  go_wp2_with fail
                  go_ret
                  exact ⟨rfl, HC21.out⟩
              · rw [List.getElem?_eq_none hq] at HGa
                rw [hs] at b1
                have HQ := Lib.hid hq
                clear hq hs
                go_wp2_with fail
                refine (same_spec w13 _ _ _ _ HR13.out HW13.out HGl.out (by rw [← HGa.out]; exact HGl.out)).mono ?_
                rintro e w14 ⟨rfl, hc⟩
                rw [decide_eq_true HGa.out]
                have HC14 := Lib.hid (HC13.out.trans hc (by simp))
                clear hc
                go_wp2_with fail
                go_ret
                exact ⟨rfl, HC14.out⟩
end Go.Proofs.Ytnlgblcldbdnlaa
