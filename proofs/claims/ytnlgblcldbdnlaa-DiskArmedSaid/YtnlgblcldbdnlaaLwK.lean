/-
  The statements' helper 'prefix': the contents of a disk after the first k accepted writes.
-/
import Derived.Test.YtnlgblcldbdnlaaLwJ
import Derived.Deep.RegionLaw
namespace Go.Proofs.Ytnlgblcldbdnlaa
set_option linter.unusedVariables false
set_option linter.unusedSimpArgs false
open Go Go.RowKit
attribute [local irreducible] Go.wpStill

namespace DK
/-- The writes that a disk with n sectors accepts. -/
def acc (n : Nat) (l : List ActD) : List (Nat × Bytes) := l.filterMap (fun x => if (0 ≤ x.sector ∧ x.sector < (n : Int)) ∧ x.txt.length = 64 then some (x.sector.toNat, x.txt) else none)
def onq (S : DK) (q : List (Nat × Bytes)) : DK := { S with q := q }
theorem acc_snoc (n : Nat) (l : List ActD) (k : Nat) (x : ActD) (hx : l[k]? = some x) : acc n (l.take (k + 1)) = acc n (l.take k) ++ (if (0 ≤ x.sector ∧ x.sector < (n : Int)) ∧ x.txt.length = 64 then [(x.sector.toNat, x.txt)] else []) := by
  rw [List.take_add_one, hx, Option.toList_some]
  unfold acc
  rw [List.filterMap_append]
  congr 1
  simp only [List.filterMap_cons, List.filterMap_nil]
  split <;> simp_all
theorem acc_len (n : Nat) (l : List ActD) : (acc n l).length ≤ l.length := List.length_filterMap_le _ _
theorem acc_take (n : Nat) (l : List ActD) (i k : Nat) (h : (acc n (l.take i)).length = k) : (acc n l).take k = acc n (l.take i) := by
  have e : acc n l = acc n (l.take i) ++ acc n (l.drop i) := by
    unfold acc
    rw [← List.filterMap_append, List.take_append_drop]
  rw [e, List.take_append_of_le_length (by omega), List.take_of_length_le (by omega)]
/-- A write on a disk that is on and not armed, with its queue named. -/
theorem write_onq {S : DK} (ho : S.off = false) (ha : S.arm = none) (q : List (Nat × Bytes)) (s : Int) (t : Bytes) :
    (S.onq q).write s t = if (0 ≤ s ∧ s < (S.n : Int)) ∧ t.length = 64 then (0, S.onq (q ++ [(s.toNat, t)])) else (1, S.onq q) := by
  rw [write_on (D := S.onq q) ho ha]
  by_cases h : (0 ≤ s ∧ s < (S.n : Int)) ∧ t.length = 64
  · rw [if_pos h, if_pos ⟨by unfold valid; exact decide_eq_true h.1, h.2⟩]
    rfl
  · rw [if_neg h, if_neg (fun h' => h ⟨by have := h'.1; unfold valid at this; exact of_decide_eq_true this, h'.2⟩)]
end DK

set_option maxHeartbeats 2000000 in
set_option maxRecDepth 100000 in
theorem prefix_spec (w : World) (N : Nat) (hN1 : 1 ≤ N) (hN2 : N ≤ 12) (lo : Option Addr) (ln lc : Nat) (l : List ActD) (Hl : Hid (ActsAt w (.slice lo ln lc) l)) (hnl : ln ≤ 9223372036854775807) (Hal : Hid (∀ x ∈ l, x.after ≤ 9223372036854775807)) (mo : Option Addr) (mn mc : Nat) (m : List ActD) (Hm : Hid (ActsAt w (.slice mo mn mc) m)) (hnm : mn ≤ 9223372036854775807) (Ham : Hid (∀ x ∈ m, x.after ≤ 9223372036854775807)) (Htxl : Hid (∀ x ∈ l, x.text.length ≤ 100)) (Hll : Hid (l.length ≤ 60)) (Htxm : Hid (∀ x ∈ m, x.text.length ≤ 100)) (Hlm : Hid (m.length ≤ 60)) (c : Nat) (hc0 : c ≤ 60) :
    Calls Try.prog 25 #[.int .i64 (N : Int), .slice lo ln lc, .slice mo mn mc, .int .i64 (c : Int)] w fun e w' =>
      ∃ v, e = .returned (.tuple #[v, .bool true]) ∧ StrRow w' v (DK.onq (((DK.new N).run l).start.flush) ((DK.acc N m).take c)).all ∧ Chg [] w w' ∧ ∀ b ∈ v.ownBlock.toList, w.heap.size ≤ b := by
  go_enter Try.func25, Try.ntmps25
  go_wp2_with fail
  refine (At.new w N hN1 (by omega)).mono ?_
  rintro e w3 ⟨p, rfl, hA⟩
  have HA := Lib.hid hA
  clear hA
  go_wp2_with fail
  go_loopw [11] (fun s wr => ∃ k : Nat, k ≤ ln ∧ s = .int .i64 k ∧ At w wr [] p ((DK.new N).run (l.take k)) ∧ Kept [] w3 wr) (fun s _ => ln - (intOf s).toNat)
  case atStart => exact ⟨0, Nat.zero_le _, rfl, by simpa [DK.run] using HA.out, Kept.refl _ _⟩
  case round =>
    obtain ⟨k, hk, rfl, hD, hK⟩ := hrel
    have HD := Lib.hid hD
    have HK := Lib.hid hK
    have Hn := Lib.hid Hl.out.len
    clear hD hK HA
    have HQ : Hid (((DK.new N).run (l.take k)).q.length ≤ 60) := Lib.hid (run_new_q N _ (by rw [List.length_take]; have := Hll.out; omega))
    by_cases hlt : k < ln
    · obtain ⟨x, hx⟩ : ∃ x, l[k]? = some x := ⟨l[k]'(by rw [← Hn.out]; exact hlt), by simp⟩
      have hmem := List.mem_of_getElem? hx
      have hxt := Htxl.out x hmem
      have hxa := Hal.out x hmem
      have Hrun := Lib.hid (DK.run_snoc (DK.new N) l k x hx)
      have HX := Lib.hid hx
      clear hmem hx
      obtain ⟨ab, off, rfl, hbl, c0, c1, c2, c3, c4, c5⟩ := (Hl.out.quiet HD.out.chg).elem k x HX.out
      go_wp2_with fail
      refine (HD.out.act (by have := HQ.out; omega) x hxt hxa).mono ?_
      rintro e w5 ⟨rfl, h, hk⟩
      have HD1 := Lib.hid h
      have HK1 := Lib.hid (HK.out.trans hk)
      clear h hk c0 c1 c2 c3 c4 c5
      go_wp2_with fail
      go_roundw
      case rel => exact ⟨k + 1, by omega, by go_num, by rw [Hrun.out]; exact HD1.out, HK1.out⟩
      case measure => simp [intOf]; omega
    · have HT : Hid ((DK.new N).run (l.take k) = (DK.new N).run l) := Lib.hid (by rw [List.take_of_length_le (by rw [← Hn.out]; omega)])
      have HE : Hid (((DK.new N).run (l.take k)).n = N) := Lib.hid (DK.run_n _ _)
      generalize ((DK.new N).run (l.take k)) = D at *
      clear HK
      go_wp2_with fail
      refine (HD.out.start).mono ?_
      rintro e w5 ⟨rfl, h, hk⟩
      have HD1 := Lib.hid h
      clear h hk HD
      go_wp2_with fail
      refine (HD1.out.sync (Nat.le_trans HQ.out (by omega))).mono ?_
      rintro e w6 ⟨rfl, h, hk⟩
      rw [DK.start_sync] at h ⊢
      have HEn : Hid (D.start.flush.n = N) := Lib.hid ((DK.settle_n _ _).trans HE.out)
      have HEo : Hid (D.start.flush.off = false) := Lib.hid ((DK.settle_off _ _).trans rfl)
      have HEa : Hid (D.start.flush.arm = none) := Lib.hid ((DK.settle_arm _ _).trans rfl)
      have HEq : Hid (D.start.flush = D.start.flush.onq []) := Lib.hid rfl
      have HS0 : Hid (D.start.flush = ((DK.new N).run l).start.flush) := Lib.hid (by rw [HT.out])
      generalize D.start.flush = S at *
      have HD2 := Lib.hid h
      have Hml := Lib.hid Hm.out.len
      clear h hk HD1 HE HQ HT
      clear D
      simp only
      go_wp2_with fail
      go_loopw [12, 13] (fun u s wr => ∃ k : Nat, k ≤ mn ∧ s = .int .i64 k ∧ u = .int .i64 ((DK.acc N (m.take k)).length : Nat) ∧ (DK.acc N (m.take k)).length ≤ c ∧ At w wr [] p (S.onq (DK.acc N (m.take k)))) (fun _ s _ => mn - (intOf s).toNat)
      case atStart => exact ⟨0, Nat.zero_le _, rfl, rfl, Nat.zero_le _, by have := HD2.out; rw [HEq.out] at this; exact this⟩
      case round =>
        obtain ⟨k, hk, rfl, rfl, hlc, hA⟩ := hrel
        have HA9 := Lib.hid hA
        obtain ⟨d, hd⟩ : ∃ d, d = (DK.acc N (m.take k)).length := ⟨_, rfl⟩
        rw [← hd] at hlc ⊢
        have HDd := Lib.hid hd
        have HQ60 : Hid ((S.onq (DK.acc N (m.take k))).q.length ≤ 900000) := Lib.hid (by show (DK.acc N (m.take k)).length ≤ 900000; omega)
        clear hA hd HD2
        by_cases hlt : k < mn
        · by_cases hdc : d < c
          · obtain ⟨x, hx⟩ : ∃ x, m[k]? = some x := ⟨m[k]'(by rw [← Hml.out]; exact hlt), by simp⟩
            have hmem := List.mem_of_getElem? hx
            have hxt := Htxm.out x hmem
            have HX := Lib.hid hx
            clear hmem hx
            obtain ⟨ab, off, rfl, hbl, _⟩ := Hm.out.elem k x HX.out
            clear hbl
            obtain ⟨c0, c1, c2, c3, c4, c5⟩ := Hm.out.cellsAt HA9.out.chg k x HX.out
            have HAC := Lib.hid (DK.acc_snoc N m k x HX.out)
            go_upto_region 12 with fail
            go_cut [55] (fun s55 wx => s55 = .bool (((S.onq (DK.acc N (m.take k))).write x.sector x.txt).1 == 0) ∧ At w wx [] p ((S.onq (DK.acc N (m.take k))).write x.sector x.txt).2)
            case first =>
              go_region_law (first
                | (go_simp; go_at_call 23; refine (text_spec _ x hxt).mono ?_; rintro e w10 ⟨rfl, hc1⟩; have HC10 : Hid (Chg [] wr w10) := Lib.hid (Chg.ofDrew hc1); clear hc1; (obtain ⟨_, e1, _⟩ := Hm.out.cellsAt (HA9.out.quiet HC10.out).chg k x HX.out))
                | (go_simp; go_at_call 22; refine ((HA9.out.quiet HC10.out).write HQ60.out x.sector _).mono ?_; rintro e w11 ⟨rfl, h, hk⟩; have HA11 := Lib.hid h; clear h hk))
              all_goals
                go_wp2_with fail
                go_meet
                exact ⟨rfl, HA11.out⟩
            case rest =>
              obtain ⟨rfl, hA⟩ := hcut
              rw [DK.write_onq HEo.out HEa.out, HEn.out] at hA ⊢
              have HA10 := Lib.hid hA
              clear hA HA9 c0 c1 c2 c3 c4 c5
              by_cases hw : (0 ≤ x.sector ∧ x.sector < (N : Int)) ∧ x.txt.length = 64
              · rw [if_pos hw] at HA10 HAC ⊢
                clear hw
                simp only
                go_wp2_with fail
                go_roundw
                case rel => exact ⟨k + 1, by omega, by go_num, by rw [HAC.out, List.length_append, ← HDd.out]; go_num, by rw [HAC.out, List.length_append, ← HDd.out]; simp; omega, by rw [HAC.out]; exact HA10.out⟩
                case measure => simp [intOf]; omega
              · rw [if_neg hw] at HA10 HAC ⊢
                clear hw
                rw [List.append_nil] at HAC
                simp only
                go_wp2_with fail
                go_roundw
                case rel => exact ⟨k + 1, by omega, by go_num, by rw [HAC.out, ← HDd.out], by rw [HAC.out, ← HDd.out]; omega, by rw [HAC.out]; exact HA10.out⟩
                case measure => simp [intOf]; omega
          · have HTK : Hid ((DK.acc N m).take c = DK.acc N (m.take k)) := Lib.hid (DK.acc_take N m k c (by rw [← HDd.out]; omega))
            go_wp2_with fail
            refine (HA9.out.contents HQ60.out HEo.out N HEn.out).mono ?_
            rintro e w12 ⟨v, rfl, hr, hA, hc, hv⟩
            have HR12 := Lib.hid hr
            have HA12 := Lib.hid hA
            have HV12 := Lib.hid (fun b hb => Nat.le_trans HA9.out.chg.size (hv b hb))
            clear hr hA hc hv HA9
            go_wp2_with fail
            go_ret2
            exact ⟨v, rfl, by rw [← HS0.out, HTK.out]; exact HR12.out, HA12.out.chg, HV12.out⟩
        · have HTK : Hid ((DK.acc N m).take c = DK.acc N (m.take k)) := Lib.hid (by rw [List.take_of_length_le (l := m) (by rw [← Hml.out]; omega)] at HDd ⊢; exact List.take_of_length_le (by rw [← HDd.out]; omega))
          go_wp2_with fail
          refine (HA9.out.contents HQ60.out HEo.out N HEn.out).mono ?_
          rintro e w12 ⟨v, rfl, hr, hA, hc, hv⟩
          have HR12 := Lib.hid hr
          have HA12 := Lib.hid hA
          have HV12 := Lib.hid (fun b hb => Nat.le_trans HA9.out.chg.size (hv b hb))
          clear hr hA hc hv HA9
          go_wp2_with fail
          go_ret2
          exact ⟨v, rfl, by rw [← HS0.out, HTK.out]; exact HR12.out, HA12.out.chg, HV12.out⟩
end Go.Proofs.Ytnlgblcldbdnlaa
