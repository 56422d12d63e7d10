/-
  The walk of DiskDamage.
-/
import Derived.Test.YtnlgblcldbdnlaaLwN
import Derived.Deep.RegionLaw
namespace Go.Proofs.Ytnlgblcldbdnlaa
set_option linter.unusedVariables false
set_option linter.unusedSimpArgs false
open Go Go.RowKit
attribute [local irreducible] Go.wpStill

theorem xor_byte (x y : UInt8) : IntKind.i64.wrap (bits BinOp.xor IntKind.u8 (x.toNat : Int) (y.toNat : Int)) = ((x ^^^ y).toNat : Int) := by
  rw [u8_xor_nat _ _ x.toNat_lt y.toNat_lt, ← UInt8.toNat_xor]
  have := (x ^^^ y).toNat_lt
  exact IntWalk.i64_in _ (by omega)
theorem byte_at {t : Bytes} {k : Nat} {x : UInt8} (h : t[k]? = some x) (hk : k < (⟨t.toArray⟩ : ByteArray).size) : (⟨t.toArray⟩ : ByteArray)[k]'hk = x := by
  have h2 := (List.getElem?_eq_some_iff.1 h).2
  rw [← h2]
  rfl

set_option maxHeartbeats 4000000 in
set_option maxRecDepth 100000 in
theorem diskDamage_walk (w : World) (raw : Nat) (braw : raw < 256) (lo : Option Addr) (ln lc : Nat) (l : List ActD) (Hl : Hid (ActsAt w (.slice lo ln lc) l)) (hnl : ln ≤ 9223372036854775807) (Hal : Hid (∀ x ∈ l, x.after ≤ 9223372036854775807)) (s1 : Int) (bs1 : -9223372036854775808 ≤ s1 ∧ s1 ≤ 9223372036854775807) (a : Int) (ba : -9223372036854775808 ≤ a ∧ a ≤ 9223372036854775807) (m1 : Int) (bm1 : -9223372036854775808 ≤ m1 ∧ m1 ≤ 9223372036854775807) :
    Calls Try.prog 9 #[.int .u8 raw, .slice lo ln lc, .int .i64 s1, .int .i64 a, .int .i64 m1] w fun e w' => e = .returned (.bool true) ∧ Chg [] w w' := by
  cases hokl : okL l with
  | false =>
    have Hokl := Lib.hid hokl
    clear hokl
    go_enter Try.func9, Try.ntmps9
    go_wp2_with fail
    refine (head_spec _).mono ?_
    rintro e w1 ⟨rfl, hc⟩
    have HC1 : Hid (Chg [] w w1) := Lib.hid (hc)
    clear hc
    go_wp2_with fail
    refine (ok_spec w1 lo ln lc l (Lib.hid (Hl.out.quiet HC1.out)) hnl).mono ?_
    rintro e w2 ⟨rfl, rfl⟩
    rw [Hokl.out]
    go_wp2_with fail
    go_ret
    exact ⟨rfl, HC1.out⟩
  | true =>
    have hokl' := hokl
    unfold okL at hokl'
    rw [Bool.and_eq_true, List.all_eq_true, decide_eq_true_eq] at hokl'
    have Htxl : Hid (∀ x ∈ l, x.text.length ≤ 100) := Lib.hid (fun x hx => by simpa using hokl'.1 x hx)
    have Hll : Hid (l.length ≤ 60) := Lib.hid hokl'.2
    have Hokl := Lib.hid hokl
    clear hokl' hokl
    obtain ⟨N, hN⟩ : ∃ N, N = 1 + raw % 12 := ⟨_, rfl⟩
    have hN1 : 1 ≤ N := by omega
    have hN2 : N ≤ 12 := by omega
    have HN := Lib.hid hN
    clear hN
    go_enter Try.func9, Try.ntmps9
    go_wp2_with fail
    refine (head_spec _).mono ?_
    rintro e w1 ⟨rfl, hc⟩
    have HC1 : Hid (Chg [] w w1) := Lib.hid (hc)
    clear hc
    go_wp2_with fail
    refine (ok_spec w1 lo ln lc l (Lib.hid (Hl.out.quiet HC1.out)) hnl).mono ?_
    rintro e w2 ⟨rfl, rfl⟩
    rw [Hokl.out]
    go_wp2_with fail
    refine (size_spec w1 raw braw).mono ?_
    rintro e w2 ⟨rfl, rfl⟩
    rw [← HN.out]
    go_wp2_with fail
    refine (At.new w1 N hN1 (by omega)).mono ?_
    rintro e w3 ⟨p, rfl, hA⟩
    have HA := Lib.hid (hA.rebase HC1.out)
    clear hA
    go_wp2_with fail
    go_loopw [14] (fun s wr => ∃ k : Nat, k ≤ ln ∧ s = .int .i64 k ∧ At w wr [] p ((DK.new N).run (l.take k)) ∧ Kept [] w3 wr) (fun s _ => ln - (intOf s).toNat)
    case atStart => exact ⟨0, Nat.zero_le _, rfl, by simpa [DK.run] using HA.out, Kept.refl _ _⟩
    case round =>
      obtain ⟨k, hk, rfl, hD, hK⟩ := hrel
      have HD := Lib.hid hD
      have HK := Lib.hid hK
      have Hn := Lib.hid Hl.out.len
      clear hD hK HA
      have HQ : Hid (((DK.new N).run (l.take k)).q.length ≤ 60) := Lib.hid (run_new_q N _ (by rw [List.length_take]; have := Hll.out; omega))
      by_cases hlt : k < ln
      · obtain ⟨x, hx⟩ : ∃ x, l[k]? = some x := ⟨l[k]'(by rw [← Hn.out]; exact hlt), by simp⟩
        have hmem := List.mem_of_getElem? hx
        have hxt := Htxl.out x hmem
        have hxa := Hal.out x hmem
        have Hrun := Lib.hid (DK.run_snoc (DK.new N) l k x hx)
        have HX := Lib.hid hx
        clear hmem hx
        obtain ⟨ab, off, rfl, hbl, c0, c1, c2, c3, c4, c5⟩ := (Hl.out.quiet HD.out.chg).elem k x HX.out
        go_wp2_with fail
        refine (HD.out.act (by have := HQ.out; omega) x hxt hxa).mono ?_
        rintro e w5 ⟨rfl, h, hk⟩
        have HD1 := Lib.hid h
        have HK1 := Lib.hid (HK.out.trans hk)
        clear h hk c0 c1 c2 c3 c4 c5
        go_wp2_with fail
        go_roundw
        case rel => exact ⟨k + 1, by omega, by go_num, by rw [Hrun.out]; exact HD1.out, HK1.out⟩
        case measure => simp [intOf]; omega
      · have HE : Hid (((DK.new N).run (l.take k)).n = N) := Lib.hid (DK.run_n _ _)
        generalize ((DK.new N).run (l.take k)) = D at *
        clear HK
        go_wp2_with fail
        refine (HD.out.start).mono ?_
        rintro e w5 ⟨rfl, h, hk⟩
        have HD1 := Lib.hid h
        clear h hk HD
        go_wp2_with fail
        refine (HD1.out.sync (Nat.le_trans HQ.out (by omega))).mono ?_
        rintro e w6 ⟨rfl, h, hk⟩
        rw [DK.start_sync] at h ⊢
        have HEn : Hid (D.start.flush.n = N) := Lib.hid ((DK.settle_n _ _).trans HE.out)
        have HEo : Hid (D.start.flush.off = false) := Lib.hid ((DK.settle_off _ _).trans rfl)
        have HEq0 : Hid (D.start.flush.q = []) := Lib.hid rfl
        generalize D.start.flush = S at *
        have HEq : Hid (S.q.length ≤ 900000) := Lib.hid (by rw [HEq0.out]; exact Nat.zero_le _)
        have HOk : Hid S.Ok := Lib.hid h.ok
        have HD2 := Lib.hid h
        clear h hk HD1 HE HQ
        clear D
        simp only
        go_wp2_with fail
        refine (HD2.out.contents HEq.out HEo.out N HEn.out).mono ?_
        rintro e w7 ⟨v1, rfl, hr, hA, hc, hv⟩
        have HR7 := Lib.hid hr
        obtain ⟨oth, hoth⟩ : ∃ oth, oth = v1.ownBlock.toList ++ [] := ⟨_, rfl⟩
        rw [← hoth] at hA
        have Hm1 : Hid (∀ k ∈ v1.ownBlock.toList, k ∈ oth) := Lib.hid (fun k hk => by rw [hoth]; simp [hk])
        have HA7 := Lib.hid hA
        clear hoth hr hA hc hv HD2
        go_wp2_with fail
        refine (HA7.out.rot s1 a m1).mono ?_
        rintro e w8 ⟨rfl, h, hk⟩
        have HA8 := Lib.hid h
        have HR8 := Lib.hid (HR7.out.keptBy hk Hm1.out)
        clear h hk HA7 HR7
        have HRn : Hid ((S.rot s1 a m1).n = N) := Lib.hid ((DK.rot_n _ _ _ _).trans HEn.out)
        have HRq : Hid ((S.rot s1 a m1).q.length ≤ 900000) := Lib.hid (by rw [DK.rot_q]; exact HEq.out)
        have HRo : Hid ((S.rot s1 a m1).off = false) := Lib.hid (by unfold DK.rot; split <;> exact HEo.out)
        go_wp2_with fail
        refine (HA8.out.contents HRq.out HRo.out N HRn.out).mono ?_
        rintro e w9 ⟨v2, rfl, hr, hA, hc, hv⟩
        have HR9 := Lib.hid (HR8.out.kept hc (by simp))
        have HS9 := Lib.hid hr
        obtain ⟨oth2, hoth⟩ : ∃ oth2, oth2 = v2.ownBlock.toList ++ oth := ⟨_, rfl⟩
        rw [← hoth] at hA
        have Hm2 : Hid (∀ k ∈ v2.ownBlock.toList, k ∈ oth2) := Lib.hid (fun k hk => by rw [hoth]; simp [hk])
        have Hm3 : Hid (∀ k ∈ v1.ownBlock.toList, k ∈ oth2) := Lib.hid (fun k hk => by rw [hoth]; simp [Hm1.out k hk])
        have HA9 := Lib.hid hA
        clear hoth hr hA hc hv HR8 HA8 Hm1
        go_wp2_with fail
        refine (HA9.out.rot s1 a m1).mono ?_
        rintro e w10 ⟨rfl, h, hk⟩
        rw [DK.rot_twice] at h
        have HA10 := Lib.hid h
        have HR10 := Lib.hid (HR9.out.keptBy hk Hm3.out)
        have HS10 := Lib.hid (HS9.out.keptBy hk Hm2.out)
        clear h hk HA9 HR9 HS9
        go_wp2_with fail
        refine (HA10.out.contents HEq.out HEo.out N HEn.out).mono ?_
        rintro e w11 ⟨v3, rfl, hr, hA, hc, hv⟩
        have HR11 := Lib.hid (HR10.out.kept hc (by simp))
        have HS11 := Lib.hid (HS10.out.kept hc (by simp))
        have HT11 := Lib.hid hr
        have HA11 := Lib.hid (HA10.out.quiet hc)
        clear hr hA hc hv HR10 HS10 HA10
        have HGa : Hid (S.all.length = N) := Lib.hid ((DK.all_len _).trans HEn.out)
        have HGb : Hid ((S.rot s1 a m1).all.length = N) := Lib.hid ((DK.all_len _).trans HRn.out)
        go_wp2_with fail
        refine (same_spec w11 _ _ _ _ HR11.out HT11.out (by rw [HGa.out]; omega) (by rw [HGa.out]; omega)).mono ?_
        rintro e w12 ⟨rfl, hc⟩
        rw [decide_eq_true rfl]
        have HR12 := Lib.hid (HR11.out.kept hc (by simp))
        have HS12 := Lib.hid (HS11.out.kept hc (by simp))
        have HA12 := Lib.hid (HA11.out.quiet hc)
        clear hc HR11 HS11 HT11 HA11
        have HBits : Hid (∀ i k : Nat, i < N → k < 64 → ∃ x y : UInt8, (S.cur i)[k]? = some x ∧ ((S.rot s1 a m1).cur i)[k]? = some y ∧ ((x ^^^ y).toNat : Int) = if S.rotOk s1 a m1 = true ∧ (i : Int) = s1 ∧ (k : Int) = a then m1 else 0) := Lib.hid (fun i k hi hk => DK.rot_bits HOk.out HEq0.out s1 a m1 i k (by rw [HEn.out]; exact hi) hk)
        have HAt : Hid (∀ i, i < N → S.all[i]? = some (S.cur i) ∧ (S.rot s1 a m1).all[i]? = some ((S.rot s1 a m1).cur i) ∧ (S.cur i).length = 64 ∧ ((S.rot s1 a m1).cur i).length = 64) := Lib.hid (fun i hi => ⟨DK.all_at _ _ (by rw [HEn.out]; exact hi), DK.all_at _ _ (by rw [HRn.out]; exact hi), cur_len HOk.out i (by rw [HEn.out]; exact hi), cur_len (DK.rot_ok HOk.out _ _ _) i (by rw [HRn.out]; exact hi)⟩)
        obtain ⟨vb, hvb⟩ : ∃ vb, vb = S.rotOk s1 a m1 := ⟨_, rfl⟩
        have HVB : Hid (vb = decide ((0 ≤ s1 ∧ s1 < (N : Int)) ∧ (0 ≤ a ∧ a < 64) ∧ 1 ≤ m1 ∧ m1 ≤ 255)) := Lib.hid (by
          rw [hvb]
          unfold DK.rotOk DK.valid
          rw [HEn.out, ← Bool.decide_and]
          apply decide_eq_decide.2
          omega)
        rw [← hvb] at HBits
        clear hvb
        generalize (S.rot s1 a m1).all = RA at *
        go_upto_region 20 with fail
        go_cut [21] (fun s wx => s = .bool vb ∧ wx = w12)
        case first =>
          by_cases h1 : 0 ≤ s1
          · by_cases h2 : s1 < (N : Int)
            · by_cases h3 : 0 ≤ a
              · by_cases h4 : a < 64
                · by_cases h5 : 1 ≤ m1
                  · by_cases h6 : m1 ≤ 255
                    · go_wp2_with fail
                      go_meet
                      exact ⟨by rw [HVB.out, decide_eq_true (by omega)], rfl⟩
                    · go_wp2_with fail
                      go_meet
                      exact ⟨by rw [HVB.out, decide_eq_false (by omega)], rfl⟩
                  · go_wp2_with fail
                    go_meet
                    exact ⟨by rw [HVB.out, decide_eq_false (by omega)], rfl⟩
                · go_wp2_with fail
                  go_meet
                  exact ⟨by rw [HVB.out, decide_eq_false (by omega)], rfl⟩
              · go_wp2_with fail
                go_meet
                exact ⟨by rw [HVB.out, decide_eq_false (by omega)], rfl⟩
            · go_wp2_with fail
              go_meet
              exact ⟨by rw [HVB.out, decide_eq_false (by omega)], rfl⟩
          · go_wp2_with fail
            go_meet
            exact ⟨by rw [HVB.out, decide_eq_false (by omega)], rfl⟩
        case rest =>
          obtain ⟨rfl, rfl⟩ := hcut
          go_wp2_with fail
          go_loopw [22] (fun s wr => ∃ i : Nat, i ≤ N ∧ s = .int .i64 i ∧ At w wr oth2 p S ∧ StrRow wr v1 S.all ∧ StrRow wr v2 RA) (fun s _ => N - (intOf s).toNat)
          case atStart => exact ⟨0, Nat.zero_le _, rfl, HA12.out, HR12.out, HS12.out⟩
          case round =>
            obtain ⟨i, hi, rfl, hA, hR, hS⟩ := hrel
            have HA13 := Lib.hid hA
            have HR13 := Lib.hid hR
            have HS13 := Lib.hid hS
            clear hA hR hS HA12 HR12 HS12
            by_cases hil : i < N
            · go_wp2_with fail
              go_loopw [23] (fun s wr => ∃ k : Nat, k ≤ 64 ∧ s = .int .i64 k ∧ At w wr oth2 p S ∧ StrRow wr v1 S.all ∧ StrRow wr v2 RA) (fun s _ => 64 - (intOf s).toNat)
              case atStart => exact ⟨0, Nat.zero_le _, rfl, HA13.out, HR13.out, HS13.out⟩
              case round =>
                obtain ⟨k, hk, rfl, hA, hR, hS⟩ := hrel
                have HA14 := Lib.hid hA
                have HR14 := Lib.hid hR
                have HS14 := Lib.hid hS
                clear hA hR hS HA13 HR13 HS13
                by_cases hkl : k < 64
                · obtain ⟨x, y, hx, hy, hxy⟩ := HBits.out i k hil hkl
                  obtain ⟨g1, g2, g3, g4⟩ := HAt.out i hil
                  obtain ⟨b1, cap1, rfl, k1⟩ := HR14.out.at N HGa.out i _ g1
                  obtain ⟨b2, cap2, rfl, k2⟩ := HS14.out.at N HGb.out i _ g2
                  generalize S.cur i = tx at *
                  generalize (S.rot s1 a m1).cur i = ty at *
                  clear g1 g2
                  have hkx : k < (⟨tx.toArray⟩ : ByteArray).size := by show k < tx.toArray.size; simp; omega
                  have hky : k < (⟨ty.toArray⟩ : ByteArray).size := by show k < ty.toArray.size; simp; omega
                  have hbx := byte_at hx hkx
                  have hby := byte_at hy hky
                  clear hx hy
                  by_cases hbit : vb = true ∧ (i : Int) = s1 ∧ (k : Int) = a
                  · rw [if_pos hbit] at hxy
                    obtain ⟨rfl, hi1, hk1⟩ := hbit
                    have hi2 : ((i : Int) == s1) = true := by simpa using hi1
                    have hk2 : ((k : Int) == a) = true := by simpa using hk1
                    clear hi1 hk1
                    go_wp2_with fail
                    refine wp_region_reads (by kernel_rfl) (by kernel_rfl) (fun L hL => ?_)
                    repeat still_step
                    refine wpStill_nil (hL _ ?_)
                    clear hL L
                    go_wp2_with fail
                    · rename_i hh
                      rw [xor_byte, hxy] at hh
                      simp at hh
                    go_roundw
                    case rel => exact ⟨k + 1, by omega, by go_num, HA14.out.quiet (Chg.refl _ _).drew, HR14.out.kept (own := []) (Chg.refl _ _).drew (by simp), HS14.out.kept (own := []) (Chg.refl _ _).drew (by simp)⟩
                    case measure => simp [intOf]; omega
                  · rw [if_neg hbit] at hxy
                    go_upto_region 28 with fail
                    go_cut [142] (fun s wx => s = .bool false ∧ wx = wr)
                    case first =>
                      cases vb with
                      | false =>
                        go_wp2_with fail
                        go_meet
                        exact ⟨rfl, rfl⟩
                      | true =>
                        by_cases hi1 : (i : Int) = s1
                        · have hi2 : ((i : Int) == s1) = true := by simpa using hi1
                          have hk2 : ((k : Int) == a) = false := by rw [beq_eq_false_iff_ne]; exact fun h => hbit ⟨rfl, hi1, h⟩
                          clear hi1
                          go_wp2_with fail
                          go_meet
                          exact ⟨rfl, rfl⟩
                        · have hi2 : ((i : Int) == s1) = false := by rw [beq_eq_false_iff_ne]; exact hi1
                          clear hi1
                          go_wp2_with fail
                          go_meet
                          exact ⟨rfl, rfl⟩
                    case rest =>
                      obtain ⟨rfl, rfl⟩ := hcut
                      clear hbit
                      go_wp2_with fail
                      refine wp_region_reads (by kernel_rfl) (by kernel_rfl) (fun L hL => ?_)
                      repeat still_step
                      refine wpStill_nil (hL _ ?_)
                      clear hL L
                      go_wp2_with fail
                      · rename_i hh
                        rw [xor_byte, hxy] at hh
                        simp at hh
                      go_roundw
                      case rel => exact ⟨k + 1, by omega, by go_num, HA14.out.quiet (Chg.refl _ _).drew, HR14.out.kept (own := []) (Chg.refl _ _).drew (by simp), HS14.out.kept (own := []) (Chg.refl _ _).drew (by simp)⟩
                      case measure => simp [intOf]; omega
                · go_wp2_with fail
                  go_roundw
                  case rel => exact ⟨i + 1, by omega, by go_num, HA14.out, HR14.out, HS14.out⟩
                  case measure => simp [intOf]; omega
            · clear HBits HAt HVB HS13
              go_wp2_with fail
              refine (HA13.out.stale s1).mono ?_
              rintro e w14 ⟨rfl, h, hk⟩
              have HA14 := Lib.hid h
              have HR14 := Lib.hid (HR13.out.keptBy hk Hm3.out)
              clear h hk HA13 HR13
              have HTn : Hid ((S.stale s1).n = N) := Lib.hid ((DK.stale_n _ _).trans HEn.out)
              have HTq : Hid ((S.stale s1).q.length ≤ 900000) := Lib.hid (by rw [DK.stale_q]; exact HEq.out)
              have HTo : Hid ((S.stale s1).off = false) := Lib.hid (by unfold DK.stale; split <;> exact HEo.out)
              have HFar : Hid (∀ j : Nat, j < N → (j : Int) ≠ s1 → ∃ y, S.all[j]? = some y ∧ (S.stale s1).all[j]? = some y) := Lib.hid (fun j hj hne => ⟨S.cur j, DK.all_at _ j (by rw [HEn.out]; exact hj), by rw [DK.all_at _ j (by rw [HTn.out]; exact hj), DK.stale_far S s1 j hne]⟩)
              have HGt : Hid ((S.stale s1).all.length = N) := Lib.hid ((DK.all_len _).trans HTn.out)
              have HTT : Hid ((S.stale s1).stale s1 = S.stale s1) := Lib.hid (DK.stale_twice S s1)
              generalize S.stale s1 = T at *
              go_wp2_with fail
              refine (HA14.out.contents HTq.out HTo.out N HTn.out).mono ?_
              rintro e w15 ⟨u1, rfl, hr, hA, hc, hv⟩
              have HR15 := Lib.hid (HR14.out.kept hc (by simp))
              have HS15 := Lib.hid hr
              obtain ⟨oth3, hoth⟩ : ∃ oth3, oth3 = u1.ownBlock.toList ++ oth2 := ⟨_, rfl⟩
              rw [← hoth] at hA
              have Hm4 : Hid (∀ k ∈ u1.ownBlock.toList, k ∈ oth3) := Lib.hid (fun k hk => by rw [hoth]; simp [hk])
              have Hm5 : Hid (∀ k ∈ v1.ownBlock.toList, k ∈ oth3) := Lib.hid (fun k hk => by rw [hoth]; simp [Hm3.out k hk])
              have HA15 := Lib.hid hA
              clear hoth hr hA hc hv HR14 HA14
              go_wp2_with fail
              refine (HA15.out.stale s1).mono ?_
              rintro e w16 ⟨rfl, h, hk⟩
              rw [HTT.out] at h
              have HA16 := Lib.hid h
              have HR16 := Lib.hid (HR15.out.keptBy hk Hm5.out)
              have HS16 := Lib.hid (HS15.out.keptBy hk Hm4.out)
              clear h hk HA15 HR15 HS15
              go_wp2_with fail
              refine (HA16.out.contents HTq.out HTo.out N HTn.out).mono ?_
              rintro e w17 ⟨u2, rfl, hr, hA, hc, hv⟩
              have HR17 := Lib.hid (HR16.out.kept hc (by simp))
              have HS17 := Lib.hid (HS16.out.kept hc (by simp))
              have HT17 := Lib.hid hr
              have HC17 := Lib.hid hA.chg
              clear hr hA hc hv HR16 HS16 HA16
              go_wp2_with fail
              refine (same_spec w17 _ _ _ _ HS17.out HT17.out (by rw [HGt.out]; omega) (by rw [HGt.out]; omega)).mono ?_
              rintro e w18 ⟨rfl, hc⟩
              rw [decide_eq_true rfl]
              have HR18 := Lib.hid (HR17.out.kept hc (by simp))
              have HS18 := Lib.hid (HS17.out.kept hc (by simp))
              have HC18 := Lib.hid (HC17.out.trans hc (by simp))
              clear hc HR17 HS17 HT17 HC17
              go_wp2_with fail
              go_loopw [29] (fun s wr => ∃ k : Nat, k ≤ N ∧ s = .int .i64 k ∧ Chg [] w wr ∧ StrRow wr v1 S.all ∧ StrRow wr u1 T.all) (fun s _ => N - (intOf s).toNat)
              case atStart => exact ⟨0, Nat.zero_le _, rfl, HC18.out, HR18.out, HS18.out⟩
              case round =>
                obtain ⟨j, hj, rfl, hC, hR, hS⟩ := hrel
                have HC := Lib.hid hC
                have HR := Lib.hid hR
                have HS := Lib.hid hS
                clear hC hR hS HC18 HR18 HS18
                by_cases hjl : j < N
                · by_cases hjs : (j : Int) = s1
                  · have hjb : ((j : Int) != s1) = false := by simpa using hjs
                    clear hjs
                    go_wp2_with fail
                    refine wp_region_reads (by kernel_rfl) (by kernel_rfl) (fun L hL => ?_)
                    repeat still_step
                    refine wpStill_nil (hL _ ?_)
                    clear hL L
                    go_wp2_with fail
                    go_roundw
                    case rel => exact ⟨j + 1, by omega, by go_num, HC.out.drew, HR.out.kept (own := []) (Chg.refl _ _).drew (by simp), HS.out.kept (own := []) (Chg.refl _ _).drew (by simp)⟩
                    case measure => simp [intOf]; omega
                  · obtain ⟨y, hy1, hy2⟩ := HFar.out j hjl hjs
                    have hjb : ((j : Int) != s1) = true := by simpa using hjs
                    clear hjs
                    obtain ⟨g1, cap1, rfl, c1⟩ := HR.out.at N HGa.out j y hy1
                    obtain ⟨g2, cap2, rfl, c2⟩ := HS.out.at N HGt.out j y hy2
                    have hyy : (y == y) = true := by simp
                    clear hy1 hy2
                    go_wp2_with fail
                    refine wp_region_reads (by kernel_rfl) (by kernel_rfl) (fun L hL => ?_)
                    repeat still_step
                    refine wpStill_nil (hL _ ?_)
                    clear hL L
                    go_wp2_with fail
                    go_roundw
                    case rel => exact ⟨j + 1, by omega, by go_num, HC.out.drew, HR.out.kept (own := []) (Chg.refl _ _).drew (by simp), HS.out.kept (own := []) (Chg.refl _ _).drew (by simp)⟩
                    case measure => simp [intOf]; omega
                · go_wp2_with fail
                  go_ret
                  exact ⟨rfl, HC.out⟩
end Go.Proofs.Ytnlgblcldbdnlaa
