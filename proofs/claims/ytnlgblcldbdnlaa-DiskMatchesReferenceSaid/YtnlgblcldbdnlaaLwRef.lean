/-
  The walk of DiskMatchesReference.
-/
import Derived.Test.YtnlgblcldbdnlaaRfH
namespace Go.Proofs.Ytnlgblcldbdnlaa
set_option linter.unusedVariables false
set_option linter.unusedSimpArgs false
open Go Go.RowKit

set_option maxHeartbeats 4000000 in
set_option maxRecDepth 100000 in
theorem diskMatchesReference_walk (w : World) (raw : Nat) (braw : raw < 256) (s1 : Int) (bs1 : -9223372036854775808 ≤ s1 ∧ s1 ≤ 9223372036854775807) (lo : Option Addr) (ln lc : Nat) (l : List ActD) (Hl : Hid (ActsAt w (.slice lo ln lc) l)) (hnl : ln ≤ 9223372036854775807) (Hal : Hid (∀ x ∈ l, x.after ≤ 9223372036854775807)) :
    Calls Try.prog 3 #[.int .u8 raw, .int .i64 s1, .slice lo ln lc] w fun e w' => e = .returned (.bool true) ∧ Chg [] w w' := by
  cases hokl : okL l with
  | false =>
    have Hokl := Lib.hid hokl
    clear hokl
    go_enter Try.func3, Try.ntmps3
    go_wp2_with fail
    refine (head_spec _).mono ?_
    rintro e w1 ⟨rfl, hc⟩
    have HC1 : Hid (Chg [] w w1) := Lib.hid (hc)
    clear hc
    go_wp2_with fail
    refine (ok_spec w1 lo ln lc l (Lib.hid (Hl.out.quiet HC1.out)) hnl).mono ?_
    rintro e w2 ⟨rfl, rfl⟩
    rw [Hokl.out]
    go_wp2_with fail
    go_ret
    exact ⟨rfl, HC1.out⟩
  | true =>
    have hokl' := hokl
    unfold okL at hokl'
    rw [Bool.and_eq_true, List.all_eq_true, decide_eq_true_eq] at hokl'
    have Htxl : Hid (∀ x ∈ l, x.text.length ≤ 100) := Lib.hid (fun x hx => by simpa using hokl'.1 x hx)
    have Hll : Hid (l.length ≤ 60) := Lib.hid hokl'.2
    have Hokl := Lib.hid hokl
    clear hokl' hokl
    obtain ⟨N, hN⟩ : ∃ N, N = 1 + raw % 12 := ⟨_, rfl⟩
    have hN1 : 1 ≤ N := by omega
    have hN2 : N ≤ 12 := by omega
    have HN := Lib.hid hN
    clear hN
    go_enter Try.func3, Try.ntmps3
    go_wp2_with fail
    refine (head_spec _).mono ?_
    rintro e w1 ⟨rfl, hc⟩
    have HC1 : Hid (Chg [] w w1) := Lib.hid (hc)
    clear hc
    go_wp2_with fail
    refine (ok_spec w1 lo ln lc l (Lib.hid (Hl.out.quiet HC1.out)) hnl).mono ?_
    rintro e w2 ⟨rfl, rfl⟩
    rw [Hokl.out]
    go_upto_region 4 with fail
    go_cut [34] (fun s wx => s = .bool false ∧ Chg [] w wx)
    case first =>
      go_wp2_with fail
      refine (new_any w1 s1).mono ?_
      rintro e w2 ⟨v, rfl, hv, hc⟩
      have HC2 := Lib.hid (HC1.out.trans hc (by simp))
      have HV := Lib.hid hv
      clear hc hv HC1
      by_cases h1 : s1 < 1
      · obtain rfl : v = none := HV.out.2 (.inl h1)
        go_wp2_with fail
        go_meet
        exact ⟨rfl, HC2.out⟩
      · have h1' : 1 ≤ s1 := by omega
        by_cases h2 : 4000 < s1
        · obtain rfl : v = none := HV.out.2 (.inr h2)
          go_wp2_with fail
          go_meet
          exact ⟨rfl, HC2.out⟩
        · cases v with
          | none => have := HV.out.1 rfl; omega
          | some a =>
            have h2' : s1 ≤ 4000 := by omega
            have H12 := Lib.hid (And.intro h1 h2)
            go_wp2_with fail
            go_meet
            exact ⟨by rw [decide_eq_false (show ¬ s1 < 1 from by omega), decide_eq_false (show ¬ 4000 < s1 from by omega)]; rfl, HC2.out⟩
    case rest =>
      obtain ⟨rfl, hc⟩ := hcut
      have HC2 := Lib.hid hc
      clear hc HC1
      go_wp2_with fail
      refine (size_spec _ raw braw).mono ?_
      rintro e w2 ⟨rfl, rfl⟩
      rw [← HN.out]
      go_wp2_with fail
      refine (At.new _ N hN1 (by omega)).mono ?_
      rintro e w3 ⟨p, rfl, hA⟩
      have HA := Lib.hid (hA.rebase HC2.out)
      clear hA HC2
      go_wp2_with fail
      refine (size_spec _ raw braw).mono ?_
      rintro e w2 ⟨rfl, rfl⟩
      rw [← HN.out]
      go_wp2_with fail
      refine (HA.out.rnew N hN1 (by omega)).mono ?_
      rintro e w4 ⟨q, rfl, hX⟩
      have HB := Lib.hid hX
      clear hX HA
      go_wp2_with fail
      go_loopw [10] (fun s wr => ∃ k : Nat, k ≤ ln ∧ s = .int .i64 k ∧ AtX w wr p ((DK.new N).run (l.take k)) q ((DK.new N).run (l.take k))) (fun s _ => ln - (intOf s).toNat)
      case atStart => exact ⟨0, Nat.zero_le _, rfl, by simpa [DK.run] using HB.out⟩
      case round =>
        obtain ⟨k, hk, rfl, hD⟩ := hrel
        have HD := Lib.hid hD
        have Hn := Lib.hid Hl.out.len
        clear hD HB
        have HQ : Hid (((DK.new N).run (l.take k)).q.length ≤ 900000) := Lib.hid (Nat.le_trans (run_new_q N _ (by rw [List.length_take]; have := Hll.out; omega)) (by omega))
        by_cases hlt : k < ln
        · obtain ⟨x, hx⟩ : ∃ x, l[k]? = some x := ⟨l[k]'(by rw [← Hn.out]; exact hlt), by simp⟩
          have hmem := List.mem_of_getElem? hx
          have hxt := Htxl.out x hmem
          have hxa := Hal.out x hmem
          have Hrun := Lib.hid (DK.run_snoc (DK.new N) l k x hx)
          have HX := Lib.hid hx
          clear hmem hx
          generalize ((DK.new N).run (l.take k)) = D at *
          obtain ⟨ab, off, rfl, hbl, c0, c1, c2, c3, c4, c5⟩ := (Hl.out.quiet HD.out.chg).elem k x HX.out
          go_wp2_with fail
          refine (HD.out.act HQ.out x hxt hxa).mono ?_
          rintro e w5 ⟨rfl, h⟩
          have HD1 := Lib.hid h
          clear h c0 c1 c2 c3 c4 c5 HD
          obtain ⟨ab', off', hao, hbl', c0, c1, c2, c3, c4, c5⟩ := (Hl.out.quiet HD1.out.chg).elem k x HX.out
          simp only [Option.some.injEq, Addr.mk.injEq] at hao
          obtain ⟨rfl, rfl, _⟩ := hao
          obtain ⟨e1, e2, E, he⟩ : ∃ e1 e2 E, D.act x = (e1, e2, E) := ⟨_, _, _, rfl⟩
          have HE := Lib.hid he
          rw [he] at HD1 Hrun ⊢
          clear he
          go_wp2_with fail
          refine (HD1.out.want HQ.out x hxt hxa).mono ?_
          rintro e w6 ⟨rfl, h⟩
          rw [HE.out] at h ⊢
          have HD2 := Lib.hid h
          clear h c0 c1 c2 c3 c4 c5 HD1
          have hee : (e1 != e1) = false := by simp
          go_wp2_with fail
          go_roundw
          case rel => exact ⟨k + 1, by omega, by go_num, by rw [Hrun.out]; exact HD2.out⟩
          case measure => simp [intOf]; omega
        · have HE : Hid (((DK.new N).run (l.take k)).n = N) := Lib.hid (DK.run_n _ _)
          generalize ((DK.new N).run (l.take k)) = D at *
          go_wp2_with fail
          go_loopw [15] (fun s wr => ∃ j : Nat, j ≤ N ∧ s = .int .i64 j ∧ AtX w wr p D q D) (fun s _ => N - (intOf s).toNat)
          case atStart => exact ⟨0, Nat.zero_le _, rfl, HD.out⟩
          case round =>
            obtain ⟨j, hj, rfl, hX⟩ := hrel
            have HX := Lib.hid hX
            clear hX HD
            go_wp2_with fail
            refine (size_spec _ raw braw).mono ?_
            rintro e w7 ⟨rfl, rfl⟩
            rw [← HN.out]
            by_cases hjl : j < N
            · go_wp2_with fail
              refine (HX.out.read HQ.out (j : Int)).mono ?_
              rintro e w8 ⟨rfl, h⟩
              have HX1 := Lib.hid h
              clear h HX
              obtain ⟨e1, e2, he⟩ : ∃ e1 e2, D.read (j : Int) = (e1, e2) := ⟨_, _, rfl⟩
              have HE2 := Lib.hid he
              rw [he]
              clear he
              go_wp2_with fail
              refine (HX1.out.rread HQ.out (j : Int)).mono ?_
              rintro e w9 ⟨rfl, h⟩
              rw [HE2.out]
              have HX2 := Lib.hid h
              clear h HX1
              have hee : (e1 != e1) = false := by simp
              go_wp2_with fail
              go_roundw
              case rel => exact ⟨j + 1, by omega, by go_num, HX2.out⟩
              case measure => simp [intOf]; omega
            · go_wp2_with fail
              go_ret
              exact ⟨rfl, HX.out.chg⟩
end Go.Proofs.Ytnlgblcldbdnlaa
