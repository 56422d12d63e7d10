/-
  Journal: the walk of JournalRoom.
-/
import Derived.Test.YtpmkgedlnanjiaaGreatDoorJpD
import Derived.Test.YtpmkgedlnanjiaaGreatDoorJvA
import Derived.Test.YtpmkgedlnanjiaaGreatDoorJnI
import Derived.Test.YtpmkgedlnanjiaaGreatDoorJnL
namespace Go.Proofs.YtpmkgedlnanjiaaGreatDoor
set_option linter.unusedVariables false
set_option linter.unusedSimpArgs false
set_option maxRecDepth 100000
open Go Go.RowKit
attribute [local irreducible] Go.wpStill
set_option maxHeartbeats 4000000 in
theorem journalRoom_walk (w : World) (HL : Hid (Laid w)) (s : Int) (hs : I64 s) (v : Value) (L : List OpV) (HL0 : Hid (RdS 5 ROp w v L)) :
    Calls Tryz.prog 3 #[.int .i64 s, v] w fun e w' => e = .returned (.bool true) ∧ Chg [] w w' := by
  have HB0 : Hid (Base w w []) := Lib.hid ⟨Chg.refl _ _, by simp, HL.out⟩
  obtain ⟨lo, lc, rfl, hle, hrc⟩ := HL0.out.form
  unfold Rch at hrc
  go_enter Tryz.func3, Tryz.ntmps3
  go_wp2_with fail
  refine head_r HL (fun w1 hc => ?_)
  have HB2 := Lib.hid (HB0.out.to (To.quiet hc))
  clear HB0
  clear hc
  go_wp2_with fail
  refine light_r s hs (.slice lo L.length lc) L (Lib.hid (HL0.out.keep kq_op HB2.out.chg)) (fun q hq => ?_)
  have HQ := Lib.hid hq
  clear hq
  cases q with
  | false =>
    go_wp2_with fail
    go_ret
    exact ⟨rfl, HB2.out.chg⟩
  | true =>
  have HLT : Hid (Light s L) := Lib.hid (HQ.out rfl)
  clear HQ
  go_wp2_with fail
  obtain ⟨n, hn⟩ : ∃ n, n = L.length := ⟨_, rfl⟩
  rw [← hn] at HL0 hle hrc ⊢
  have HN := Lib.hid hn
  have h40 := HLT.out.1
  have h16 : n ≤ 16 := by rw [hn]; exact HLT.out.2.1
  clear hn
  by_cases hs1 : s < 1
  · refine (new_bad w1 s (.inl hs1)).mono ?_
    rintro e w9 ⟨rfl, rfl⟩
    go_wp2_with fail
    refine open_nil _ ?_
    go_wp2_with fail
    go_ret
    exact ⟨rfl, HB2.out.chg⟩
  obtain ⟨N, rfl⟩ : ∃ N : Nat, s = (N : Int) := ⟨s.toNat, by omega⟩
  refine new_d HB2 N (by omega) (by omega) (fun p A3 w4 ht hd => ?_)
  have HB5 := Lib.hid (HB2.out.to ht)
  clear HB2
  have HD6 := Lib.hid (hd)
  clear ht hd
  go_wp2_with fail
  refine open_d HB5 HD6 (show (0 : Nat) ≤ 1000 by omega) (show N ≤ 100 by omega) (fun e E A9 w9 he ht hd => ?_) (fun j9 E b u lv A7 w8 he ht hz hl => ?_)
  · have h3 : N < 3 := by
      rcases Nat.lt_or_ge N 3 with h | h
      · exact h
      · have h9 := ((Jn.live_new (sm := Dg.sum) Dg.sum_len h (by omega)).openJ).symm.trans he
        cases h9
    obtain ⟨rfl, -, -⟩ := pair3 ((Jn.open_few Dg.sum h3).symm.trans he)
    have hc9 : Chg [] w w9 := (HB5.out.to ht).chg
    clear he ht hd
    go_wp2_with fail
    go_ret
    exact ⟨rfl, hc9⟩
  have h3 : 3 ≤ N := by
    rcases Nat.lt_or_ge N 3 with h | h
    · have h9 := (Jn.open_few Dg.sum h).symm.trans he; cases h9
    · exact h
  obtain ⟨-, h8, rfl⟩ := pair3 (((Jn.live_new (sm := Dg.sum) Dg.sum_len h3 (by omega)).openJ).symm.trans he)
  injection h8 with h8
  subst h8
  clear he
  clear HD6
  have HB9 := Lib.hid (HB5.out.to ht)
  clear HB5
  have HZ10 := Lib.hid (hz)
  obtain ⟨ao, ac, rfl⟩ := hl.1.form
  clear ht hz hl
  obtain ⟨M, hM⟩ : ∃ M, M = N - 2 := ⟨_, rfl⟩
  have y0 : IntKind.i64.wrap ((N : Int) - 2) = (M : Int) := by rw [IntWalk.i64_in _ (by omega)]; omega
  have HMM := Lib.hid hM
  clear hM
  go_wp2_with fail
  clear y0
  go_loopw [9, 10] (fun rv iv wr => ∃ (k c rm : Nat) (D : DK) (l : List Bytes) (A : List Nat) (u : Value), k ≤ n ∧ iv = .int .i64 (k : Int) ∧ rv = .int .i64 (rm : Int) ∧ Hid (Base w wr A) ∧ Hid (JZ w.heap.size wr A p b D ⟨N, c, l, false⟩ u) ∧ Hid (D.n = N ∧ Jn.Live Dg.sum D c l ∧ l.length ≤ 20 * k ∧ rm + 2 + c = N)) (fun _ iv _ => n - (intOf iv).toNat)
  case atStart => exact ⟨0, 0, M, _, [], _, _, Nat.zero_le _, rfl, rfl, HB9, HZ10, Lib.hid ⟨rfl, Jn.live_new Dg.sum_len h3 (by omega), Nat.le_refl _, by have := HMM.out; omega⟩⟩
  case round =>
    obtain ⟨k, c, rm, D, l, A, u, hk, rfl, rfl, HB, HZ, HD⟩ := hrel
    by_cases hlt2 : k < n
    · obtain ⟨o, ho⟩ : ∃ o, L[k]? = some o := ⟨L[k]'(by rw [← HN.out]; exact hlt2), by simp⟩
      obtain ⟨gg, off, cs, hag, hgl, -, ⟨rv, rfl, hrv, hi0, hi1, hi2, hi3⟩, hcc⟩ := HL0.out.elem ho
      subst hag
      obtain ⟨ra, rc, rfl, hrle, -⟩ := hrv.form
      obtain ⟨m, hm⟩ : ∃ m, m = o.list.length := ⟨_, rfl⟩
      rw [← hm] at hrv hrle hcc
      have HM := Lib.hid hm
      have HC1 : Hid (w.cell? ⟨gg, off + k * 5 + 1, none⟩ = some (.slice ra m rc)) := Lib.hid (hcc 1 _ rfl)
      have HRL : Hid (Lst A wr (.slice ra m rc) o.list) := Lib.hid (HB.out.lst hrv.strs (fun hne ad n0 c0 he => by obtain ⟨x, hx⟩ : ∃ x, o.list[0]? = some x := ⟨o.list[0]'(List.length_pos_iff.2 hne), by simp⟩; cases he; obtain ⟨g9, off9, h9, h10, _⟩ := hrv.str_at hx; cases h9; exact block_lt_of_cell h10))
      have HOL : Hid (o.list.length ≤ 20 ∧ ∀ x ∈ o.list, x.length ≤ 6000) := Lib.hid (HLT.out.2.2 o (List.mem_of_getElem? ho))
      obtain ⟨rs, hrs⟩ : ∃ z, z = o.list := ⟨_, rfl⟩
      rw [← hrs] at HM HRL HOL
      clear hcc hrv ho hm hi0 hi1 hi2 hi3 hrs
      have z0 : (0 : Int) ≤ (k : Int) := by omega
      have z1 : (k : Int) < (n : Int) := by omega
      go_wp2_with fail
      refine records_z (j := ⟨N, c, l, false⟩) HB (Lib.hid HZ.out.lt) (Lib.hid (HZ.out.jr)) (show l.length ≤ 1000000 by have := HD.out.2.2.1; omega) (fun u12 w11 hl hc => ?_)
      have HB14 := Lib.hid (HB.out.to (To.quiet hc))
      have HZ15 := Lib.hid (HZ.out.quiet hc)
      have HX16 := Lib.hid (HRL.out.to (To.quiet hc))
      clear HB HZ HRL
      have Hr1317 := Lib.hid (hl)
      obtain ⟨ao18, cp19, rfl⟩ := hl.1.form
      clear hl hc
      try simp only []
      have c1 := cell_quiet HB14.out.chg HC1.out (by simp)
      go_wp2_with fail
      refine rtext_r (.slice ra m rc) rs (Lib.hid HX16.out.1) (by have := HOL.out.1; omega) (Lib.hid (fun x hx => by have := HOL.out.2 x hx; omega)) (fun w20 hc => ?_)
      clear c1
      have HB21 := Lib.hid (HB14.out.to (To.quiet hc))
      have HZ22 := Lib.hid (HZ15.out.quiet hc)
      have HX23 := Lib.hid (HX16.out.to (To.quiet hc))
      have Hr1324 := Lib.hid (Hr1317.out.to (To.quiet hc))
      clear HB14 HZ15 HX16 Hr1317
      clear hc
      obtain ⟨tx, htx⟩ : ∃ t, t = Jn.text rs := ⟨_, rfl⟩
      have HTL : Hid (tx.length ≤ 900000) := Lib.hid (by rw [htx]; exact Jn.text_small HOL.out.1 HOL.out.2)
      rw [← htx]
      have HTX := Lib.hid htx
      clear htx
      go_wp2_with fail
      refine rpieces_r tx (by have := HTL.out; omega) (fun pv w25 ho hc => ?_)
      obtain ⟨po, pc, rfl⟩ := ho.form
      obtain ⟨pn, hpn⟩ : ∃ q, q = (Jn.pieces tx).length := ⟨_, rfl⟩
      rw [← hpn]
      have HPN : Hid (pn = (Jn.pieces (Jn.text rs)).length) := Lib.hid (by rw [hpn, HTX.out])
      have HPM : Hid (pn ≤ 900000) := Lib.hid (by rw [hpn]; have h8 := Jn.pieces_len _ tx (Nat.le_refl _); have h9 := HTL.out; omega)
      have HB26 := Lib.hid (HB21.out.to (To.quiet hc))
      have HZ27 := Lib.hid (HZ22.out.quiet hc)
      have HX28 := Lib.hid (HX23.out.to (To.quiet hc))
      have Hr1329 := Lib.hid (Hr1324.out.to (To.quiet hc))
      clear HB21 HZ22 HX23 Hr1324
      clear hc ho hpn
      have c1 := cell_quiet HB26.out.chg HC1.out (by simp)
      go_wp2_with fail
      refine rlong_r (.slice ra m rc) rs (Lib.hid HX28.out.1) (by have := HOL.out.1; omega) ?_
      obtain ⟨lg, hlg⟩ : ∃ q, q = rs.any (fun r => decide (2000 < r.length)) := ⟨_, rfl⟩
      rw [← hlg]
      have HLG := Lib.hid hlg
      clear hlg
      have HPM2 := HPM.out
      have HVD : Hid (Jn.verdict D c rs = if lg = true then 3 else if rm < pn then 23 else 0) := Lib.hid (by unfold Jn.verdict; rw [← HLG.out, ← HPN.out, show D.n - 2 - c = rm by (have h8 := HD.out.1; have h9 := HD.out.2.2.2; omega)])
      obtain ⟨E9, a1, a2, a3⟩ := HD.out.2.1.append Dg.sum_len rs
      rw [HD.out.1] at a1
      rw [HVD.out, ← HPN.out] at a1 a3
      have HA1 := Lib.hid a1
      have HA2 : Hid (E9.n = N) := Lib.hid (a2.trans HD.out.1)
      have HA3 := Lib.hid a3
      clear a1 a2 a3
      cases lg with
      | true =>
        simp only [if_true, if_false] at HA1 HA3
        go_wp2_with fail
        refine append_z HB26 HZ27 (.slice ra m rc) rs HX28 (by have := HOL.out.1; omega) (Lib.hid (fun x hx => by have := HOL.out.2 x hx; omega)) (Lib.hid (Jn.text_small HOL.out.1 HOL.out.2)) (show N ≤ 4000 by omega) (show c + 2 ≤ N by have h8 := HD.out.2.2.2; omega) (show l.length ≤ 90000 by have := HD.out.2.2.1; omega) (by rw [HD.out.2.1.q]; exact Nat.zero_le _) (fun ee jj EE A30 v32 w31 he ht hz => ?_)
        have h9 := HA1.out.symm.trans he
        obtain ⟨rfl, rfl, rfl⟩ := pair3 h9
        clear he c1 h9
        have HB33 := Lib.hid (HB26.out.to ht)
        have HZ34 := Lib.hid (hz)
        have HX35 := Lib.hid (HX28.out.to ht)
        have Hr1336 := Lib.hid (Hr1329.out.to ht)
        clear HB26 HZ27 HX28 Hr1329
        clear ht hz
        go_wp2_with fail
        refine room_r (j := ⟨N, c, l, false⟩) (Lib.hid HZ34.out.jr) (show N ≤ 4000 by omega) (show c + 2 ≤ N by have h8 := HD.out.2.2.2; omega) (fun w37 hc => ?_)
        have HB38 := Lib.hid (HB33.out.to (To.quiet hc))
        have HZ39 := Lib.hid (HZ34.out.quiet hc)
        have HX40 := Lib.hid (HX35.out.to (To.quiet hc))
        have Hr1341 := Lib.hid (Hr1336.out.to (To.quiet hc))
        clear HB33 HZ34 HX35 Hr1336
        clear hc
        rw [show Jn.room ⟨N, c, l, false⟩ = rm from (by show N - 2 - c = _; have h8 := HD.out.2.2.2; omega)]
        go_wp2_with fail
        refine records_z (j := ⟨N, c, l, false⟩) HB38 (Lib.hid HZ39.out.lt) (Lib.hid (HZ39.out.jr)) (show l.length ≤ 1000000 by have := HD.out.2.2.1; omega) (fun u43 w42 hl hc => ?_)
        have HB45 := Lib.hid (HB38.out.to (To.quiet hc))
        have HZ46 := Lib.hid (HZ39.out.quiet hc)
        have HX47 := Lib.hid (HX40.out.to (To.quiet hc))
        have Hr1348 := Lib.hid (Hr1341.out.to (To.quiet hc))
        clear HB38 HZ39 HX40 Hr1341
        have Hr4449 := Lib.hid (hl)
        obtain ⟨ao50, cp51, rfl⟩ := hl.1.form
        clear hl hc
        try simp only []
        go_wp2_with fail
        refine same_z _ _ _ _ (Lib.hid (Hr4449.out.lst)) (Lib.hid (Hr1348.out.lst)) (show l.length ≤ 1000000 by have := HD.out.2.2.1; omega) (show l.length ≤ 1000000 by have := HD.out.2.2.1; omega) (fun w52 hc => ?_)
        rw [decide_eq_true rfl]
        have HB53 := Lib.hid (HB45.out.to (To.quiet hc))
        have HZ54 := Lib.hid (HZ46.out.quiet hc)
        have HX55 := Lib.hid (HX47.out.to (To.quiet hc))
        have Hr1356 := Lib.hid (Hr1348.out.to (To.quiet hc))
        have Hr4457 := Lib.hid (Hr4449.out.to (To.quiet hc))
        clear HB45 HZ46 HX47 Hr1348 Hr4449
        clear hc
        clear Hr4457
        go_wp2_with fail
        go_roundw
        case rel => exact ⟨k + 1, c, rm, E9, l, _, _, by omega, by go_num, rfl, HB53, HZ54, Lib.hid ⟨HA2.out, HA3.out, by have := HD.out.2.2.1; omega, HD.out.2.2.2⟩⟩
        case measure => simp [intOf]; omega
      | false =>
        by_cases hf : rm < pn
        · have z5 : (rm : Int) < (pn : Int) := by omega
          simp only [hf, Bool.false_eq_true, if_true, if_false] at HA1 HA3
          go_wp2_with fail
          refine append_z HB26 HZ27 (.slice ra m rc) rs HX28 (by have := HOL.out.1; omega) (Lib.hid (fun x hx => by have := HOL.out.2 x hx; omega)) (Lib.hid (Jn.text_small HOL.out.1 HOL.out.2)) (show N ≤ 4000 by omega) (show c + 2 ≤ N by have h8 := HD.out.2.2.2; omega) (show l.length ≤ 90000 by have := HD.out.2.2.1; omega) (by rw [HD.out.2.1.q]; exact Nat.zero_le _) (fun ee jj EE A58 v60 w59 he ht hz => ?_)
          have h9 := HA1.out.symm.trans he
          obtain ⟨rfl, rfl, rfl⟩ := pair3 h9
          clear he c1 h9
          have HB61 := Lib.hid (HB26.out.to ht)
          have HZ62 := Lib.hid (hz)
          have HX63 := Lib.hid (HX28.out.to ht)
          have Hr1364 := Lib.hid (Hr1329.out.to ht)
          clear HB26 HZ27 HX28 Hr1329
          clear ht hz
          go_wp2_with fail
          refine room_r (j := ⟨N, c, l, false⟩) (Lib.hid HZ62.out.jr) (show N ≤ 4000 by omega) (show c + 2 ≤ N by have h8 := HD.out.2.2.2; omega) (fun w65 hc => ?_)
          have HB66 := Lib.hid (HB61.out.to (To.quiet hc))
          have HZ67 := Lib.hid (HZ62.out.quiet hc)
          have HX68 := Lib.hid (HX63.out.to (To.quiet hc))
          have Hr1369 := Lib.hid (Hr1364.out.to (To.quiet hc))
          clear HB61 HZ62 HX63 Hr1364
          clear hc
          rw [show Jn.room ⟨N, c, l, false⟩ = rm from (by show N - 2 - c = _; have h8 := HD.out.2.2.2; omega)]
          go_wp2_with fail
          refine records_z (j := ⟨N, c, l, false⟩) HB66 (Lib.hid HZ67.out.lt) (Lib.hid (HZ67.out.jr)) (show l.length ≤ 1000000 by have := HD.out.2.2.1; omega) (fun u71 w70 hl hc => ?_)
          have HB73 := Lib.hid (HB66.out.to (To.quiet hc))
          have HZ74 := Lib.hid (HZ67.out.quiet hc)
          have HX75 := Lib.hid (HX68.out.to (To.quiet hc))
          have Hr1376 := Lib.hid (Hr1369.out.to (To.quiet hc))
          clear HB66 HZ67 HX68 Hr1369
          have Hr7277 := Lib.hid (hl)
          obtain ⟨ao78, cp79, rfl⟩ := hl.1.form
          clear hl hc
          try simp only []
          go_wp2_with fail
          refine same_z _ _ _ _ (Lib.hid (Hr7277.out.lst)) (Lib.hid (Hr1376.out.lst)) (show l.length ≤ 1000000 by have := HD.out.2.2.1; omega) (show l.length ≤ 1000000 by have := HD.out.2.2.1; omega) (fun w80 hc => ?_)
          rw [decide_eq_true rfl]
          have HB81 := Lib.hid (HB73.out.to (To.quiet hc))
          have HZ82 := Lib.hid (HZ74.out.quiet hc)
          have HX83 := Lib.hid (HX75.out.to (To.quiet hc))
          have Hr1384 := Lib.hid (Hr1376.out.to (To.quiet hc))
          have Hr7285 := Lib.hid (Hr7277.out.to (To.quiet hc))
          clear HB73 HZ74 HX75 Hr1376 Hr7277
          clear hc
          clear Hr7285
          go_wp2_with fail
          go_roundw
          case rel => exact ⟨k + 1, c, rm, E9, l, _, _, by omega, by go_num, rfl, HB81, HZ82, Lib.hid ⟨HA2.out, by have h8 := HA3.out; simpa using h8, by have := HD.out.2.2.1; omega, HD.out.2.2.2⟩⟩
          case measure => simp [intOf]; omega
        · have z5 : ¬ (rm : Int) < (pn : Int) := by omega
          obtain ⟨r2, hr2⟩ : ∃ q, q = rm - pn := ⟨_, rfl⟩
          have y9 : IntKind.i64.wrap ((rm : Int) - (pn : Int)) = (r2 : Int) := by rw [IntWalk.i64_in _ (by have h8 := HD.out.2.2.2; omega)]; omega
          have HR2 : Hid (r2 + pn = rm) := Lib.hid (by omega)
          clear hr2
          simp only [hf, Bool.false_eq_true, if_true, if_false] at HA1 HA3
          go_wp2_with fail
          refine append_z HB26 HZ27 (.slice ra m rc) rs HX28 (by have := HOL.out.1; omega) (Lib.hid (fun x hx => by have := HOL.out.2 x hx; omega)) (Lib.hid (Jn.text_small HOL.out.1 HOL.out.2)) (show N ≤ 4000 by omega) (show c + 2 ≤ N by have h8 := HD.out.2.2.2; omega) (show l.length ≤ 90000 by have := HD.out.2.2.1; omega) (by rw [HD.out.2.1.q]; exact Nat.zero_le _) (fun ee jj EE A86 v88 w87 he ht hz => ?_)
          have h9 := HA1.out.symm.trans he
          obtain ⟨rfl, rfl, rfl⟩ := pair3 h9
          clear he c1 h9
          have HB89 := Lib.hid (HB26.out.to ht)
          have HZ90 := Lib.hid (hz)
          have HX91 := Lib.hid (HX28.out.to ht)
          have Hr1392 := Lib.hid (Hr1329.out.to ht)
          clear HB26 HZ27 HX28 Hr1329
          clear ht hz
          have c1 := cell_quiet HB89.out.chg HC1.out (by simp)
          go_upto_region 21 with (fail)
          refine wp_region_held_drew (S := fun W' => Chg [] w87 W') (by kernel_rfl) ((Chg.refl _ _).drew) (fun hHeld => ?_)
          obtain ⟨wd, hwd⟩ : ∃ x, x = w87.drew := ⟨_, rfl⟩
          rw [← hwd] at hHeld ⊢
          clear hwd c1
          have CD : Hid (Chg [] w87 wd) := Lib.hid hHeld
          have HCW : Hid (Chg [] w w87) := Lib.hid HB89.out.chg
          refine tk 1 ?va1 ?hya1 ?rsa1
          case hya1 => (intro w9 hSw; go_simp; try with_reducible rfl)
          try simp only [qq]
          refine tk 3 ?va3 ?hya3 ?rsa3
          case hya3 => (intro w9 hSw; go_simp; try with_reducible rfl)
          try simp only [qq]
          refine tk 4 ?va4 ?hya4 ?rsa4
          case hya4 => (intro w9 hSw; go_simp; try with_reducible rfl)
          try simp only [qq]
          refine tk 5 ?va5 ?hya5 ?rsa5
          case hya5 => (intro w9 hSw; go_simp; try with_reducible rfl)
          try simp only [qq]
          refine tk 6 ?va6 ?hya6 ?rsa6
          case hya6 => (intro w9 hSw; go_simp; try with_reducible rfl)
          try simp only [qq]
          refine tk 7 ?va7 ?hya7 ?rsa7
          case hya7 => (intro w9 hSw; have t0 := cell_quiet (HCW.out.trans hSw (by simp)) HC1.out (by simp); go_simp; try with_reducible rfl)
          try simp only [qq]
          refine rd1 0 (fun K hK => ?_)
          go_simp
          obtain ⟨w1, hw1⟩ : ∃ W, W = wd.alloc (.cells #[] 9) := ⟨_, rfl⟩
          obtain ⟨g1, hg1⟩ : ∃ W, W = wd.heap.size := ⟨_, rfl⟩
          rw [← hw1, ← hg1]
          have C1 : Hid (Chg [] w87 w1) := Lib.hid (CD.out.trans (show Chg [] wd w1 by rw [hw1]; exact (Chg.refl _ _).alloc _) (by simp))
          have HOE : Hid (OwT w87.heap.size [] (.slice (some ⟨g1, 0, none⟩) 0 0) w1) := Lib.hid (by rw [hw1, hg1]; exact own_none44 (Blk.new wd [] _) CD.out.size)
          clear hw1 hg1
          refine hK.out _ _ C1.out (fun hHeld => ?_)
          clear hK K
          try simp only [qq]
          refine rd1 2 (fun K hK => ?_)
          refine step_strs rfl (.tmp 70) (.tmp 71) rfl w87.heap.size [] (.slice (some ⟨g1, 0, none⟩) 0 0) (by rfl) HOE.out l _ (by rfl) (Hr1392.out.lst.1.quiet C1.out) (by have := HD.out.2.2.1; simp only [List.length_nil]; omega) C1.out.size (fun v8 w8 h5 h6 h7 => ?_)
          rw [List.nil_append] at h5
          have C8 : Hid (Chg [] w87 w8) := Lib.hid (C1.out.trans h6 (fun q hq => .inr (HOE.out.ge q (Option.mem_toList.1 hq)).1))
          have HO8 : Hid (OwT w87.heap.size l v8 w8) := Lib.hid h5
          obtain ⟨a8, c8, rfl⟩ := h5.form
          clear h5 h6 h7
          refine hK.out _ _ C8.out (fun hHeld => ?_)
          clear hK K
          try simp only [qq]
          refine rd1 8 (fun K hK => ?_)
          refine step_strs rfl (.tmp 72) (.tmp 77) rfl w87.heap.size l (.slice a8 l.length c8) (by rfl) HO8.out rs (.slice ra m rc) (by rfl) (HX91.out.1.quiet C8.out) (by have := HD.out.2.2.1; have := HOL.out.1; omega) C8.out.size (fun v9 w9 h5 h6 h7 => ?_)
          have C9 : Hid (Chg [] w87 w9) := Lib.hid (C8.out.trans h6 (fun q hq => .inr (HO8.out.ge q (Option.mem_toList.1 hq)).1))
          obtain ⟨la, hla⟩ : ∃ z, z = l ++ rs := ⟨_, rfl⟩
          rw [← hla] at h5
          have HLA := Lib.hid hla
          have HLL : Hid (la.length ≤ 20 * (k + 1)) := Lib.hid (by rw [hla, List.length_append]; have := HD.out.2.2.1; have := HOL.out.1; omega)
          have HO9 : Hid (OwT w87.heap.size la v9 w9) := Lib.hid h5
          obtain ⟨a9, c9, rfl⟩ := h5.form
          rw [← hla] at HA3 HZ90
          clear h5 h6 h7 hla
          refine hK.out _ _ C9.out (fun hHeld => ?_)
          clear hK K
          try simp only [qq]
          refine tk 9 ?va9 ?hya9 ?rsa9
          case hya9 => (intro w9 hSw; go_simp; try with_reducible rfl)
          try simp only [qq]
          refine wpAnyH_done (by kernel_rfl) ?_ _
          try simp only [qq]
          clear hHeld
          have HAF : Hid (Own w.heap.size A86 w9 (.slice a9 la.length c9) la) := Lib.hid ⟨HO9.out.less HB89.out.size, fun q hq hm => by have h8 := (HO9.out.ge q hq).1; have h9 := HZ90.out.lt q hm; omega⟩
          clear HO8 HO9 HOE C1 C8 CD HCW
          clear Hr1392
          have HB93 := Lib.hid (HB89.out.to (To.quiet C9.out))
          have HZ94 := Lib.hid (HZ90.out.quiet C9.out)
          have HX95 := Lib.hid (HX91.out.to (To.quiet C9.out))
          clear HB89 HZ90 HX91
          go_wp2_with fail
          refine room_r (j := ⟨N, c + pn, la, false⟩) (Lib.hid HZ94.out.jr) (show N ≤ 4000 by omega) (show c + pn + 2 ≤ N by have h8 := HD.out.2.2.2; have h9 := HR2.out; omega) (fun w96 hc => ?_)
          have HB97 := Lib.hid (HB93.out.to (To.quiet hc))
          have HZ98 := Lib.hid (HZ94.out.quiet hc)
          have HX99 := Lib.hid (HX95.out.to (To.quiet hc))
          have Hafter100 := Lib.hid (HAF.out.to (To.quiet hc))
          clear HB93 HZ94 HX95 HAF
          clear hc
          rw [show Jn.room ⟨N, c + pn, la, false⟩ = r2 from (by show N - 2 - (c + pn) = _; have h8 := HD.out.2.2.2; have h9 := HR2.out; omega)]
          go_wp2_with fail
          refine records_z (j := ⟨N, c + pn, la, false⟩) HB97 (Lib.hid HZ98.out.lt) (Lib.hid (HZ98.out.jr)) (show la.length ≤ 1000000 by have := HLL.out; omega) (fun u102 w101 hl hc => ?_)
          have HB104 := Lib.hid (HB97.out.to (To.quiet hc))
          have HZ105 := Lib.hid (HZ98.out.quiet hc)
          have HX106 := Lib.hid (HX99.out.to (To.quiet hc))
          have Hafter107 := Lib.hid (Hafter100.out.to (To.quiet hc))
          clear HB97 HZ98 HX99 Hafter100
          have Hr103108 := Lib.hid (hl)
          obtain ⟨ao109, cp110, rfl⟩ := hl.1.form
          clear hl hc
          try simp only []
          go_wp2_with fail
          refine same_z _ _ _ _ (Lib.hid (Hr103108.out.lst)) (Lib.hid (Hafter107.out.lst)) (show la.length ≤ 1000000 by have := HLL.out; omega) (show la.length ≤ 1000000 by have := HLL.out; omega) (fun w111 hc => ?_)
          rw [decide_eq_true rfl]
          have HB112 := Lib.hid (HB104.out.to (To.quiet hc))
          have HZ113 := Lib.hid (HZ105.out.quiet hc)
          have HX114 := Lib.hid (HX106.out.to (To.quiet hc))
          have Hafter115 := Lib.hid (Hafter107.out.to (To.quiet hc))
          have Hr103116 := Lib.hid (Hr103108.out.to (To.quiet hc))
          clear HB104 HZ105 HX106 Hafter107 Hr103108
          clear hc
          clear Hr103116
          go_wp2_with fail
          go_roundw
          case rel => exact ⟨k + 1, c + pn, r2, E9, la, _, _, by omega, by go_num, rfl, HB112, HZ113, Lib.hid ⟨HA2.out, HA3.out, HLL.out, by have h8 := HD.out.2.2.2; have h9 := HR2.out; omega⟩⟩
          case measure => simp [intOf]; omega
    · have hkn : k = n := by omega
      subst hkn
      go_wp2_with fail
      go_ret
      exact ⟨rfl, HB.out.chg⟩
end Go.Proofs.YtpmkgedlnanjiaaGreatDoor
