/-
  Journal: the walk of JournalDurable.
-/
import Derived.Test.YtpmkgedlnanjiaaDoorJpF
namespace Go.Proofs.YtpmkgedlnanjiaaDoor
set_option linter.unusedVariables false
set_option linter.unusedSimpArgs false
set_option maxRecDepth 100000
open Go Go.RowKit
attribute [local irreducible] Go.wpStill
set_option maxHeartbeats 4000000 in
theorem journalDurable_walk (w : World) (HL : Hid (Laid w)) (s : Int) (hs : I64 s) (v : Value) (L : List OpV) (HL0 : Hid (RdS 5 ROp w v L)) (x : Int) (hx : I64 x) (y : Int) (hy : I64 y) :
    Calls Tryd.prog 3 #[.int .i64 s, v, .int .i64 x, .int .i64 y] w fun e w' => e = .returned (.bool true) ∧ Chg [] w w' := by
  have HB0 : Hid (Base w w []) := Lib.hid ⟨Chg.refl _ _, by simp, HL.out⟩
  obtain ⟨lo, lc, rfl, hle, hrc⟩ := HL0.out.form
  unfold Rch at hrc
  go_enter Tryd.func3, Tryd.ntmps3
  go_wp2_with fail
  refine head_r HL (fun w1 hc => ?_)
  have HB2 := Lib.hid (HB0.out.to (To.quiet hc))
  clear HB0
  clear hc
  go_wp2_with fail
  refine light_r s hs (.slice lo L.length lc) L (Lib.hid (HL0.out.keep kq_op HB2.out.chg)) (fun q hq => ?_)
  have HQ := Lib.hid hq
  clear hq
  cases q with
  | false =>
    go_wp2_with fail
    go_ret
    exact ⟨rfl, HB2.out.chg⟩
  | true =>
  have HLT : Hid (Light s L) := Lib.hid (HQ.out rfl)
  clear HQ
  go_wp2_with fail
  have HLr : Hid (Laid w1) := Lib.hid HB2.out.here
  refine filled_r HLr s _ L (Lib.hid (HL0.out.keep kq_op HB2.out.chg)) HLT (fun dv w9 hc hs3 => ?_) (fun n D c l p b u A lv w9 hsn h3 h40 hDn hlv hel hll hbs hz ho => ?_)
  · have hc9 : Chg [] w w9 := HB2.out.chg.trans hc (by simp)
    go_wp2_with fail
    go_ret
    exact ⟨rfl, hc9⟩
  subst hsn
  have HLI := Lib.hid hlv
  have HEL := Lib.hid hel
  have HDN := Lib.hid hDn
  have HLL := Lib.hid hll
  have hq0 : w1.heap.size = w1.heap.size := rfl
  have HBa : Hid (Base w w9 A) := Lib.hid ⟨HB2.out.chg.trans hbs.chg (by simp), fun k hk => Nat.le_trans HB2.out.size (hbs.ge k hk), HL.out⟩
  have HZa : Hid (JZ w.heap.size w9 A p b D ⟨n, c, l, false⟩ u) := Lib.hid (hz.low HB2.out.size)
  have HOa : Hid (Own w.heap.size A w9 lv l) := Lib.hid ⟨ho.1.less HB2.out.size, ho.2⟩
  obtain ⟨wo, wc, rfl⟩ := ho.1.form
  clear hlv hel hDn hll hbs hz ho hq0
  have HOP : Hid (Jn.openJ Dg.sum D = ((0, some ⟨n, c, l, false⟩), D)) := Lib.hid (by have h9 := HLI.out.openJ; rw [HDN.out] at h9; exact h9)
  have HQ0 : Hid (D.q.length ≤ 1000) := Lib.hid (by rw [HLI.out.q]; exact Nat.zero_le _)
  have HN0 : Hid (D.n ≤ 100) := Lib.hid (by rw [HDN.out]; omega)
  have HLB : Hid (l.length ≤ 1000000) := Lib.hid (by have := HLL.out; omega)
  have HCN : Hid (c + 2 ≤ n) := Lib.hid (by have h9 := HLI.out.lies.cn; rw [HDN.out] at h9; exact h9)
  go_wp2_with fail
  refine records_z (j := ⟨n, c, l, false⟩) HBa (Lib.hid HZa.out.lt) (Lib.hid (HZa.out.jr)) (HLB.out) (fun u4 w3 hl hc => ?_)
  have HB6 := Lib.hid (HBa.out.to (To.quiet hc))
  have HZ7 := Lib.hid (HZa.out.quiet hc)
  have Hwant8 := Lib.hid (HOa.out.to (To.quiet hc))
  clear HBa HZa HOa
  have Hr59 := Lib.hid (hl)
  obtain ⟨ao10, cp11, rfl⟩ := hl.1.form
  clear hl hc
  try simp only []
  go_wp2_with fail
  refine same_z _ _ _ _ (Lib.hid (Hr59.out.lst)) (Lib.hid (Hwant8.out.lst)) (HLB.out) (HLB.out) (fun w12 hc => ?_)
  rw [decide_eq_true rfl]
  have HB13 := Lib.hid (HB6.out.to (To.quiet hc))
  have HZ14 := Lib.hid (HZ7.out.quiet hc)
  have Hwant15 := Lib.hid (Hwant8.out.to (To.quiet hc))
  have Hr516 := Lib.hid (Hr59.out.to (To.quiet hc))
  clear HB6 HZ7 Hwant8 Hr59
  clear hc
  clear Hr516
  go_wp2_with fail
  refine fail_z HZ14 (by have := HQ0.out; omega) x y (fun A17 w18 ht hz => ?_)
  have HB19 := Lib.hid (HB13.out.to ht)
  have HZ20 := Lib.hid (hz)
  have Hwant21 := Lib.hid (Hwant15.out.to ht)
  clear HB13 HZ14 Hwant15
  clear ht hz
  go_wp2_with fail
  have HFS : Hid ((D.fail x y).start = D) := Lib.hid (by rw [HLI.out.fail, HLI.out.start])
  refine start_z HZ20 (fun A22 w23 ht hz => ?_)
  rw [HFS.out] at hz
  have HB24 := Lib.hid (HB19.out.to ht)
  have HZ25 := Lib.hid (hz)
  have Hwant26 := Lib.hid (Hwant21.out.to ht)
  clear HB19 HZ20 Hwant21
  clear ht hz
  go_wp2_with fail
  refine open_z HB24 HZ25 (HQ0.out) (HN0.out) (fun e E A32 w33 he ht hz => ?_) (fun j9 E b29 v30 u31 A27 w28 he ht hz hj hl => ?_)
  · have h9 := (HOP.out).symm.trans he
    cases h9
  obtain ⟨-, h8, rfl⟩ := pair3 ((HOP.out).symm.trans he)
  injection h8 with h8
  subst h8
  clear he
  have HB34 := Lib.hid (HB24.out.to ht)
  have HZ35 := Lib.hid (hz)
  have Hwant36 := Lib.hid (Hwant26.out.to ht)
  clear HB24 HZ25 Hwant26
  have HO3739 := Lib.hid (hl)
  obtain ⟨ao40, cap41, rfl⟩ := hl.1.form
  have HJ3842 : Hid (JB w.heap.size A27 w28 b29 p ⟨n, c, l, false⟩ v30) := Lib.hid (hj)
  clear ht hz hl hj
  go_wp2_with fail
  refine open_z HB34 HZ35 (HQ0.out) (HN0.out) (fun e E A48 w49 he ht hz => ?_) (fun j9 E b45 v46 u47 A43 w44 he ht hz hj hl => ?_)
  · have h9 := (HOP.out).symm.trans he
    cases h9
  obtain ⟨-, h8, rfl⟩ := pair3 ((HOP.out).symm.trans he)
  injection h8 with h8
  subst h8
  clear he
  have HB50 := Lib.hid (HB34.out.to ht)
  have HZ51 := Lib.hid (hz)
  have Hwant52 := Lib.hid (Hwant36.out.to ht)
  have HO3753 := Lib.hid (HO3739.out.to ht)
  have HJ3854 := Lib.hid (HJ3842.out.to ht)
  clear HB34 HZ35 Hwant36 HO3739 HJ3842
  have HO5557 := Lib.hid (hl)
  obtain ⟨ao58, cap59, rfl⟩ := hl.1.form
  have HJ5660 : Hid (JB w.heap.size A43 w44 b45 p ⟨n, c, l, false⟩ v46) := Lib.hid (hj)
  clear ht hz hl hj
  clear HJ5660
  go_wp2_with fail
  refine same_z _ _ _ _ (Lib.hid (HO3753.out.lst)) (Lib.hid (Hwant52.out.lst)) (HLB.out) (HLB.out) (fun w61 hc => ?_)
  rw [decide_eq_true rfl]
  have HB62 := Lib.hid (HB50.out.to (To.quiet hc))
  have HZ63 := Lib.hid (HZ51.out.quiet hc)
  have Hwant64 := Lib.hid (Hwant52.out.to (To.quiet hc))
  have HO3765 := Lib.hid (HO3753.out.to (To.quiet hc))
  have HJ3866 := Lib.hid (HJ3854.out.to (To.quiet hc))
  have HO5567 := Lib.hid (HO5557.out.to (To.quiet hc))
  clear HB50 HZ51 Hwant52 HO3753 HJ3854 HO5557
  clear hc
  go_wp2_with fail
  refine same_z _ _ _ _ (Lib.hid (HO5567.out.lst)) (Lib.hid (Hwant64.out.lst)) (HLB.out) (HLB.out) (fun w68 hc => ?_)
  rw [decide_eq_true rfl]
  have HB69 := Lib.hid (HB62.out.to (To.quiet hc))
  have HZ70 := Lib.hid (HZ63.out.quiet hc)
  have Hwant71 := Lib.hid (Hwant64.out.to (To.quiet hc))
  have HO3772 := Lib.hid (HO3765.out.to (To.quiet hc))
  have HJ3873 := Lib.hid (HJ3866.out.to (To.quiet hc))
  have HO5574 := Lib.hid (HO5567.out.to (To.quiet hc))
  clear HB62 HZ63 Hwant64 HO3765 HJ3866 HO5567
  clear hc
  go_wp2_with fail
  refine records_z (j := ⟨n, c, l, false⟩) HB69 (Lib.hid HZ70.out.lt) (Lib.hid (HJ3873.out.1)) (HLB.out) (fun u76 w75 hl hc => ?_)
  have HB78 := Lib.hid (HB69.out.to (To.quiet hc))
  have HZ79 := Lib.hid (HZ70.out.quiet hc)
  have Hwant80 := Lib.hid (Hwant71.out.to (To.quiet hc))
  have HO3781 := Lib.hid (HO3772.out.to (To.quiet hc))
  have HJ3882 := Lib.hid (HJ3873.out.to (To.quiet hc))
  have HO5583 := Lib.hid (HO5574.out.to (To.quiet hc))
  clear HB69 HZ70 Hwant71 HO3772 HJ3873 HO5574
  have Hr7784 := Lib.hid (hl)
  obtain ⟨ao85, cp86, rfl⟩ := hl.1.form
  clear hl hc
  try simp only []
  go_wp2_with fail
  refine same_z _ _ _ _ (Lib.hid (Hr7784.out.lst)) (Lib.hid (Hwant80.out.lst)) (HLB.out) (HLB.out) (fun w87 hc => ?_)
  rw [decide_eq_true rfl]
  have HB88 := Lib.hid (HB78.out.to (To.quiet hc))
  have HZ89 := Lib.hid (HZ79.out.quiet hc)
  have Hwant90 := Lib.hid (Hwant80.out.to (To.quiet hc))
  have HO3791 := Lib.hid (HO3781.out.to (To.quiet hc))
  have HJ3892 := Lib.hid (HJ3882.out.to (To.quiet hc))
  have HO5593 := Lib.hid (HO5583.out.to (To.quiet hc))
  have Hr7794 := Lib.hid (Hr7784.out.to (To.quiet hc))
  clear HB78 HZ79 Hwant80 HO3781 HJ3882 HO5583 Hr7784
  clear hc
  go_wp2_with fail
  refine room_r (j := ⟨n, c, l, false⟩) (Lib.hid (HJ3892.out.1)) (show n ≤ 4000 by omega) HCN.out (fun w95 hc => ?_)
  have HB96 := Lib.hid (HB88.out.to (To.quiet hc))
  have HZ97 := Lib.hid (HZ89.out.quiet hc)
  have Hwant98 := Lib.hid (Hwant90.out.to (To.quiet hc))
  have HO3799 := Lib.hid (HO3791.out.to (To.quiet hc))
  have HJ38100 := Lib.hid (HJ3892.out.to (To.quiet hc))
  have HO55101 := Lib.hid (HO5593.out.to (To.quiet hc))
  have Hr77102 := Lib.hid (Hr7794.out.to (To.quiet hc))
  clear HB88 HZ89 Hwant90 HO3791 HJ3892 HO5593 Hr7794
  clear hc
  obtain ⟨rm, hrm⟩ : ∃ r, r = Jn.room ⟨n, c, l, false⟩ := ⟨_, rfl⟩
  rw [← hrm]
  have HRM := Lib.hid hrm
  clear hrm
  go_wp2_with fail
  refine room_r (j := ⟨n, c, l, false⟩) (Lib.hid (HZ97.out.jr)) (show n ≤ 4000 by omega) HCN.out (fun w103 hc => ?_)
  have HB104 := Lib.hid (HB96.out.to (To.quiet hc))
  have HZ105 := Lib.hid (HZ97.out.quiet hc)
  have Hwant106 := Lib.hid (Hwant98.out.to (To.quiet hc))
  have HO37107 := Lib.hid (HO3799.out.to (To.quiet hc))
  have HJ38108 := Lib.hid (HJ38100.out.to (To.quiet hc))
  have HO55109 := Lib.hid (HO55101.out.to (To.quiet hc))
  have Hr77110 := Lib.hid (Hr77102.out.to (To.quiet hc))
  clear HB96 HZ97 Hwant98 HO3799 HJ38100 HO55101 Hr77102
  clear hc
  rw [← HRM.out]
  go_wp2_with fail
  go_ret
  exact ⟨rfl, HB104.out.chg⟩
end Go.Proofs.YtpmkgedlnanjiaaDoor
