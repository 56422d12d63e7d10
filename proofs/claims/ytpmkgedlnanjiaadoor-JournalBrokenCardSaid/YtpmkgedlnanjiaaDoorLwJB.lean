/-
  Journal: the walk of JournalBroken.
-/
import Derived.Test.YtpmkgedlnanjiaaDoorJpF
namespace Go.Proofs.YtpmkgedlnanjiaaDoor
set_option linter.unusedVariables false
set_option linter.unusedSimpArgs false
set_option maxRecDepth 100000
open Go Go.RowKit
attribute [local irreducible] Go.wpStill
set_option maxHeartbeats 4000000 in
theorem journalBroken_walk (w : World) (HL : Hid (Laid w)) (s : Int) (hs : I64 s) (v : Value) (L : List OpV) (HL0 : Hid (RdS 5 ROp w v L)) (x : Int) (hx : I64 x) (y : Int) (hy : I64 y) :
    Calls Tryd.prog 4 #[.int .i64 s, v, .int .i64 x, .int .i64 y] w fun e w' => e = .returned (.bool true) ∧ Chg [] w w' := by
  have HB0 : Hid (Base w w []) := Lib.hid ⟨Chg.refl _ _, by simp, HL.out⟩
  obtain ⟨lo, lc, rfl, hle, hrc⟩ := HL0.out.form
  unfold Rch at hrc
  go_enter Tryd.func4, Tryd.ntmps4
  go_wp2_with fail
  refine head_r HL (fun w1 hc => ?_)
  have HB2 := Lib.hid (HB0.out.to (To.quiet hc))
  clear HB0
  clear hc
  go_wp2_with fail
  refine light_r s hs (.slice lo L.length lc) L (Lib.hid (HL0.out.keep kq_op HB2.out.chg)) (fun q hq => ?_)
  have HQ := Lib.hid hq
  clear hq
  cases q with
  | false =>
    go_wp2_with fail
    go_ret
    exact ⟨rfl, HB2.out.chg⟩
  | true =>
  have HLT : Hid (Light s L) := Lib.hid (HQ.out rfl)
  clear HQ
  go_wp2_with fail
  have HLr : Hid (Laid w1) := Lib.hid HB2.out.here
  refine filled_r HLr s _ L (Lib.hid (HL0.out.keep kq_op HB2.out.chg)) HLT (fun dv w9 hc hs3 => ?_) (fun n D c l p b u A lv w9 hsn h3 h40 hDn hlv hel hll hbs hz ho => ?_)
  · have hc9 : Chg [] w w9 := HB2.out.chg.trans hc (by simp)
    go_wp2_with fail
    go_ret
    exact ⟨rfl, hc9⟩
  subst hsn
  have HLI := Lib.hid hlv
  have HEL := Lib.hid hel
  have HDN := Lib.hid hDn
  have HLL := Lib.hid hll
  have hq0 : w1.heap.size = w1.heap.size := rfl
  have HBa : Hid (Base w w9 A) := Lib.hid ⟨HB2.out.chg.trans hbs.chg (by simp), fun k hk => Nat.le_trans HB2.out.size (hbs.ge k hk), HL.out⟩
  have HZa : Hid (JZ w.heap.size w9 A p b D ⟨n, c, l, false⟩ u) := Lib.hid (hz.low HB2.out.size)
  have HOa : Hid (Own w.heap.size A w9 lv l) := Lib.hid ⟨ho.1.less HB2.out.size, ho.2⟩
  obtain ⟨wo, wc, rfl⟩ := ho.1.form
  clear hlv hel hDn hll hbs hz ho hq0
  have HOP : Hid (Jn.openJ Dg.sum D = ((0, some ⟨n, c, l, false⟩), D)) := Lib.hid (by have h9 := HLI.out.openJ; rw [HDN.out] at h9; exact h9)
  have HQ0 : Hid (D.q.length ≤ 1000) := Lib.hid (by rw [HLI.out.q]; exact Nat.zero_le _)
  have HN0 : Hid (D.n ≤ 100) := Lib.hid (by rw [HDN.out]; omega)
  have HLB : Hid (l.length ≤ 1000000) := Lib.hid (by have := HLL.out; omega)
  have HCN : Hid (c + 2 ≤ n) := Lib.hid (by have h9 := HLI.out.lies.cn; rw [HDN.out] at h9; exact h9)
  go_wp2_with fail
  refine room_r (j := ⟨n, c, l, false⟩) (Lib.hid HZa.out.jr) (show n ≤ 4000 by omega) HCN.out (fun w3 hc => ?_)
  have HB4 := Lib.hid (HBa.out.to (To.quiet hc))
  have HZ5 := Lib.hid (HZa.out.quiet hc)
  have Hwant6 := Lib.hid (HOa.out.to (To.quiet hc))
  clear HBa HZa HOa
  clear hc
  obtain ⟨rm, hrm⟩ : ∃ r, r = Jn.room ⟨n, c, l, false⟩ := ⟨_, rfl⟩
  rw [← hrm]
  have HRM := Lib.hid hrm
  clear hrm
  have HFD : Hid (D.fail x y = Jn.dead D) := Lib.hid (HLI.out.fail x y)
  have HSD : Hid ((Jn.dead D).start = D) := Lib.hid HLI.out.start
  have HDO : Hid (Jn.openJ Dg.sum (Jn.dead D) = ((24, none), Jn.dead D)) := Lib.hid (Jn.dead_open _ _)
  have HTX : Hid (Jn.text [[97]] = [49, 58, 97]) := Lib.hid (by rw [Jn.text_cons]; show Lib.itoa ((1 : Nat) : Int) ++ 58 :: ([97] ++ []) = _; rw [Jn.itoa_dec, Lib.decDigits_one (by decide)]; rfl)
  go_wp2_with fail
  refine fail_z HZ5 (by have := HQ0.out; omega) x y (fun A7 w8 ht hz => ?_)
  rw [HFD.out] at hz
  have HB9 := Lib.hid (HB4.out.to ht)
  have HZ10 := Lib.hid (hz)
  have Hwant11 := Lib.hid (Hwant6.out.to ht)
  clear HB4 HZ5 Hwant6
  clear ht hz
  obtain ⟨DD, hDD⟩ : ∃ DD, DD = Jn.dead D := ⟨_, rfl⟩
  have HDD := Lib.hid hDD
  rw [← hDD] at HDO HSD HZ10
  clear hDD
  have HQD : Hid (DD.q.length ≤ 1000) := Lib.hid (by rw [HDD.out]; exact HQ0.out)
  have HND : Hid (DD.n ≤ 100) := Lib.hid (by rw [HDD.out]; exact HN0.out)
  go_wp2_with fail
  by_cases hr0 : rm = 0
  · subst hr0
    have HAP : Hid (Jn.append Dg.sum ⟨n, c, l, false⟩ DD [[97]] = ((23, ⟨n, c, l, false⟩), DD)) := Lib.hid (by rw [HDD.out, Jn.dead_append _ _ _ rfl, if_pos HRM.out.symm])
    obtain ⟨w12, hw12⟩ : ∃ W, W = w8.alloc (.cells #[.string ⟨#[97]⟩] 9) := ⟨_, rfl⟩
    obtain ⟨g13, hg13⟩ : ∃ g, g = w8.heap.size := ⟨_, rfl⟩
    rw [← hw12, ← hg13]
    have hqw12 : Chg [] w8 w12 := by rw [hw12]; exact (Chg.refl _ _).alloc _
    have hz14 : ∀ k ∈ A7, k < w8.heap.size := HZ10.out.lt
    have hl13 : Lst A7 w12 (.slice (some ⟨g13, 0, none⟩) 1 1) [[97]] := by rw [hw12, hg13]; exact lst_new hz14 (by rfl) rfl
    have HB15 := Lib.hid (HB9.out.to (To.quiet hqw12))
    have HZ16 := Lib.hid (HZ10.out.quiet hqw12)
    have Hwant17 := Lib.hid (Hwant11.out.to (To.quiet hqw12))
    clear HB9 HZ10 Hwant11
    have Hl1318 := Lib.hid (hl13)
    clear hl13 hqw12 hw12 hg13 hz14
    refine append_z HB15 HZ16 (.slice (some ⟨g13, 0, none⟩) 1 1) [[97]] Hl1318 (by decide) (Lib.hid (by simp)) (Lib.hid (by rw [HTX.out]; decide)) (show n ≤ 4000 by omega) (show c + 2 ≤ n from HCN.out) (show l.length ≤ 90000 by have := HLL.out; omega) HQD.out (fun e j9 E A19 v21 w20 he ht hz => ?_)
    obtain ⟨rfl, rfl, rfl⟩ := pair3 ((HAP.out).symm.trans he)
    clear he
    have HB22 := Lib.hid (HB15.out.to ht)
    have HZ23 := Lib.hid (hz)
    have Hwant24 := Lib.hid (Hwant17.out.to ht)
    have Hl1325 := Lib.hid (Hl1318.out.to ht)
    clear HB15 HZ16 Hwant17 Hl1318
    clear ht hz
    clear Hl1325
    go_wp2_with fail
    refine open_z HB22 HZ23 (HQD.out) (HND.out) (fun e E A31 w32 he ht hz => ?_) (fun j9 E b28 v29 u30 A26 w27 he ht hz hj hl => ?_)
    rotate_left
    · have h9 := (HDO.out).symm.trans he
      cases h9
    obtain ⟨rfl, -, rfl⟩ := pair3 ((HDO.out).symm.trans he)
    clear he
    have HB33 := Lib.hid (HB22.out.to ht)
    have HZ34 := Lib.hid (hz)
    have Hwant35 := Lib.hid (Hwant24.out.to ht)
    clear HB22 HZ23 Hwant24
    clear ht hz
    go_wp2_with fail
    refine start_z HZ34 (fun A36 w37 ht hz => ?_)
    rw [HSD.out] at hz
    have HB38 := Lib.hid (HB33.out.to ht)
    have HZ39 := Lib.hid (hz)
    have Hwant40 := Lib.hid (Hwant35.out.to ht)
    clear HB33 HZ34 Hwant35
    clear ht hz
    go_wp2_with fail
    have HAP2 : Hid (Jn.append Dg.sum ⟨n, c, l, false⟩ D [[97]] = ((23, ⟨n, c, l, false⟩), D)) := Lib.hid (by unfold Jn.append; rw [if_neg (show ¬ false = true by decide), if_neg (by simp), if_pos]; rw [← HRM.out, HTX.out]; show 0 < 1; decide)
    obtain ⟨w41, hw41⟩ : ∃ W, W = w37.alloc (.cells #[.string ⟨#[97]⟩] 9) := ⟨_, rfl⟩
    obtain ⟨g42, hg42⟩ : ∃ g, g = w37.heap.size := ⟨_, rfl⟩
    rw [← hw41, ← hg42]
    have hqw41 : Chg [] w37 w41 := by rw [hw41]; exact (Chg.refl _ _).alloc _
    have hz43 : ∀ k ∈ A36, k < w37.heap.size := HZ39.out.lt
    have hl42 : Lst A36 w41 (.slice (some ⟨g42, 0, none⟩) 1 1) [[97]] := by rw [hw41, hg42]; exact lst_new hz43 (by rfl) rfl
    have HB44 := Lib.hid (HB38.out.to (To.quiet hqw41))
    have HZ45 := Lib.hid (HZ39.out.quiet hqw41)
    have Hwant46 := Lib.hid (Hwant40.out.to (To.quiet hqw41))
    clear HB38 HZ39 Hwant40
    have Hl4247 := Lib.hid (hl42)
    clear hl42 hqw41 hw41 hg42 hz43
    refine append_z HB44 HZ45 (.slice (some ⟨g42, 0, none⟩) 1 1) [[97]] Hl4247 (by decide) (Lib.hid (by simp)) (Lib.hid (by rw [HTX.out]; decide)) (show n ≤ 4000 by omega) (show c + 2 ≤ n from HCN.out) (show l.length ≤ 90000 by have := HLL.out; omega) HQ0.out (fun e j9 E A48 v50 w49 he ht hz => ?_)
    obtain ⟨rfl, rfl, rfl⟩ := pair3 ((HAP2.out).symm.trans he)
    clear he
    have HB51 := Lib.hid (HB44.out.to ht)
    have HZ52 := Lib.hid (hz)
    have Hwant53 := Lib.hid (Hwant46.out.to ht)
    have Hl4254 := Lib.hid (Hl4247.out.to ht)
    clear HB44 HZ45 Hwant46 Hl4247
    clear ht hz
    clear Hl4254
    go_wp2_with fail
    refine open_z HB51 HZ52 (HQ0.out) (HN0.out) (fun e E A60 w61 he ht hz => ?_) (fun j9 E b57 v58 u59 A55 w56 he ht hz hj hl => ?_)
    · have h9 := (HOP.out).symm.trans he
      cases h9
    obtain ⟨-, h8, rfl⟩ := pair3 ((HOP.out).symm.trans he)
    injection h8 with h8
    subst h8
    clear he
    have HB62 := Lib.hid (HB51.out.to ht)
    have HZ63 := Lib.hid (hz)
    have Hwant64 := Lib.hid (Hwant53.out.to ht)
    clear HB51 HZ52 Hwant53
    have HO6567 := Lib.hid (hl)
    obtain ⟨ao68, cap69, rfl⟩ := hl.1.form
    have HJ6670 : Hid (JB w.heap.size A55 w56 b57 p ⟨n, c, l, false⟩ v58) := Lib.hid (hj)
    clear ht hz hl hj
    clear HJ6670
    go_wp2_with fail
    refine same_z _ _ _ _ (Lib.hid (HO6567.out.lst)) (Lib.hid (Hwant64.out.lst)) (HLB.out) (HLB.out) (fun w71 hc => ?_)
    rw [decide_eq_true rfl]
    have HB72 := Lib.hid (HB62.out.to (To.quiet hc))
    have HZ73 := Lib.hid (HZ63.out.quiet hc)
    have Hwant74 := Lib.hid (Hwant64.out.to (To.quiet hc))
    have HO6575 := Lib.hid (HO6567.out.to (To.quiet hc))
    clear HB62 HZ63 Hwant64 HO6567
    clear hc
    go_wp2_with fail
    go_ret
    exact ⟨rfl, HB72.out.chg⟩
  · have HAP : Hid (Jn.append Dg.sum ⟨n, c, l, false⟩ DD [[97]] = ((24, ⟨n, c, l, true⟩), DD)) := Lib.hid (by rw [HDD.out, Jn.dead_append _ _ _ rfl, if_neg (by rw [← HRM.out]; exact hr0)])
    have z0 : ((rm : Int) == 0) = false := by rw [beq_eq_false_iff_ne]; omega
    clear hr0
    obtain ⟨w76, hw76⟩ : ∃ W, W = w8.alloc (.cells #[.string ⟨#[97]⟩] 9) := ⟨_, rfl⟩
    obtain ⟨g77, hg77⟩ : ∃ g, g = w8.heap.size := ⟨_, rfl⟩
    rw [← hw76, ← hg77]
    have hqw76 : Chg [] w8 w76 := by rw [hw76]; exact (Chg.refl _ _).alloc _
    have hz78 : ∀ k ∈ A7, k < w8.heap.size := HZ10.out.lt
    have hl77 : Lst A7 w76 (.slice (some ⟨g77, 0, none⟩) 1 1) [[97]] := by rw [hw76, hg77]; exact lst_new hz78 (by rfl) rfl
    have HB79 := Lib.hid (HB9.out.to (To.quiet hqw76))
    have HZ80 := Lib.hid (HZ10.out.quiet hqw76)
    have Hwant81 := Lib.hid (Hwant11.out.to (To.quiet hqw76))
    clear HB9 HZ10 Hwant11
    have Hl7782 := Lib.hid (hl77)
    clear hl77 hqw76 hw76 hg77 hz78
    refine append_z HB79 HZ80 (.slice (some ⟨g77, 0, none⟩) 1 1) [[97]] Hl7782 (by decide) (Lib.hid (by simp)) (Lib.hid (by rw [HTX.out]; decide)) (show n ≤ 4000 by omega) (show c + 2 ≤ n from HCN.out) (show l.length ≤ 90000 by have := HLL.out; omega) HQD.out (fun e j9 E A83 v85 w84 he ht hz => ?_)
    obtain ⟨rfl, rfl, rfl⟩ := pair3 ((HAP.out).symm.trans he)
    clear he
    have HB86 := Lib.hid (HB79.out.to ht)
    have HZ87 := Lib.hid (hz)
    have Hwant88 := Lib.hid (Hwant81.out.to ht)
    have Hl7789 := Lib.hid (Hl7782.out.to ht)
    clear HB79 HZ80 Hwant81 Hl7782
    clear ht hz
    clear Hl7789
    go_wp2_with fail
    refine open_z HB86 HZ87 (HQD.out) (HND.out) (fun e E A95 w96 he ht hz => ?_) (fun j9 E b92 v93 u94 A90 w91 he ht hz hj hl => ?_)
    rotate_left
    · have h9 := (HDO.out).symm.trans he
      cases h9
    obtain ⟨rfl, -, rfl⟩ := pair3 ((HDO.out).symm.trans he)
    clear he
    have HB97 := Lib.hid (HB86.out.to ht)
    have HZ98 := Lib.hid (hz)
    have Hwant99 := Lib.hid (Hwant88.out.to ht)
    clear HB86 HZ87 Hwant88
    clear ht hz
    go_wp2_with fail
    refine start_z HZ98 (fun A100 w101 ht hz => ?_)
    rw [HSD.out] at hz
    have HB102 := Lib.hid (HB97.out.to ht)
    have HZ103 := Lib.hid (hz)
    have Hwant104 := Lib.hid (Hwant99.out.to ht)
    clear HB97 HZ98 Hwant99
    clear ht hz
    go_wp2_with fail
    have HAP2 : Hid (Jn.append Dg.sum ⟨n, c, l, true⟩ D [[97]] = ((12, ⟨n, c, l, true⟩), D)) := Lib.hid (Jn.broken_append _ _ _ rfl _)
    obtain ⟨w105, hw105⟩ : ∃ W, W = w101.alloc (.cells #[.string ⟨#[97]⟩] 9) := ⟨_, rfl⟩
    obtain ⟨g106, hg106⟩ : ∃ g, g = w101.heap.size := ⟨_, rfl⟩
    rw [← hw105, ← hg106]
    have hqw105 : Chg [] w101 w105 := by rw [hw105]; exact (Chg.refl _ _).alloc _
    have hz107 : ∀ k ∈ A100, k < w101.heap.size := HZ103.out.lt
    have hl106 : Lst A100 w105 (.slice (some ⟨g106, 0, none⟩) 1 1) [[97]] := by rw [hw105, hg106]; exact lst_new hz107 (by rfl) rfl
    have HB108 := Lib.hid (HB102.out.to (To.quiet hqw105))
    have HZ109 := Lib.hid (HZ103.out.quiet hqw105)
    have Hwant110 := Lib.hid (Hwant104.out.to (To.quiet hqw105))
    clear HB102 HZ103 Hwant104
    have Hl106111 := Lib.hid (hl106)
    clear hl106 hqw105 hw105 hg106 hz107
    refine append_z HB108 HZ109 (.slice (some ⟨g106, 0, none⟩) 1 1) [[97]] Hl106111 (by decide) (Lib.hid (by simp)) (Lib.hid (by rw [HTX.out]; decide)) (show n ≤ 4000 by omega) (show c + 2 ≤ n from HCN.out) (show l.length ≤ 90000 by have := HLL.out; omega) HQ0.out (fun e j9 E A112 v114 w113 he ht hz => ?_)
    obtain ⟨rfl, rfl, rfl⟩ := pair3 ((HAP2.out).symm.trans he)
    clear he
    have HB115 := Lib.hid (HB108.out.to ht)
    have HZ116 := Lib.hid (hz)
    have Hwant117 := Lib.hid (Hwant110.out.to ht)
    have Hl106118 := Lib.hid (Hl106111.out.to ht)
    clear HB108 HZ109 Hwant110 Hl106111
    clear ht hz
    clear Hl106118
    go_wp2_with fail
    refine open_z HB115 HZ116 (HQ0.out) (HN0.out) (fun e E A124 w125 he ht hz => ?_) (fun j9 E b121 v122 u123 A119 w120 he ht hz hj hl => ?_)
    · have h9 := (HOP.out).symm.trans he
      cases h9
    obtain ⟨-, h8, rfl⟩ := pair3 ((HOP.out).symm.trans he)
    injection h8 with h8
    subst h8
    clear he
    have HB126 := Lib.hid (HB115.out.to ht)
    have HZ127 := Lib.hid (hz)
    have Hwant128 := Lib.hid (Hwant117.out.to ht)
    clear HB115 HZ116 Hwant117
    have HO129131 := Lib.hid (hl)
    obtain ⟨ao132, cap133, rfl⟩ := hl.1.form
    have HJ130134 : Hid (JB w.heap.size A119 w120 b121 p ⟨n, c, l, false⟩ v122) := Lib.hid (hj)
    clear ht hz hl hj
    clear HJ130134
    go_wp2_with fail
    refine records_z (j := ⟨n, c, l, true⟩) HB126 (Lib.hid HZ127.out.lt) (Lib.hid (HZ127.out.jr)) (HLB.out) (fun u136 w135 hl hc => ?_)
    have HB138 := Lib.hid (HB126.out.to (To.quiet hc))
    have HZ139 := Lib.hid (HZ127.out.quiet hc)
    have Hwant140 := Lib.hid (Hwant128.out.to (To.quiet hc))
    have HO129141 := Lib.hid (HO129131.out.to (To.quiet hc))
    clear HB126 HZ127 Hwant128 HO129131
    have Hr137142 := Lib.hid (hl)
    obtain ⟨ao143, cp144, rfl⟩ := hl.1.form
    clear hl hc
    try simp only []
    go_wp2_with fail
    refine same_z _ _ _ _ (Lib.hid (Hr137142.out.lst)) (Lib.hid (Hwant140.out.lst)) (HLB.out) (HLB.out) (fun w145 hc => ?_)
    rw [decide_eq_true rfl]
    have HB146 := Lib.hid (HB138.out.to (To.quiet hc))
    have HZ147 := Lib.hid (HZ139.out.quiet hc)
    have Hwant148 := Lib.hid (Hwant140.out.to (To.quiet hc))
    have HO129149 := Lib.hid (HO129141.out.to (To.quiet hc))
    have Hr137150 := Lib.hid (Hr137142.out.to (To.quiet hc))
    clear HB138 HZ139 Hwant140 HO129141 Hr137142
    clear hc
    go_wp2_with fail
    refine room_r (j := ⟨n, c, l, true⟩) (Lib.hid HZ147.out.jr) (show n ≤ 4000 by omega) HCN.out (fun w151 hc => ?_)
    have HB152 := Lib.hid (HB146.out.to (To.quiet hc))
    have HZ153 := Lib.hid (HZ147.out.quiet hc)
    have Hwant154 := Lib.hid (Hwant148.out.to (To.quiet hc))
    have HO129155 := Lib.hid (HO129149.out.to (To.quiet hc))
    have Hr137156 := Lib.hid (Hr137150.out.to (To.quiet hc))
    clear HB146 HZ147 Hwant148 HO129149 Hr137150
    clear hc
    rw [show Jn.room ⟨n, c, l, true⟩ = rm from HRM.out.symm]
    go_wp2_with fail
    refine same_z _ _ _ _ (Lib.hid (HO129155.out.lst)) (Lib.hid (Hwant154.out.lst)) (HLB.out) (HLB.out) (fun w157 hc => ?_)
    rw [decide_eq_true rfl]
    have HB158 := Lib.hid (HB152.out.to (To.quiet hc))
    have HZ159 := Lib.hid (HZ153.out.quiet hc)
    have Hwant160 := Lib.hid (Hwant154.out.to (To.quiet hc))
    have HO129161 := Lib.hid (HO129155.out.to (To.quiet hc))
    have Hr137162 := Lib.hid (Hr137156.out.to (To.quiet hc))
    clear HB152 HZ153 Hwant154 HO129155 Hr137156
    clear hc
    go_wp2_with fail
    go_ret
    exact ⟨rfl, HB158.out.chg⟩
end Go.Proofs.YtpmkgedlnanjiaaDoor
