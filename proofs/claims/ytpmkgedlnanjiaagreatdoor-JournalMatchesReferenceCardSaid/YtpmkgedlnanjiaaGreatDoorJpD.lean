/-
  Journal: the fixed examples of the statements hold.
-/
import Derived.Test.YtpmkgedlnanjiaaGreatDoorJpC
namespace Go.Proofs.YtpmkgedlnanjiaaGreatDoor
set_option linter.unusedVariables false
set_option linter.unusedSimpArgs false
set_option maxRecDepth 100000
open Go Go.RowKit
attribute [local irreducible] Go.wpStill
set_option maxHeartbeats 4000000 in
theorem head_r {w : World} (HL : Hid (Laid w)) {R : Ending → World → Prop} (h : ∀ w', Chg [] w w' → R (.returned (.bool true)) w') :
    Calls Tryz.prog 5 #[] w R := by
  have HRR := Lib.hid h
  clear h
  obtain ⟨E1, E2, hh⟩ := Jn.head6 Jn.dig_sum Dg.sum_one
  have HH := Lib.hid hh
  clear hh
  have HB0 : Hid (Base w w []) := Lib.hid ⟨Chg.refl _ _, by simp, HL.out⟩
  go_enter Tryz.func5, Tryz.ntmps5
  go_wp2_with fail
  refine new_d HB0 6 (by decide) (by decide) (fun p3 A1 w2 ht hd => ?_)
  have HB4 := Lib.hid (HB0.out.to ht)
  clear HB0
  have HD5 := Lib.hid (hd)
  clear ht hd
  go_wp2_with fail
  refine open_d HB4 HD5 (by decide) (by decide) (fun e E A9 w9 he ht hd => ?_) (fun j9 E b8 v9 u10 A6 w7 he ht hz hl => ?_)
  · have h9 := HH.out.o1.symm.trans he
    cases h9
  obtain ⟨-, h8, rfl⟩ := pair3 (HH.out.o1.symm.trans he)
  injection h8 with h8
  subst h8
  clear he
  clear HD5
  have HB11 := Lib.hid (HB4.out.to ht)
  clear HB4
  have HZ12 := Lib.hid (hz)
  obtain ⟨ao, cap, rfl⟩ := hl.1.form
  clear ht hz hl
  simp only [List.length_nil]
  go_wp2_with fail
  obtain ⟨w13, hw13⟩ : ∃ W, W = w7.alloc (.cells #[.string ⟨#[97]⟩, .string ⟨#[98, 99]⟩] 9) := ⟨_, rfl⟩
  obtain ⟨g14, hg14⟩ : ∃ g, g = w7.heap.size := ⟨_, rfl⟩
  rw [← hw13, ← hg14]
  have hqw13 : Chg [] w7 w13 := by rw [hw13]; exact (Chg.refl _ _).alloc _
  have hz15 : ∀ k ∈ A6, k < w7.heap.size := HZ12.out.lt
  have hl14 : Lst A6 w13 (.slice (some ⟨g14, 0, none⟩) 2 2) [[97], [98, 99]] := by rw [hw13, hg14]; exact lst_new hz15 (by rfl) rfl
  have HB16 := Lib.hid (HB11.out.to (To.quiet hqw13))
  have HZ17 := Lib.hid (HZ12.out.quiet hqw13)
  clear HB11 HZ12
  have Hl1418 := Lib.hid (hl14)
  clear hl14 hqw13 hw13 hg14 hz15
  refine append_z HB16 HZ17 (.slice (some ⟨g14, 0, none⟩) 2 2) [[97], [98, 99]] Hl1418 (by decide) (Lib.hid (by simp)) (Lib.hid (by rw [Jn.text2]; decide)) (by decide) (by decide) (by decide) (by decide) (fun e j9 E A19 v21 w20 he ht hz => ?_)
  obtain ⟨rfl, rfl, rfl⟩ := pair3 (HH.out.a1.symm.trans he)
  clear he
  have HB22 := Lib.hid (HB16.out.to ht)
  have HZ23 := Lib.hid (hz)
  have Hl1424 := Lib.hid (Hl1418.out.to ht)
  clear HB16 HZ17 Hl1418
  clear ht hz
  clear Hl1424
  go_wp2_with fail
  refine room_z HZ23 (by decide) (by decide) (fun w25 hc => ?_)
  rw [show Jn.room ⟨6, 1, [[97], [98, 99]], false⟩ = 3 from rfl]
  have HB26 := Lib.hid (HB22.out.to (To.quiet hc))
  have HZ27 := Lib.hid (HZ23.out.quiet hc)
  clear HB22 HZ23
  clear hc
  go_wp2_with fail
  refine text_r 200 (by decide) (fun w28 hc => ?_)
  have HB29 := Lib.hid (HB26.out.to (To.quiet hc))
  have HZ30 := Lib.hid (HZ27.out.quiet hc)
  clear HB26 HZ27
  clear hc
  obtain ⟨z31, hqz31⟩ : ∃ z : Bytes, z = List.replicate 200 0 := ⟨_, rfl⟩
  rw [← hqz31]
  have HQz31 := Lib.hid hqz31
  clear hqz31
  go_wp2_with fail
  obtain ⟨w32, hw32⟩ : ∃ W, W = w28.alloc (.cells #[.string ⟨z31.toArray⟩] 9) := ⟨_, rfl⟩
  obtain ⟨g33, hg33⟩ : ∃ g, g = w28.heap.size := ⟨_, rfl⟩
  rw [← hw32, ← hg33]
  have hqw32 : Chg [] w28 w32 := by rw [hw32]; exact (Chg.refl _ _).alloc _
  have hz34 : ∀ k ∈ A19, k < w28.heap.size := HZ30.out.lt
  have hl33 : Lst A19 w32 (.slice (some ⟨g33, 0, none⟩) 1 1) [z31] := by rw [hw32, hg33]; exact lst_new hz34 (by rfl) rfl
  have HB35 := Lib.hid (HB29.out.to (To.quiet hqw32))
  have HZ36 := Lib.hid (HZ30.out.quiet hqw32)
  clear HB29 HZ30
  have Hl3337 := Lib.hid (hl33)
  clear hl33 hqw32 hw32 hg33 hz34
  have ha2 : Jn.append Dg.sum ⟨6, 1, [[97], [98, 99]], false⟩ E1 [z31] = ((23, ⟨6, 1, [[97], [98, 99]], false⟩), E1) := by rw [HQz31.out]; exact HH.out.a2
  refine append_z HB35 HZ36 (.slice (some ⟨g33, 0, none⟩) 1 1) [z31] Hl3337 (by simp) (Lib.hid (by simp [HQz31.out])) (Lib.hid (by rw [HQz31.out, Jn.zeros_text]; have := Lib.itoa_length_le ((200 : Nat) : Int) (by omega) (by omega); omega)) (by decide) (by decide) (by decide) (by rw [HH.out.l1.q]; decide) (fun e j9 E A38 v40 w39 he ht hz => ?_)
  obtain ⟨rfl, rfl, rfl⟩ := pair3 (ha2.symm.trans he)
  clear he ha2
  have HB41 := Lib.hid (HB35.out.to ht)
  have HZ42 := Lib.hid (hz)
  have Hl3343 := Lib.hid (Hl3337.out.to ht)
  clear HB35 HZ36 Hl3337
  clear ht hz
  clear Hl3343
  go_wp2_with fail
  refine text_r 2001 (by decide) (fun w44 hc => ?_)
  have HB45 := Lib.hid (HB41.out.to (To.quiet hc))
  have HZ46 := Lib.hid (HZ42.out.quiet hc)
  clear HB41 HZ42
  clear hc
  obtain ⟨z47, hqz47⟩ : ∃ z : Bytes, z = List.replicate 2001 0 := ⟨_, rfl⟩
  rw [← hqz47]
  have HQz47 := Lib.hid hqz47
  clear hqz47
  go_wp2_with fail
  obtain ⟨w48, hw48⟩ : ∃ W, W = w44.alloc (.cells #[.string ⟨z47.toArray⟩] 9) := ⟨_, rfl⟩
  obtain ⟨g49, hg49⟩ : ∃ g, g = w44.heap.size := ⟨_, rfl⟩
  rw [← hw48, ← hg49]
  have hqw48 : Chg [] w44 w48 := by rw [hw48]; exact (Chg.refl _ _).alloc _
  have hz50 : ∀ k ∈ A38, k < w44.heap.size := HZ46.out.lt
  have hl49 : Lst A38 w48 (.slice (some ⟨g49, 0, none⟩) 1 1) [z47] := by rw [hw48, hg49]; exact lst_new hz50 (by rfl) rfl
  have HB51 := Lib.hid (HB45.out.to (To.quiet hqw48))
  have HZ52 := Lib.hid (HZ46.out.quiet hqw48)
  clear HB45 HZ46
  have Hl4953 := Lib.hid (hl49)
  clear hl49 hqw48 hw48 hg49 hz50
  have ha3 : Jn.append Dg.sum ⟨6, 1, [[97], [98, 99]], false⟩ E1 [z47] = ((3, ⟨6, 1, [[97], [98, 99]], false⟩), E1) := by rw [HQz47.out]; exact HH.out.a3
  refine append_z HB51 HZ52 (.slice (some ⟨g49, 0, none⟩) 1 1) [z47] Hl4953 (by simp) (Lib.hid (by simp [HQz47.out])) (Lib.hid (by rw [HQz47.out, Jn.zeros_text]; have := Lib.itoa_length_le ((2001 : Nat) : Int) (by omega) (by omega); omega)) (by decide) (by decide) (by decide) (by rw [HH.out.l1.q]; decide) (fun e j9 E A54 v56 w55 he ht hz => ?_)
  obtain ⟨rfl, rfl, rfl⟩ := pair3 (ha3.symm.trans he)
  clear he ha3
  have HB57 := Lib.hid (HB51.out.to ht)
  have HZ58 := Lib.hid (hz)
  have Hl4959 := Lib.hid (Hl4953.out.to ht)
  clear HB51 HZ52 Hl4953
  clear ht hz
  clear Hl4959
  go_wp2_with fail
  refine fail_z HZ58 (by rw [HH.out.l1.q]; decide) 0 0 (fun A60 w61 ht hz => ?_)
  have HB62 := Lib.hid (HB57.out.to ht)
  have HZ63 := Lib.hid (hz)
  clear HB57 HZ58
  clear ht hz
  go_wp2_with fail
  refine start_z HZ63 (fun A64 w65 ht hz => ?_)
  rw [HH.out.f1] at hz
  have HB66 := Lib.hid (HB62.out.to ht)
  have HZ67 := Lib.hid (hz)
  clear HB62 HZ63
  clear ht hz
  go_wp2_with fail
  refine open_z HB66 HZ67 (by rw [HH.out.l1.q]; decide) (by rw [HH.out.n1]; decide) (fun e E A73 w74 he ht hz => ?_) (fun j9 E b70 v71 u72 A68 w69 he ht hz hj hl => ?_)
  · have h9 := HH.out.o2.symm.trans he
    cases h9
  obtain ⟨-, h8, rfl⟩ := pair3 (HH.out.o2.symm.trans he)
  injection h8 with h8
  subst h8
  clear he
  have HB75 := Lib.hid (HB66.out.to ht)
  have HZ76 := Lib.hid (hz)
  clear HB66 HZ67
  have HOu7277 := Lib.hid (hl)
  obtain ⟨ao78, cap79, rfl⟩ := hl.1.form
  have HJb7080 : Hid (JB w.heap.size A68 w69 b70 p3 ⟨6, 1, [[97], [98, 99]], false⟩ v71) := Lib.hid (hj)
  clear ht hz hl hj
  simp only [List.length_cons, List.length_nil]
  go_wp2_with fail
  refine rot_z HZ76 0 5 1 (fun A81 w82 ht hz => ?_)
  have HB83 := Lib.hid (HB75.out.to ht)
  have HZ84 := Lib.hid (hz)
  have HOu7285 := Lib.hid (HOu7277.out.to ht)
  have HJb7086 := Lib.hid (HJb7080.out.to ht)
  clear HB75 HZ76 HOu7277 HJb7080
  clear ht hz
  go_wp2_with fail
  refine open_z HB83 HZ84 (by rw [Jn.rot_q, HH.out.l1.q]; decide) (by rw [DK.rot_n, HH.out.n1]; decide) (fun e E A92 w93 he ht hz => ?_) (fun j9 E b89 v90 u91 A87 w88 he ht hz hj hl => ?_)
  · have h9 := HH.out.o3.symm.trans he
    cases h9
  obtain ⟨-, h8, rfl⟩ := pair3 (HH.out.o3.symm.trans he)
  injection h8 with h8
  subst h8
  clear he
  have HB94 := Lib.hid (HB83.out.to ht)
  have HZ95 := Lib.hid (hz)
  have HOu7296 := Lib.hid (HOu7285.out.to ht)
  have HJb7097 := Lib.hid (HJb7086.out.to ht)
  clear HB83 HZ84 HOu7285 HJb7086
  have HOu9198 := Lib.hid (hl)
  obtain ⟨ao99, cap100, rfl⟩ := hl.1.form
  have HJb89101 : Hid (JB w.heap.size A87 w88 b89 p3 ⟨6, 1, [[97], [98, 99]], false⟩ v90) := Lib.hid (hj)
  clear ht hz hl hj
  simp only [List.length_cons, List.length_nil]
  clear HJb89101
  go_wp2_with fail
  refine rot_z HZ95 2 40 1 (fun A102 w103 ht hz => ?_)
  have HB104 := Lib.hid (HB94.out.to ht)
  have HZ105 := Lib.hid (hz)
  have HOu72106 := Lib.hid (HOu7296.out.to ht)
  have HJb70107 := Lib.hid (HJb7097.out.to ht)
  have HOu91108 := Lib.hid (HOu9198.out.to ht)
  clear HB94 HZ95 HOu7296 HJb7097 HOu9198
  clear ht hz
  go_wp2_with fail
  refine open_z HB104 HZ105 (by rw [Jn.rot_q, HH.out.q2]; decide) (by rw [DK.rot_n, HH.out.n2]; decide) (fun e E A114 w115 he ht hz => ?_) (fun j9 E b111 v112 u113 A109 w110 he ht hz hj hl => ?_)
  rotate_left
  · have h9 := HH.out.o4.symm.trans he
    cases h9
  obtain ⟨rfl, -, rfl⟩ := pair3 (HH.out.o4.symm.trans he)
  clear he
  have HB116 := Lib.hid (HB104.out.to ht)
  have HZ117 := Lib.hid (hz)
  have HOu72118 := Lib.hid (HOu72106.out.to ht)
  have HJb70119 := Lib.hid (HJb70107.out.to ht)
  have HOu91120 := Lib.hid (HOu91108.out.to ht)
  clear HB104 HZ105 HOu72106 HJb70107 HOu91108
  clear ht hz
  go_wp2_with fail
  clear HZ117
  have HB121 := Lib.hid (HB116.out.less (A' := []) (by simp))
  have HOu72122 := Lib.hid (HOu72118.out.less (A' := []) (by simp))
  have HJb70123 := Lib.hid (HJb70119.out.less (A' := []) (by simp))
  have HOu91124 := Lib.hid (HOu91120.out.less (A' := []) (by simp))
  clear HB116 HOu72118 HJb70119 HOu91120
  refine new_d HB121 2 (by decide) (by decide) (fun pp A125 w126 ht hd => ?_)
  have HB127 := Lib.hid (HB121.out.to ht)
  have HOu72128 := Lib.hid (HOu72122.out.to ht)
  have HJb70129 := Lib.hid (HJb70123.out.to ht)
  have HOu91130 := Lib.hid (HOu91124.out.to ht)
  clear HB121 HOu72122 HJb70123 HOu91124
  have HD131 := Lib.hid (hd)
  clear ht hd
  go_wp2_with fail
  refine open_d HB127 HD131 (by decide) (by decide) (fun e E A132 w133 he ht hd => ?_) (fun j9 E b9 v9 u9 A9 w9 he ht hz hl => ?_)
  rotate_left
  · have h9 := HH.out.o5.symm.trans he
    cases h9
  obtain ⟨rfl, -, rfl⟩ := pair3 (HH.out.o5.symm.trans he)
  clear he
  clear HD131
  have HB134 := Lib.hid (HB127.out.to ht)
  have HOu72135 := Lib.hid (HOu72128.out.to ht)
  have HJb70136 := Lib.hid (HJb70129.out.to ht)
  have HOu91137 := Lib.hid (HOu91130.out.to ht)
  clear HB127 HOu72128 HJb70129 HOu91130
  clear ht hd
  go_wp2_with fail
  have HB138 := Lib.hid (HB134.out.less (A' := []) (by simp))
  have HOu72139 := Lib.hid (HOu72135.out.less (A' := []) (by simp))
  have HJb70140 := Lib.hid (HJb70136.out.less (A' := []) (by simp))
  have HOu91141 := Lib.hid (HOu91137.out.less (A' := []) (by simp))
  clear HB134 HOu72135 HJb70136 HOu91137
  obtain ⟨w142, hw142⟩ : ∃ W, W = w133.alloc (.cells #[.string ⟨#[97]⟩, .string ⟨#[98, 99]⟩] 9) := ⟨_, rfl⟩
  obtain ⟨g143, hg143⟩ : ∃ g, g = w133.heap.size := ⟨_, rfl⟩
  rw [← hw142, ← hg143]
  have hqw142 : Chg [] w133 w142 := by rw [hw142]; exact (Chg.refl _ _).alloc _
  have hz144 : ∀ k ∈ ([] : List Nat), k < w133.heap.size := (fun k hk => by simp at hk)
  have hl143 : Lst [] w142 (.slice (some ⟨g143, 0, none⟩) 2 2) [[97], [98, 99]] := by rw [hw142, hg143]; exact lst_new hz144 (by rfl) rfl
  have HB145 := Lib.hid (HB138.out.to (To.quiet hqw142))
  have HOu72146 := Lib.hid (HOu72139.out.to (To.quiet hqw142))
  have HJb70147 := Lib.hid (HJb70140.out.to (To.quiet hqw142))
  have HOu91148 := Lib.hid (HOu91141.out.to (To.quiet hqw142))
  clear HB138 HOu72139 HJb70140 HOu91141
  have Hl143149 := Lib.hid (hl143)
  clear hl143 hqw142 hw142 hg143 hz144
  refine same_z _ _ _ _ (Lib.hid (HOu72146.out.lst)) (Lib.hid (Hl143149.out)) (by decide) (by decide) (fun w150 hc => ?_)
  rw [decide_eq_true rfl]
  have HB151 := Lib.hid (HB145.out.to (To.quiet hc))
  have HOu72152 := Lib.hid (HOu72146.out.to (To.quiet hc))
  have HJb70153 := Lib.hid (HJb70147.out.to (To.quiet hc))
  have HOu91154 := Lib.hid (HOu91148.out.to (To.quiet hc))
  have Hl143155 := Lib.hid (Hl143149.out.to (To.quiet hc))
  clear HB145 HOu72146 HJb70147 HOu91148 Hl143149
  clear hc
  go_wp2_with fail
  refine records_z (j := ⟨6, 1, [[97], [98, 99]], false⟩) HB151 (Lib.hid (by simp)) (Lib.hid HJb70153.out.1) (by decide) (fun u157 w156 hl hc => ?_)
  have HB158 := Lib.hid (HB151.out.to (To.quiet hc))
  have HOu72159 := Lib.hid (HOu72152.out.to (To.quiet hc))
  have HJb70160 := Lib.hid (HJb70153.out.to (To.quiet hc))
  have HOu91161 := Lib.hid (HOu91154.out.to (To.quiet hc))
  have Hl143162 := Lib.hid (Hl143155.out.to (To.quiet hc))
  clear HB151 HOu72152 HJb70153 HOu91154 Hl143155
  have HR163 := Lib.hid (hl)
  obtain ⟨ar, cr, rfl⟩ := hl.1.form
  clear hl hc
  simp only [List.length_cons, List.length_nil]
  go_wp2_with fail
  refine same_z _ _ _ _ (Lib.hid (HR163.out.lst)) (Lib.hid (HOu72159.out.lst)) (by decide) (by decide) (fun w164 hc => ?_)
  rw [decide_eq_true rfl]
  have HB165 := Lib.hid (HB158.out.to (To.quiet hc))
  have HOu72166 := Lib.hid (HOu72159.out.to (To.quiet hc))
  have HJb70167 := Lib.hid (HJb70160.out.to (To.quiet hc))
  have HOu91168 := Lib.hid (HOu91161.out.to (To.quiet hc))
  have Hl143169 := Lib.hid (Hl143162.out.to (To.quiet hc))
  have HR170 := Lib.hid (HR163.out.to (To.quiet hc))
  clear HB158 HOu72159 HJb70160 HOu91161 Hl143162 HR163
  clear hc
  go_wp2_with fail
  refine same_z _ _ _ _ (Lib.hid (HOu91168.out.lst)) (Lib.hid (HOu72166.out.lst)) (by decide) (by decide) (fun w171 hc => ?_)
  rw [decide_eq_true rfl]
  have HB172 := Lib.hid (HB165.out.to (To.quiet hc))
  have HOu72173 := Lib.hid (HOu72166.out.to (To.quiet hc))
  have HJb70174 := Lib.hid (HJb70167.out.to (To.quiet hc))
  have HOu91175 := Lib.hid (HOu91168.out.to (To.quiet hc))
  have Hl143176 := Lib.hid (Hl143169.out.to (To.quiet hc))
  have HR177 := Lib.hid (HR170.out.to (To.quiet hc))
  clear HB165 HOu72166 HJb70167 HOu91168 Hl143169 HR170
  clear hc
  go_wp2_with fail
  refine append_nil _ _ (fun w178 hc => ?_)
  have HB179 := Lib.hid (HB172.out.to (To.quiet hc))
  have HOu72180 := Lib.hid (HOu72173.out.to (To.quiet hc))
  have HJb70181 := Lib.hid (HJb70174.out.to (To.quiet hc))
  have HOu91182 := Lib.hid (HOu91175.out.to (To.quiet hc))
  have Hl143183 := Lib.hid (Hl143176.out.to (To.quiet hc))
  have HR184 := Lib.hid (HR177.out.to (To.quiet hc))
  clear HB172 HOu72173 HJb70174 HOu91175 Hl143176 HR177
  clear hc
  go_wp2_with fail
  exact HRR.out _ HB179.out.chg
end Go.Proofs.YtpmkgedlnanjiaaGreatDoor
