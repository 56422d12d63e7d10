/-
 Printer, the reference: a line.
-/
import Derived.Test.YtgbooiaedbpenaaDoorPrTk
import Derived.Test.YtgbooiaedbpenaaDoorPrTe
namespace Go.Proofs.YtgbooiaedbpenaaDoor
set_option linter.unusedVariables false
set_option linter.unusedSimpArgs false
open Go Go.RowKit Go.Shelf
attribute [local irreducible] Go.wpStill
def tGap8 : Bytes := [32, 103, 97, 112]
def tWheel8 : Bytes := [32, 119, 104, 101, 101, 108]
def tHidden8 : Bytes := [32, 104, 105, 100, 100, 101, 110]
def tBeside8 : Bytes := [32, 98, 101, 115, 105, 100, 101]
theorem nums1_len {x : Int} (h : Pr.numsOk [x] = true) : (Pr.nums [x]).length ≤ 22 := Pr.nums_len [x] (by
 intro q hq
 rw [List.mem_singleton] at hq
 rw [hq]
 have h2 := Pr.numOk_iff8.1 (by simpa [Pr.numsOk] using h)
 unfold Pr.I64
 omega)
theorem nums2_len {x y : Int} (h : Pr.numsOk [x, y] = true) : (Pr.nums [x, y]).length ≤ 44 := Pr.nums_len [x, y] (by
 intro q hq
 have h2 := Pr.numOk_iff8.1 (List.all_eq_true.1 h q hq)
 unfold Pr.I64
 omega)
set_option maxHeartbeats 8000000 in
set_option maxRecDepth 100000 in
theorem line8_r {w0 w : World} (HQ : Hid (Chg [] w0 w)) (r : Pr.Rw) (p : Option Addr) (k n : Nat) (HM : Hid (RdS 3 Pr.RMk w0 (.slice p n k) r.marks)) (bn : r.name.length ≤ 1000) (hn : n ≤ 9000) (HOK : Hid (Pr.rowOk r = true)) {R : Ending → World → Prop} (h : ∀ w', Chg [] w w' → R (.returned (.string ⟨(Pr.rowS r ++ [10]).toArray⟩)) w') :
 Calls Tryd.prog 49 #[.agg #[.string ⟨r.name.toArray⟩, .int .i64 r.x, .int .i64 r.y, .int .i64 r.f, .int .i64 r.t, .int .i64 r.step, .slice p n k, .int .i64 r.at_]] w R := by
 have HRR := hd h
 clear h
 obtain ⟨hk1, hr1, hn1⟩ := HM.out.cp
 have HN := hd hn1
 clear hn1
 have HNR : Hid (Pr.numsOk [r.x, r.y, r.f, r.t, r.step] = true) := hd (by have h9 := HOK.out; simp only [Pr.rowOk, Bool.and_eq_true] at h9; exact h9.2.1)
 have HMK : Hid (r.marks.all Pr.markOk = true) := hd (by have h9 := HOK.out; simp only [Pr.rowOk, Bool.and_eq_true] at h9; exact h9.2.2)
 have HR4 : Hid (Pr.numsOk [r.x, r.y] = true ∧ Pr.numsOk [r.f] = true ∧ Pr.numsOk [r.t] = true ∧ Pr.numsOk [r.step] = true) := hd (by have h9 := HNR.out; simp only [Pr.numsOk, List.all_cons, List.all_nil, Bool.and_true, Bool.and_eq_true] at h9 ⊢; exact ⟨⟨h9.1, h9.2.1⟩, h9.2.2.1, h9.2.2.2.1, h9.2.2.2.2⟩)
 go_enter Tryd.func49, Tryd.ntmps49
 go_upto_region 1 with (fail)
 obtain ⟨w1, hw⟩ : ∃ W, W = w.alloc (.cells #[.string ⟨r.name.toArray⟩, .int .i64 r.x, .int .i64 r.y, .int .i64 r.f, .int .i64 r.t, .int .i64 r.step, .slice p n k, .int .i64 r.at_] 40) := ⟨_, rfl⟩
 rw [← hw]
 obtain ⟨M, hX⟩ : ∃ X, X = w.heap.size := ⟨_, rfl⟩
 rw [← hX]
 have HMB : Hid (Blk w1 M [.string ⟨r.name.toArray⟩, .int .i64 r.x, .int .i64 r.y, .int .i64 r.f, .int .i64 r.t, .int .i64 r.step, .slice p n k, .int .i64 r.at_] 40) := hd (by rw [hw, hX]; exact Blk.new w [.string ⟨r.name.toArray⟩, .int .i64 r.x, .int .i64 r.y, .int .i64 r.f, .int .i64 r.t, .int .i64 r.step, .slice p n k, .int .i64 r.at_] _)
 have C1 : Hid (Chg [] w w1) := hd (by rw [hw]; exact (Chg.refl _ _).alloc _)
 clear hw hX
 obtain ⟨s0, vs0⟩ : ∃ z, z = Pr.tRow ++ r.name ++ Pr.tAt := ⟨_, rfl⟩
 obtain ⟨a1, va1⟩ : ∃ z, z = s0 ++ Pr.nums [r.x, r.y] := ⟨_, rfl⟩
 obtain ⟨c2, vc2⟩ : ∃ z, z = Pr.tSeats ++ Pr.nums [r.f] := ⟨_, rfl⟩
 obtain ⟨a2, va2⟩ : ∃ z, z = a1 ++ c2 := ⟨_, rfl⟩
 obtain ⟨c3, vc3⟩ : ∃ z, z = Pr.tTo ++ Pr.nums [r.t] := ⟨_, rfl⟩
 obtain ⟨a3, va3⟩ : ∃ z, z = a2 ++ c3 := ⟨_, rfl⟩
 obtain ⟨c4, vc4⟩ : ∃ z, z = Pr.tStep ++ Pr.nums [r.step] := ⟨_, rfl⟩
 obtain ⟨a4, va4⟩ : ∃ z, z = a3 ++ c4 := ⟨_, rfl⟩
 have b0 : s0.length ≤ 1100 := by rw [vs0, List.length_append, List.length_append]; show 4 + _ + 3 ≤ _; omega
 have b1 : a1.length ≤ 1200 := by have := nums2_len HR4.out.1; rw [va1, List.length_append]; omega
 have mc2 : c2.length ≤ 100 := by have := nums1_len HR4.out.2.1; rw [vc2, List.length_append]; show 6 + _ ≤ _; omega
 have b2 : a2.length ≤ 1300 := by rw [va2, List.length_append]; omega
 have mc3 : c3.length ≤ 100 := by have := nums1_len HR4.out.2.2.1; rw [vc3, List.length_append]; show 3 + _ ≤ _; omega
 have b3 : a3.length ≤ 1400 := by rw [va3, List.length_append]; omega
 have mc4 : c4.length ≤ 100 := by have := nums1_len HR4.out.2.2.2; rw [vc4, List.length_append]; show 5 + _ ≤ _; omega
 have b4 : a4.length ≤ 1500 := by rw [va4, List.length_append]; omega
 have HCC : Hid (LinC r s0 a1 c2 a2 c3 a3 c4 a4) := hd ⟨b0, va1, b1, vc2, mc2, va2, b2, vc3, mc3, va3, b3, vc4, mc4, va4, b4, hd HR4.out.1, hd HR4.out.2.1, hd HR4.out.2.2.1, hd HR4.out.2.2.2⟩
 have HS0 := hd vs0
 clear vs0 va1 vc2 va2 vc3 va3 vc4 va4 b0 b1 b2 b3 b4 mc2 mc3 mc4
 refine wp_region_held_drew (S := fun W' => Chg [] w1 W') (by kernel_rfl) (Chg.refl _ _).drew (fun hHeld => ?_)
 obtain ⟨wd, hwd⟩ : ∃ x, x = w1.drew := ⟨_, rfl⟩
 rw [← hwd] at hHeld ⊢
 clear hwd
 have g1 : ¬ 9223372036854775807 < 4 + r.name.length := by omega
 have g2 : ¬ 9223372036854775807 < 4 + r.name.length + 3 := by omega
 refine tk 0 ?va0 ?hya0 ?rsa0
 case hya0 => (intro w9 hSw; go_simp; try with_reducible rfl)
 try simp only [qq]
 refine tk 1 ?va1 ?hya1 ?rsa1
 case hya1 => (intro w9 hSw; have e0 := cell_quiet hSw (HMB.out.cell (i := 0) rfl) (by simp); go_simp; try with_reducible rfl)
 try simp only [qq]
 refine tk 2 ?va2 ?hya2 ?rsa2
 case hya2 => (intro w9 hSw; go_simp; try with_reducible rfl)
 try simp only [qq]
 rw [show (⟨#[114, 111, 119, 32]⟩ : ByteArray) ++ ⟨r.name.toArray⟩ = ⟨(Pr.tRow ++ r.name).toArray⟩ from str2 _ _]
 have gz : (⟨(Pr.tRow ++ r.name).toArray⟩ : ByteArray).size = 4 + r.name.length := by rw [size_of9, List.length_append]; rfl
 refine tk 3 ?va3 ?hya3 ?rsa3
 case hya3 => (intro w9 hSw; go_simp; try with_reducible rfl)
 try simp only [qq]
 rw [show (⟨(Pr.tRow ++ r.name).toArray⟩ : ByteArray) ++ ⟨#[32, 97, 116]⟩ = ⟨s0.toArray⟩ from by rw [HS0.out]; exact str2 _ _]
 clear g1 g2 gz
 refine tk 4 ?va4 ?hya4 ?rsa4
 case hya4 => (intro w9 hSw; go_simp; try with_reducible rfl)
 try simp only [qq]
 refine tk 5 ?va5 ?hya5 ?rsa5
 case hya5 => (intro w9 hSw; have e1 := cell_quiet hSw (HMB.out.cell (i := 1) rfl) (by simp); go_simp; try with_reducible rfl)
 try simp only [qq]
 refine tk 6 ?va6 ?hya6 ?rsa6
 case hya6 => (intro w9 hSw; go_simp; try with_reducible rfl)
 try simp only [qq]
 refine tk 7 ?va7 ?hya7 ?rsa7
 case hya7 => (intro w9 hSw; have e2 := cell_quiet hSw (HMB.out.cell (i := 2) rfl) (by simp); go_simp; try with_reducible rfl)
 try simp only [qq]
 refine tk 10 ?va10 ?hya10 ?rsa10
 case hya10 => (intro w9 hSw; go_simp; try with_reducible rfl)
 try simp only [qq]
 refine tk 11 ?va11 ?hya11 ?rsa11
 case hya11 => (intro w9 hSw; have e3 := cell_quiet hSw (HMB.out.cell (i := 3) rfl) (by simp); go_simp; try with_reducible rfl)
 try simp only [qq]
 refine tk 15 ?va15 ?hya15 ?rsa15
 case hya15 => (intro w9 hSw; go_simp; try with_reducible rfl)
 try simp only [qq]
 refine tk 16 ?va16 ?hya16 ?rsa16
 case hya16 => (intro w9 hSw; have e4 := cell_quiet hSw (HMB.out.cell (i := 4) rfl) (by simp); go_simp; try with_reducible rfl)
 try simp only [qq]
 refine tk 20 ?va20 ?hya20 ?rsa20
 case hya20 => (intro w9 hSw; go_simp; try with_reducible rfl)
 try simp only [qq]
 refine tk 21 ?va21 ?hya21 ?rsa21
 case hya21 => (intro w9 hSw; have e5 := cell_quiet hSw (HMB.out.cell (i := 5) rfl) (by simp); go_simp; try with_reducible rfl)
 try simp only [qq]
 refine name3 (fun O Q0 A0 hO hQ hA => ?_)
 have hO2 : Hid (LinO O) := hd (by rw [hO.out]; unfold LinO; kernel_rfl)
 have st4_0123 : Hid (LinS4_0123 w1 r O Q0 A0 s0 a1 c2 a2 c3 a3 c4 a4) := hd (by
  unfold LinS4_0123
  intro w2 X0 X1 X2 X3 HC2
  rw [hO.out, hQ.out, hA.out]
  try simp only [qq]
  refine tk 25 ?vzz25 ?hyzz25 ?rszz25
  case hyzz25 => (intro w9 hSw; go_simp; try with_reducible rfl)
  try simp only [qq]
  refine wpAnyH_done (by kernel_rfl) ?_ _
  try simp only [qq]
  clear hO hQ hA hO2 hHeld
  go_wp2_with fail
  go_loopw [3, 4] (fun s i wr => ∃ (j : Nat) (acc : Bytes), i = .int .i64 (j : Int) ∧ s = .string ⟨acc.toArray⟩ ∧ j ≤ n ∧ Hid (acc = Pr.rowH r ++ (r.marks.take j).flatMap Pr.markS ∧ acc.length ≤ 1500 + 100 * j) ∧ Hid (Chg [] w1 wr)) (fun _ i _ => n - intN i)
  case atStart => exact ⟨0, a4, rfl, rfl, Nat.zero_le _, hd ⟨by rw [HCC.out.f4, HCC.out.f3, HCC.out.f2, HCC.out.e1, HCC.out.e2, HCC.out.e3, HCC.out.e4, HS0.out]; simp [Pr.rowH], HCC.out.l4⟩, HC2⟩
  case round =>
   obtain ⟨j, acc, rfl, rfl, hj, HAC, HC⟩ := hrel
   have x6 := (HC.out.blk HMB.out (by simp)).cell (i := 6) rfl
   have la := HAC.out.2
   by_cases hlt : j < n
   · skip
     have z0 : (0 : Int) ≤ (j : Int) := by omega
     have z1 : (j : Int) < (n : Int) := by omega
     have z2 : (j : Int) ≤ (k : Int) := by omega
     have HQR : Hid (Chg [] w0 wr) := hd ((HQ.out.trans C1.out (by simp)).trans HC.out (by simp))
     obtain ⟨m, g, og, cs, hx, ha, -, ⟨hcs, -⟩, hcc⟩ := HM.out.at_ HQR.out (j := j) (by rw [HN.out]; exact hlt)
     subst ha
     have y0 : wr.cell? ⟨g, og + j * 3, none⟩ = some (.int .i64 m.kind) := by have h9 := hcc 0 _ (by rw [hcs]; rfl); simpa [Pr.iv, Pr.sv] using h9
     have y1 : wr.cell? ⟨g, og + j * 3 + 1, none⟩ = some (.int .i64 m.seat) := by have h9 := hcc 1 _ (by rw [hcs]; rfl); simpa [Pr.iv, Pr.sv] using h9
     have y2 : wr.cell? ⟨g, og + j * 3 + 2, none⟩ = some (.int .i64 m.w) := by have h9 := hcc 2 _ (by rw [hcs]; rfl); simpa [Pr.iv, Pr.sv] using h9
     have HMO : Hid (Pr.markOk m = true) := hd (List.all_eq_true.1 HMK.out m (List.mem_of_getElem? hx))
     have HTK : Hid (r.marks.take (j + 1) = r.marks.take j ++ [m]) := hd (by obtain ⟨h1, rfl⟩ := List.getElem?_eq_some_iff.1 hx; exact List.take_succ_eq_append_getElem h1)
     have h4 : (m.kind = 1 ∨ m.kind = 2 ∨ m.kind = 3 ∨ m.kind = 4) ∧ Pr.numsOk [m.seat] = true ∧ Pr.numsOk [m.w] = true := by have h9 := HMO.out; simp only [Pr.markOk, Bool.and_eq_true, decide_eq_true_eq] at h9; exact ⟨by omega, by simp [Pr.numsOk, h9.2.2.2.1], by simp [Pr.numsOk, h9.2.2.2.2]⟩
     have HN1 := hd h4.2.1
     have HN2 := hd h4.2.2
     have hk := h4.1
     clear hx hcs hcc h4
     go_upto_region 6 with (fail)
     obtain ⟨w4, hw⟩ : ∃ W, W = wr.alloc (.cells #[.int .i64 m.kind, .int .i64 m.seat, .int .i64 m.w] 66) := ⟨_, rfl⟩
     rw [← hw]
     obtain ⟨D, hX⟩ : ∃ X, X = wr.heap.size := ⟨_, rfl⟩
     rw [← hX]
     have HD : Hid (Blk w4 D [.int .i64 m.kind, .int .i64 m.seat, .int .i64 m.w] 66) := hd (by rw [hw, hX]; exact Blk.new wr [.int .i64 m.kind, .int .i64 m.seat, .int .i64 m.w] _)
     have C4 : Hid (Chg [] wr w4) := hd (by rw [hw]; exact (Chg.refl _ _).alloc _)
     clear hw hX
     clear y0 y1 y2 x6
     have C14 : Hid (Chg [] w1 w4) := hd (HC.out.trans C4.out (by simp))
     have d0 := HD.out.cell (i := 0) rfl
     have d1 := HD.out.cell (i := 1) rfl
     have d2 := HD.out.cell (i := 2) rfl
     rcases hk with hk | hk | hk | hk
     · rw [hk] at d0
       have HKD := hd hk
       clear hk
       go_wp2_with fail
       refine words8_r tGap8 (by decide) [m.seat] 1 ⟨rfl, by decide⟩ HN1 (hd (Blk.new w4 [.int .i64 m.seat] 3)) ?_
       obtain ⟨w5, hw⟩ : ∃ W, W = w4.alloc (.cells #[.int .i64 m.seat] 3) := ⟨_, rfl⟩
       rw [← hw]
       have CE : Hid (Chg [] w4 w5) := hd (by rw [hw]; exact (Chg.refl _ _).alloc _)
       have C15 : Hid (Chg [] w1 w5) := hd (C14.out.trans CE.out (by simp))
       clear hw d0 d1 d2
       obtain ⟨c, hc⟩ : ∃ z, z = tGap8 ++ Pr.nums [m.seat] := ⟨_, rfl⟩
       rw [← hc]
       have HCV := hd hc
       have lc : c.length ≤ 40 := by have := nums1_len HN1.out; rw [hc, List.length_append]; show 4 + _ ≤ _; omega
       clear hc
       have g1 : ¬ 9223372036854775807 < acc.length + c.length := by omega
       go_wp2_with fail
       go_roundw
       case rel => exact ⟨j + 1, acc ++ c, vint (by omega), by rw [str2], by omega, hd ⟨by rw [HTK.out, HAC.out.1, HCV.out, List.flatMap_append, List.flatMap_singleton, Pr.markS_n (by rw [HKD.out]; decide), HKD.out, List.append_assoc]; rfl, by rw [List.length_append]; omega⟩, C15⟩
       case measure => simp [intN]; omega
     · rw [hk] at d0
       have HKD := hd hk
       clear hk
       go_wp2_with fail
       refine words8_r tWheel8 (by decide) [m.seat] 1 ⟨rfl, by decide⟩ HN1 (hd (Blk.new w4 [.int .i64 m.seat] 3)) ?_
       obtain ⟨w5, hw⟩ : ∃ W, W = w4.alloc (.cells #[.int .i64 m.seat] 3) := ⟨_, rfl⟩
       rw [← hw]
       have CE : Hid (Chg [] w4 w5) := hd (by rw [hw]; exact (Chg.refl _ _).alloc _)
       have C15 : Hid (Chg [] w1 w5) := hd (C14.out.trans CE.out (by simp))
       clear hw d0 d1 d2
       obtain ⟨c, hc⟩ : ∃ z, z = tWheel8 ++ Pr.nums [m.seat] := ⟨_, rfl⟩
       rw [← hc]
       have HCV := hd hc
       have lc : c.length ≤ 40 := by have := nums1_len HN1.out; rw [hc, List.length_append]; show 6 + _ ≤ _; omega
       clear hc
       have g1 : ¬ 9223372036854775807 < acc.length + c.length := by omega
       go_wp2_with fail
       go_roundw
       case rel => exact ⟨j + 1, acc ++ c, vint (by omega), by rw [str2], by omega, hd ⟨by rw [HTK.out, HAC.out.1, HCV.out, List.flatMap_append, List.flatMap_singleton, Pr.markS_n (by rw [HKD.out]; decide), HKD.out, List.append_assoc]; rfl, by rw [List.length_append]; omega⟩, C15⟩
       case measure => simp [intN]; omega
     · rw [hk] at d0
       have HKD := hd hk
       clear hk
       go_wp2_with fail
       refine words8_r tHidden8 (by decide) [m.seat] 1 ⟨rfl, by decide⟩ HN1 (hd (Blk.new w4 [.int .i64 m.seat] 3)) ?_
       obtain ⟨w5, hw⟩ : ∃ W, W = w4.alloc (.cells #[.int .i64 m.seat] 3) := ⟨_, rfl⟩
       rw [← hw]
       have CE : Hid (Chg [] w4 w5) := hd (by rw [hw]; exact (Chg.refl _ _).alloc _)
       have C15 : Hid (Chg [] w1 w5) := hd (C14.out.trans CE.out (by simp))
       clear hw d0 d1 d2
       obtain ⟨c, hc⟩ : ∃ z, z = tHidden8 ++ Pr.nums [m.seat] := ⟨_, rfl⟩
       rw [← hc]
       have HCV := hd hc
       have lc : c.length ≤ 40 := by have := nums1_len HN1.out; rw [hc, List.length_append]; show 7 + _ ≤ _; omega
       clear hc
       have g1 : ¬ 9223372036854775807 < acc.length + c.length := by omega
       go_wp2_with fail
       go_roundw
       case rel => exact ⟨j + 1, acc ++ c, vint (by omega), by rw [str2], by omega, hd ⟨by rw [HTK.out, HAC.out.1, HCV.out, List.flatMap_append, List.flatMap_singleton, Pr.markS_n (by rw [HKD.out]; decide), HKD.out, List.append_assoc]; rfl, by rw [List.length_append]; omega⟩, C15⟩
       case measure => simp [intN]; omega
     · rw [hk] at d0
       have HKD := hd hk
       clear hk
       go_upto_region 7 with (fail)
       obtain ⟨c1, hc1⟩ : ∃ z, z = tBeside8 ++ Pr.nums [m.seat] := ⟨_, rfl⟩
       have HV1 := hd hc1
       have lc1 : c1.length ≤ 40 := by have := nums1_len HN1.out; rw [hc1, List.length_append]; show 7 + _ ≤ _; omega
       obtain ⟨c5, hc5⟩ : ∃ z, z = Pr.tOf ++ Pr.nums [m.w] := ⟨_, rfl⟩
       have HV5 := hd hc5
       have lc5 : c5.length ≤ 40 := by have := nums1_len HN2.out; rw [hc5, List.length_append]; show 3 + _ ≤ _; omega
       obtain ⟨e, he⟩ : ∃ z, z = c1 ++ c5 := ⟨_, rfl⟩
       have HVE := hd he
       have le : e.length ≤ 80 := by rw [he, List.length_append]; omega
       clear hc1 hc5 he
       have g1 : ¬ 9223372036854775807 < c1.length + c5.length := by omega
       have g2 : ¬ 9223372036854775807 < acc.length + e.length := by omega
       refine wp_region_held_drew (S := fun W' => Chg [] w4 W') (by kernel_rfl) (Chg.refl _ _).drew (fun hHeld => ?_)
       obtain ⟨we, hwe⟩ : ∃ x, x = w4.drew := ⟨_, rfl⟩
       rw [← hwe] at hHeld ⊢
       clear hwe
       refine tk 0 ?vb0 ?hyb0 ?rsb0
       case hyb0 => (intro w9 hSw; go_simp; try with_reducible rfl)
       try simp only [qq]
       refine tk 1 ?vb1 ?hyb1 ?rsb1
       case hyb1 => (intro w9 hSw; go_simp; try with_reducible rfl)
       try simp only [qq]
       refine tk 2 ?vb2 ?hyb2 ?rsb2
       case hyb2 => (intro w9 hSw; have d1 := cell_quiet hSw d1 (by simp); go_simp; try with_reducible rfl)
       try simp only [qq]
       refine tk 5 ?vb5 ?hyb5 ?rsb5
       case hyb5 => (intro w9 hSw; go_simp; try with_reducible rfl)
       try simp only [qq]
       refine tk 6 ?vb6 ?hyb6 ?rsb6
       case hyb6 => (intro w9 hSw; have d2 := cell_quiet hSw d2 (by simp); go_simp; try with_reducible rfl)
       try simp only [qq]
       refine rd2 3 7 (fun K hK => ?_) (fun K hK => ?_)
       · go_simp
         have HB3 : Hid (Blk (we.alloc (.cells #[.int .i64 m.seat] 3)) we.heap.size [.int .i64 m.seat] 3) := hd (Blk.new we [.int .i64 m.seat] _)
         obtain ⟨we3, hw⟩ : ∃ W, W = we.alloc (.cells #[.int .i64 m.seat] 3) := ⟨_, rfl⟩
         have CE : Hid (Chg [] we we3) := hd (by rw [hw]; exact (Chg.refl _ _).alloc _)
         rw [← hw] at HB3 ⊢
         clear hw
         refine hK.out _ _ (hHeld.trans CE.out (by simp)) (fun hHeld => ?_)
         clear hK K
         try simp only [qq]
         refine rd2 4 7 (fun K hK => ?_) (fun K hK => ?_)
         · go_simp
           refine words8_r tBeside8 (by decide) [m.seat] 1 ⟨rfl, by decide⟩ HN1 HB3 ?_
           refine hK.out _ _ hHeld (fun hHeld => ?_)
           clear hK K
           try simp only [qq]
           rw [← HV1.out]
           refine rd1 7 (fun K hK => ?_)
           · go_simp
             have HB7 : Hid (Blk (we3.alloc (.cells #[.int .i64 m.w] 3)) we3.heap.size [.int .i64 m.w] 3) := hd (Blk.new we3 [.int .i64 m.w] _)
             obtain ⟨we37, hw⟩ : ∃ W, W = we3.alloc (.cells #[.int .i64 m.w] 3) := ⟨_, rfl⟩
             have CE : Hid (Chg [] we3 we37) := hd (by rw [hw]; exact (Chg.refl _ _).alloc _)
             rw [← hw] at HB7 ⊢
             clear hw
             have HB3 := hd (CE.out.blk HB3.out (by simp))
             refine hK.out _ _ (hHeld.trans CE.out (by simp)) (fun hHeld => ?_)
             clear hK K
             try simp only [qq]
             refine rd1 8 (fun K hK => ?_)
             · go_simp
               refine words8_r Pr.tOf (by decide) [m.w] 1 ⟨rfl, by decide⟩ HN2 HB7 ?_
               refine hK.out _ _ hHeld (fun hHeld => ?_)
               clear hK K
               try simp only [qq]
               rw [← HV5.out]
               refine tk 9 ?vc19 ?hyc19 ?rsc19
               case hyc19 => (intro w9 hSw; go_simp; try with_reducible rfl)
               try simp only [qq]
               rw [str2, ← HVE.out]
               refine tk 10 ?vc110 ?hyc110 ?rsc110
               case hyc110 => (intro w9 hSw; go_simp; try with_reducible rfl)
               try simp only [qq]
               rw [str2]
               refine tk 11 ?vc111 ?hyc111 ?rsc111
               case hyc111 => (intro w9 hSw; go_simp; try with_reducible rfl)
               try simp only [qq]
               refine wpAnyH_done (by kernel_rfl) ?_ _
               try simp only [qq]
               have C16 : Hid (Chg [] w1 we37) := hd (C14.out.trans hHeld (by simp))
               clear hHeld d0 d1 d2 g1 g2
               go_wp2_with fail
               go_roundw
               case rel => exact ⟨j + 1, acc ++ e, vint (by omega), rfl, by omega, hd ⟨by rw [HTK.out, HAC.out.1, HVE.out, HV1.out, HV5.out, List.flatMap_append, List.flatMap_singleton, Pr.markS_4 HKD.out, HKD.out]; simp only [List.append_assoc]; rfl, by rw [List.length_append]; omega⟩, C16⟩
               case measure => simp [intN]; omega
         · go_simp
           have HB7 : Hid (Blk (we3.alloc (.cells #[.int .i64 m.w] 3)) we3.heap.size [.int .i64 m.w] 3) := hd (Blk.new we3 [.int .i64 m.w] _)
           obtain ⟨we37, hw⟩ : ∃ W, W = we3.alloc (.cells #[.int .i64 m.w] 3) := ⟨_, rfl⟩
           have CE : Hid (Chg [] we3 we37) := hd (by rw [hw]; exact (Chg.refl _ _).alloc _)
           rw [← hw] at HB7 ⊢
           clear hw
           have HB3 := hd (CE.out.blk HB3.out (by simp))
           refine hK.out _ _ (hHeld.trans CE.out (by simp)) (fun hHeld => ?_)
           clear hK K
           try simp only [qq]
           refine rd1 4 (fun K hK => ?_)
           · go_simp
             refine words8_r tBeside8 (by decide) [m.seat] 1 ⟨rfl, by decide⟩ HN1 HB3 ?_
             refine hK.out _ _ hHeld (fun hHeld => ?_)
             clear hK K
             try simp only [qq]
             rw [← HV1.out]
             refine rd1 8 (fun K hK => ?_)
             · go_simp
               refine words8_r Pr.tOf (by decide) [m.w] 1 ⟨rfl, by decide⟩ HN2 HB7 ?_
               refine hK.out _ _ hHeld (fun hHeld => ?_)
               clear hK K
               try simp only [qq]
               rw [← HV5.out]
               refine tk 9 ?vc29 ?hyc29 ?rsc29
               case hyc29 => (intro w9 hSw; go_simp; try with_reducible rfl)
               try simp only [qq]
               rw [str2, ← HVE.out]
               refine tk 10 ?vc210 ?hyc210 ?rsc210
               case hyc210 => (intro w9 hSw; go_simp; try with_reducible rfl)
               try simp only [qq]
               rw [str2]
               refine tk 11 ?vc211 ?hyc211 ?rsc211
               case hyc211 => (intro w9 hSw; go_simp; try with_reducible rfl)
               try simp only [qq]
               refine wpAnyH_done (by kernel_rfl) ?_ _
               try simp only [qq]
               have C16 : Hid (Chg [] w1 we37) := hd (C14.out.trans hHeld (by simp))
               clear hHeld d0 d1 d2 g1 g2
               go_wp2_with fail
               go_roundw
               case rel => exact ⟨j + 1, acc ++ e, vint (by omega), rfl, by omega, hd ⟨by rw [HTK.out, HAC.out.1, HVE.out, HV1.out, HV5.out, List.flatMap_append, List.flatMap_singleton, Pr.markS_4 HKD.out, HKD.out]; simp only [List.append_assoc]; rfl, by rw [List.length_append]; omega⟩, C16⟩
               case measure => simp [intN]; omega
       · go_simp
         have HB7 : Hid (Blk (we.alloc (.cells #[.int .i64 m.w] 3)) we.heap.size [.int .i64 m.w] 3) := hd (Blk.new we [.int .i64 m.w] _)
         obtain ⟨we7, hw⟩ : ∃ W, W = we.alloc (.cells #[.int .i64 m.w] 3) := ⟨_, rfl⟩
         have CE : Hid (Chg [] we we7) := hd (by rw [hw]; exact (Chg.refl _ _).alloc _)
         rw [← hw] at HB7 ⊢
         clear hw
         refine hK.out _ _ (hHeld.trans CE.out (by simp)) (fun hHeld => ?_)
         clear hK K
         try simp only [qq]
         refine rd1 3 (fun K hK => ?_)
         · go_simp
           have HB3 : Hid (Blk (we7.alloc (.cells #[.int .i64 m.seat] 3)) we7.heap.size [.int .i64 m.seat] 3) := hd (Blk.new we7 [.int .i64 m.seat] _)
           obtain ⟨we73, hw⟩ : ∃ W, W = we7.alloc (.cells #[.int .i64 m.seat] 3) := ⟨_, rfl⟩
           have CE : Hid (Chg [] we7 we73) := hd (by rw [hw]; exact (Chg.refl _ _).alloc _)
           rw [← hw] at HB3 ⊢
           clear hw
           have HB7 := hd (CE.out.blk HB7.out (by simp))
           refine hK.out _ _ (hHeld.trans CE.out (by simp)) (fun hHeld => ?_)
           clear hK K
           try simp only [qq]
           refine rd1 4 (fun K hK => ?_)
           · go_simp
             refine words8_r tBeside8 (by decide) [m.seat] 1 ⟨rfl, by decide⟩ HN1 HB3 ?_
             refine hK.out _ _ hHeld (fun hHeld => ?_)
             clear hK K
             try simp only [qq]
             rw [← HV1.out]
             refine rd1 8 (fun K hK => ?_)
             · go_simp
               refine words8_r Pr.tOf (by decide) [m.w] 1 ⟨rfl, by decide⟩ HN2 HB7 ?_
               refine hK.out _ _ hHeld (fun hHeld => ?_)
               clear hK K
               try simp only [qq]
               rw [← HV5.out]
               refine tk 9 ?vc39 ?hyc39 ?rsc39
               case hyc39 => (intro w9 hSw; go_simp; try with_reducible rfl)
               try simp only [qq]
               rw [str2, ← HVE.out]
               refine tk 10 ?vc310 ?hyc310 ?rsc310
               case hyc310 => (intro w9 hSw; go_simp; try with_reducible rfl)
               try simp only [qq]
               rw [str2]
               refine tk 11 ?vc311 ?hyc311 ?rsc311
               case hyc311 => (intro w9 hSw; go_simp; try with_reducible rfl)
               try simp only [qq]
               refine wpAnyH_done (by kernel_rfl) ?_ _
               try simp only [qq]
               have C16 : Hid (Chg [] w1 we73) := hd (C14.out.trans hHeld (by simp))
               clear hHeld d0 d1 d2 g1 g2
               go_wp2_with fail
               go_roundw
               case rel => exact ⟨j + 1, acc ++ e, vint (by omega), rfl, by omega, hd ⟨by rw [HTK.out, HAC.out.1, HVE.out, HV1.out, HV5.out, List.flatMap_append, List.flatMap_singleton, Pr.markS_4 HKD.out, HKD.out]; simp only [List.append_assoc]; rfl, by rw [List.length_append]; omega⟩, C16⟩
               case measure => simp [intN]; omega
   · skip
     have z1 : ¬ (j : Int) < (n : Int) := by omega
     have g1 : ¬ 9223372036854775807 < acc.length + 2 := by omega
     have HE : Hid (acc ++ [59, 10] = Pr.rowS r ++ [10]) := hd (by have h9 := HAC.out.1; rw [List.take_of_length_le (by rw [HN.out]; omega)] at h9; rw [h9]; simp [Pr.rowS, Pr.tSemi])
     go_wp2_with fail
     rw [show (⟨acc.toArray⟩ : ByteArray) ++ ⟨#[59, 10]⟩ = ⟨(acc ++ [59, 10]).toArray⟩ from str2 _ _, HE.out]
     exact HRR.out wr (C1.out.trans HC.out (by simp)))
 have HPQ : Hid (∀ c a d x w, Q0 (.panic c) (a.put d x) w → Q0 (.panic c) a w) := hd (by rw [hQ.out]; intro c a d x w h; cases d <;> exact h)
 clear hQ
 obtain ⟨y, hA⟩ := LinA_of hA
 have st3_0123 := lins3_0123 HCC.out hO2 HPQ hA st4_0123
 have st3_012 := lins3_012 HCC.out hO2 HPQ hA st3_0123
 have st2_0123 := lins2_0123 HCC.out hO2 HPQ hA st3_0123
 have st2_012 := lins2_012 HCC.out hO2 HPQ hA st3_012 st2_0123
 have st2_013 := lins2_013 HCC.out hO2 HPQ hA st2_0123
 have st2_01 := lins2_01 HCC.out hO2 HPQ hA st2_012 st2_013
 have st1_0123 := lins1_0123 HCC.out hO2 HPQ hA st2_0123
 have st1_012 := lins1_012 HCC.out hO2 HPQ hA st2_012 st1_0123
 have st1_013 := lins1_013 HCC.out hO2 HPQ hA st2_013 st1_0123
 have st1_023 := lins1_023 HCC.out hO2 HPQ hA st1_0123
 have st1_01 := lins1_01 HCC.out hO2 HPQ hA st2_01 st1_012 st1_013
 have st1_02 := lins1_02 HCC.out hO2 HPQ hA st1_012 st1_023
 have st1_03 := lins1_03 HCC.out hO2 HPQ hA st1_013 st1_023
 have st1_0 := lins1_0 HCC.out hO2 HPQ hA st1_01 st1_02 st1_03
 have st0_0123 := lins0_0123 HCC.out hO2 HPQ hA st1_0123
 have st0_012 := lins0_012 HCC.out hO2 HPQ hA st1_012 st0_0123
 have st0_013 := lins0_013 HCC.out hO2 HPQ hA st1_013 st0_0123
 have st0_023 := lins0_023 HCC.out hO2 HPQ hA st1_023 st0_0123
 have st0_123 := lins0_123 HCC.out hO2 HPQ hA st0_0123
 have st0_01 := lins0_01 HCC.out hO2 HPQ hA st1_01 st0_012 st0_013
 have st0_02 := lins0_02 HCC.out hO2 HPQ hA st1_02 st0_012 st0_023
 have st0_03 := lins0_03 HCC.out hO2 HPQ hA st1_03 st0_013 st0_023
 have st0_12 := lins0_12 HCC.out hO2 HPQ hA st0_012 st0_123
 have st0_13 := lins0_13 HCC.out hO2 HPQ hA st0_013 st0_123
 have st0_23 := lins0_23 HCC.out hO2 HPQ hA st0_023 st0_123
 have st0_0 := lins0_0 HCC.out hO2 HPQ hA st1_0 st0_01 st0_02 st0_03
 have st0_1 := lins0_1 HCC.out hO2 HPQ hA st0_01 st0_12 st0_13
 have st0_2 := lins0_2 HCC.out hO2 HPQ hA st0_02 st0_12 st0_23
 have st0_3 := lins0_3 HCC.out hO2 HPQ hA st0_03 st0_13 st0_23
 have st0_ := lins0_ HCC.out hO2 HPQ hA st0_0 st0_1 st0_2 st0_3
 exact st0_.out wd (hd hHeld)
end Go.Proofs.YtgbooiaedbpenaaDoor
