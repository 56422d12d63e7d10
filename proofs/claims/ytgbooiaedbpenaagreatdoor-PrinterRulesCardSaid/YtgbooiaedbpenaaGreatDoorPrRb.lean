/-
 Printer, layer 11: rows, the other states of its first region.
-/
import Derived.Test.YtgbooiaedbpenaaGreatDoorPrTk
import Derived.Test.YtgbooiaedbpenaaGreatDoorPrRa
namespace Go.Proofs.YtgbooiaedbpenaaGreatDoor
set_option linter.unusedVariables false
set_option linter.unusedSimpArgs false
open Go Go.RowKit Go.Shelf
attribute [local irreducible] Go.wpStill
variable {T : TypeId} {b deep M : Nat} {w0 w1 : World} {bad : Bool} {out : Bytes} {v : Value} {r : Pr.Rw} {O : Array Oper} {Q0 : Exit → Act → World → Prop} {A0 : Act} {y : Nat → Value}
set_option maxHeartbeats 40000000 in
set_option maxRecDepth 100000 in
theorem rows1_1234 (C : RowC w0 b w1 r) (hO : Hid (RowO O)) (HPQ : Hid (∀ c a d x w, Q0 (.panic c) (a.put d x) w → Q0 (.panic c) a w)) (hA : Hid (A0 = RowA b M r y)) (st2_1234 : Hid (RowS2_1234 T b deep w1 bad out v r O Q0 A0)) : Hid (RowS1_1234 T b deep w1 bad out v r O Q0 A0) := hd (by
 have HL := C.HL
 have HB0 := C.HB0
 have HQ1 := C.HQ1
 have HRI := C.HRI
 have HRN := C.HRN
 clear C
 unfold RowS1_1234
 have hlit := hO.out
 unfold RowO at hlit
 simp only [Tryz.f61, findR, Option.getD, if_true, if_false, Nat.reduceEqDiff] at hlit
 injection hlit with hlit
 have HLIT := hd hlit
 clear hlit hO
 intro w2 d13 d14 X1 X2 X3 X4 a HW2 HC2 HA HX1 HX2 HX3 HX4
 rw [← HLIT.out, hA.out]
 unfold RowA
 try simp only [qq]
 refine rd1 16 (fun K hK => ?_)
 · go_simp
   refine numbers_r HL HB0 (hd ((HQ1.out.since HC2.out HB0.out))) HW2 [r.x, r.y] 2 ⟨rfl, by decide⟩ (by intro q hq; simp only [List.mem_cons, List.not_mem_nil, or_false] at hq; rcases hq with rfl | rfl; exact HRI.out.1; exact HRI.out.2.1) HX1.out.1 HX1.out.2 (fun w3 h3 h4 => ?_)
   have HW3 := hd h3
   have HC3 : Hid (Chg [b] w1 w3) := hd (HC2.out.trans h4 (fun q hq => .inl hq))
   have H34 := hd h4
   refine hK.out _ _ HC3.out (fun hHeld => ?_)
   clear hK K h3 h4
   try simp only [qq]
   have gn : (Pr.nums [r.x, r.y]).length ≤ 44 := Pr.nums_len [r.x, r.y] (by intro q hq; simp only [List.mem_cons, List.not_mem_nil, or_false] at hq; rcases hq with rfl | rfl; exact HRI.out.1; exact HRI.out.2.1)
   obtain ⟨nn, hnn⟩ : ∃ nn, nn = Pr.nums [r.x, r.y] := ⟨_, rfl⟩
   rw [← hnn] at gn
   rw [← hnn]
   have HNN := hd hnn
   clear hnn
   have gl := HA.out.2
   have g1 : ¬ 9223372036854775807 < a.length + nn.length := by omega
   refine tk 17 ?vn123417 ?hyn123417 ?rsn123417 (hQ := fun _ _ _ h => HPQ.out _ _ _ _ _ h)
   case hyn123417 => (intro w9 hSw; go_simp; try with_reducible rfl)
   try simp only [qq]
   rw [str2]
   have gz : (⟨(a ++ nn).toArray⟩ : ByteArray).size = a.length + nn.length := by rw [size_of9, List.length_append]
   have g2 : ¬ 9223372036854775807 < a.length + nn.length + 6 := by omega
   refine tk 18 ?vm123418 ?hym123418 ?rsm123418 (hQ := fun _ _ _ h => HPQ.out _ _ _ _ _ h)
   case hym123418 => (intro w9 hSw; go_simp; try with_reducible rfl)
   try simp only [qq]
   rw [show (⟨(a ++ nn).toArray⟩ : ByteArray) ++ ⟨#[32, 115, 101, 97, 116, 115]⟩ = ⟨(a ++ nn ++ Pr.tSeats).toArray⟩ from str2 _ _]
   have z := st2_1234.out w3 d13 d14 (.string ⟨a.toArray⟩) (.string ⟨(nn).toArray⟩) (.string ⟨(a ++ nn).toArray⟩) X1 X2 X3 X4 (a ++ nn ++ Pr.tSeats) HW3 HC3 (hd ⟨by rw [HA.out.1, HNN.out], by rw [List.length_append, List.length_append]; show _ + 6 ≤ _; omega⟩) (hd ⟨H34.out.blk HX2.out.1 (by simp [HX2.out.2]), HX2.out.2⟩) (hd ⟨H34.out.blk HX3.out.1 (by simp [HX3.out.2]), HX3.out.2⟩) (hd ⟨H34.out.blk HX4.out.1 (by simp [HX4.out.2]), HX4.out.2⟩)
   rw [← HLIT.out, hA.out] at z
   try simp only [qq]
   exact wpAnyH_act (by kernel_rfl) z)
set_option maxHeartbeats 40000000 in
set_option maxRecDepth 100000 in
theorem rows1_123 (C : RowC w0 b w1 r) (hO : Hid (RowO O)) (HPQ : Hid (∀ c a d x w, Q0 (.panic c) (a.put d x) w → Q0 (.panic c) a w)) (hA : Hid (A0 = RowA b M r y)) (st2_123 : Hid (RowS2_123 T b deep w1 bad out v r O Q0 A0)) (st1_1234 : Hid (RowS1_1234 T b deep w1 bad out v r O Q0 A0)) : Hid (RowS1_123 T b deep w1 bad out v r O Q0 A0) := hd (by
 have HL := C.HL
 have HB0 := C.HB0
 have HQ1 := C.HQ1
 have HRI := C.HRI
 have HRN := C.HRN
 clear C
 unfold RowS1_123
 have hlit := hO.out
 unfold RowO at hlit
 simp only [Tryz.f61, findR, Option.getD, if_true, if_false, Nat.reduceEqDiff] at hlit
 injection hlit with hlit
 have HLIT := hd hlit
 clear hlit hO
 intro w2 d13 d14 X1 X2 X3 a HW2 HC2 HA HX1 HX2 HX3
 rw [← HLIT.out, hA.out]
 unfold RowA
 try simp only [qq]
 refine rd2 16 42 (fun K hK => ?_) (fun K hK => ?_)
 · go_simp
   refine numbers_r HL HB0 (hd ((HQ1.out.since HC2.out HB0.out))) HW2 [r.x, r.y] 2 ⟨rfl, by decide⟩ (by intro q hq; simp only [List.mem_cons, List.not_mem_nil, or_false] at hq; rcases hq with rfl | rfl; exact HRI.out.1; exact HRI.out.2.1) HX1.out.1 HX1.out.2 (fun w3 h3 h4 => ?_)
   have HW3 := hd h3
   have HC3 : Hid (Chg [b] w1 w3) := hd (HC2.out.trans h4 (fun q hq => .inl hq))
   have H34 := hd h4
   refine hK.out _ _ HC3.out (fun hHeld => ?_)
   clear hK K h3 h4
   try simp only [qq]
   have gn : (Pr.nums [r.x, r.y]).length ≤ 44 := Pr.nums_len [r.x, r.y] (by intro q hq; simp only [List.mem_cons, List.not_mem_nil, or_false] at hq; rcases hq with rfl | rfl; exact HRI.out.1; exact HRI.out.2.1)
   obtain ⟨nn, hnn⟩ : ∃ nn, nn = Pr.nums [r.x, r.y] := ⟨_, rfl⟩
   rw [← hnn] at gn
   rw [← hnn]
   have HNN := hd hnn
   clear hnn
   have gl := HA.out.2
   have g1 : ¬ 9223372036854775807 < a.length + nn.length := by omega
   refine tk 17 ?vn12317 ?hyn12317 ?rsn12317 (hQ := fun _ _ _ h => HPQ.out _ _ _ _ _ h)
   case hyn12317 => (intro w9 hSw; go_simp; try with_reducible rfl)
   try simp only [qq]
   rw [str2]
   have gz : (⟨(a ++ nn).toArray⟩ : ByteArray).size = a.length + nn.length := by rw [size_of9, List.length_append]
   have g2 : ¬ 9223372036854775807 < a.length + nn.length + 6 := by omega
   refine tk 18 ?vm12318 ?hym12318 ?rsm12318 (hQ := fun _ _ _ h => HPQ.out _ _ _ _ _ h)
   case hym12318 => (intro w9 hSw; go_simp; try with_reducible rfl)
   try simp only [qq]
   rw [show (⟨(a ++ nn).toArray⟩ : ByteArray) ++ ⟨#[32, 115, 101, 97, 116, 115]⟩ = ⟨(a ++ nn ++ Pr.tSeats).toArray⟩ from str2 _ _]
   have z := st2_123.out w3 d13 d14 (.string ⟨a.toArray⟩) (.string ⟨(nn).toArray⟩) (.string ⟨(a ++ nn).toArray⟩) X1 X2 X3 (a ++ nn ++ Pr.tSeats) HW3 HC3 (hd ⟨by rw [HA.out.1, HNN.out], by rw [List.length_append, List.length_append]; show _ + 6 ≤ _; omega⟩) (hd ⟨H34.out.blk HX2.out.1 (by simp [HX2.out.2]), HX2.out.2⟩) (hd ⟨H34.out.blk HX3.out.1 (by simp [HX3.out.2]), HX3.out.2⟩)
   rw [← HLIT.out, hA.out] at z
   try simp only [qq]
   exact wpAnyH_act (by kernel_rfl) z
 · go_simp
   obtain ⟨w3, hw3⟩ : ∃ W, W = w2.alloc (.cells #[.int .i64 r.step] 3) := ⟨_, rfl⟩
   rw [← hw3]
   obtain ⟨Y, hY⟩ : ∃ X, X = w2.heap.size := ⟨_, rfl⟩
   rw [← hY]
   have HY : Hid (Blk w3 Y [.int .i64 r.step] 3 ∧ Y ≠ b) := hd ⟨by rw [hw3, hY]; exact Blk.new w2 [.int .i64 r.step] _, by have := HW2.out.lt; omega⟩
   have C3 : Hid (Chg [] w2 w3) := hd (by rw [hw3]; exact (Chg.refl _ _).alloc _)
   have HC3 : Hid (Chg [b] w1 w3) := hd (HC2.out.trans C3.out (by simp))
   have HW3 := hd (HW2.out.quiet C3.out)
   refine hK.out _ _ HC3.out (fun hHeld => ?_)
   clear hK K hw3 hY
   have z := st1_1234.out w3 d13 d14 X1 X2 X3 Y a HW3 HC3 HA (hd ⟨C3.out.blk HX1.out.1 (by simp), HX1.out.2⟩) (hd ⟨C3.out.blk HX2.out.1 (by simp), HX2.out.2⟩) (hd ⟨C3.out.blk HX3.out.1 (by simp), HX3.out.2⟩) HY
   rw [← HLIT.out, hA.out] at z
   try simp only [qq]
   exact wpAnyH_act (by kernel_rfl) z)
set_option maxHeartbeats 40000000 in
set_option maxRecDepth 100000 in
theorem rows1_124 (C : RowC w0 b w1 r) (hO : Hid (RowO O)) (HPQ : Hid (∀ c a d x w, Q0 (.panic c) (a.put d x) w → Q0 (.panic c) a w)) (hA : Hid (A0 = RowA b M r y)) (st2_124 : Hid (RowS2_124 T b deep w1 bad out v r O Q0 A0)) (st1_1234 : Hid (RowS1_1234 T b deep w1 bad out v r O Q0 A0)) : Hid (RowS1_124 T b deep w1 bad out v r O Q0 A0) := hd (by
 have HL := C.HL
 have HB0 := C.HB0
 have HQ1 := C.HQ1
 have HRI := C.HRI
 have HRN := C.HRN
 clear C
 unfold RowS1_124
 have hlit := hO.out
 unfold RowO at hlit
 simp only [Tryz.f61, findR, Option.getD, if_true, if_false, Nat.reduceEqDiff] at hlit
 injection hlit with hlit
 have HLIT := hd hlit
 clear hlit hO
 intro w2 d13 d14 X1 X2 X4 a HW2 HC2 HA HX1 HX2 HX4
 rw [← HLIT.out, hA.out]
 unfold RowA
 try simp only [qq]
 refine rd2 16 33 (fun K hK => ?_) (fun K hK => ?_)
 · go_simp
   refine numbers_r HL HB0 (hd ((HQ1.out.since HC2.out HB0.out))) HW2 [r.x, r.y] 2 ⟨rfl, by decide⟩ (by intro q hq; simp only [List.mem_cons, List.not_mem_nil, or_false] at hq; rcases hq with rfl | rfl; exact HRI.out.1; exact HRI.out.2.1) HX1.out.1 HX1.out.2 (fun w3 h3 h4 => ?_)
   have HW3 := hd h3
   have HC3 : Hid (Chg [b] w1 w3) := hd (HC2.out.trans h4 (fun q hq => .inl hq))
   have H34 := hd h4
   refine hK.out _ _ HC3.out (fun hHeld => ?_)
   clear hK K h3 h4
   try simp only [qq]
   have gn : (Pr.nums [r.x, r.y]).length ≤ 44 := Pr.nums_len [r.x, r.y] (by intro q hq; simp only [List.mem_cons, List.not_mem_nil, or_false] at hq; rcases hq with rfl | rfl; exact HRI.out.1; exact HRI.out.2.1)
   obtain ⟨nn, hnn⟩ : ∃ nn, nn = Pr.nums [r.x, r.y] := ⟨_, rfl⟩
   rw [← hnn] at gn
   rw [← hnn]
   have HNN := hd hnn
   clear hnn
   have gl := HA.out.2
   have g1 : ¬ 9223372036854775807 < a.length + nn.length := by omega
   refine tk 17 ?vn12417 ?hyn12417 ?rsn12417 (hQ := fun _ _ _ h => HPQ.out _ _ _ _ _ h)
   case hyn12417 => (intro w9 hSw; go_simp; try with_reducible rfl)
   try simp only [qq]
   rw [str2]
   have gz : (⟨(a ++ nn).toArray⟩ : ByteArray).size = a.length + nn.length := by rw [size_of9, List.length_append]
   have g2 : ¬ 9223372036854775807 < a.length + nn.length + 6 := by omega
   refine tk 18 ?vm12418 ?hym12418 ?rsm12418 (hQ := fun _ _ _ h => HPQ.out _ _ _ _ _ h)
   case hym12418 => (intro w9 hSw; go_simp; try with_reducible rfl)
   try simp only [qq]
   rw [show (⟨(a ++ nn).toArray⟩ : ByteArray) ++ ⟨#[32, 115, 101, 97, 116, 115]⟩ = ⟨(a ++ nn ++ Pr.tSeats).toArray⟩ from str2 _ _]
   have z := st2_124.out w3 d13 d14 (.string ⟨a.toArray⟩) (.string ⟨(nn).toArray⟩) (.string ⟨(a ++ nn).toArray⟩) X1 X2 X4 (a ++ nn ++ Pr.tSeats) HW3 HC3 (hd ⟨by rw [HA.out.1, HNN.out], by rw [List.length_append, List.length_append]; show _ + 6 ≤ _; omega⟩) (hd ⟨H34.out.blk HX2.out.1 (by simp [HX2.out.2]), HX2.out.2⟩) (hd ⟨H34.out.blk HX4.out.1 (by simp [HX4.out.2]), HX4.out.2⟩)
   rw [← HLIT.out, hA.out] at z
   try simp only [qq]
   exact wpAnyH_act (by kernel_rfl) z
 · go_simp
   obtain ⟨w3, hw3⟩ : ∃ W, W = w2.alloc (.cells #[.int .i64 r.t] 3) := ⟨_, rfl⟩
   rw [← hw3]
   obtain ⟨Y, hY⟩ : ∃ X, X = w2.heap.size := ⟨_, rfl⟩
   rw [← hY]
   have HY : Hid (Blk w3 Y [.int .i64 r.t] 3 ∧ Y ≠ b) := hd ⟨by rw [hw3, hY]; exact Blk.new w2 [.int .i64 r.t] _, by have := HW2.out.lt; omega⟩
   have C3 : Hid (Chg [] w2 w3) := hd (by rw [hw3]; exact (Chg.refl _ _).alloc _)
   have HC3 : Hid (Chg [b] w1 w3) := hd (HC2.out.trans C3.out (by simp))
   have HW3 := hd (HW2.out.quiet C3.out)
   refine hK.out _ _ HC3.out (fun hHeld => ?_)
   clear hK K hw3 hY
   have z := st1_1234.out w3 d13 d14 X1 X2 Y X4 a HW3 HC3 HA (hd ⟨C3.out.blk HX1.out.1 (by simp), HX1.out.2⟩) (hd ⟨C3.out.blk HX2.out.1 (by simp), HX2.out.2⟩) HY (hd ⟨C3.out.blk HX4.out.1 (by simp), HX4.out.2⟩)
   rw [← HLIT.out, hA.out] at z
   try simp only [qq]
   exact wpAnyH_act (by kernel_rfl) z)
set_option maxHeartbeats 40000000 in
set_option maxRecDepth 100000 in
theorem rows1_134 (C : RowC w0 b w1 r) (hO : Hid (RowO O)) (HPQ : Hid (∀ c a d x w, Q0 (.panic c) (a.put d x) w → Q0 (.panic c) a w)) (hA : Hid (A0 = RowA b M r y)) (st2_134 : Hid (RowS2_134 T b deep w1 bad out v r O Q0 A0)) (st1_1234 : Hid (RowS1_1234 T b deep w1 bad out v r O Q0 A0)) : Hid (RowS1_134 T b deep w1 bad out v r O Q0 A0) := hd (by
 have HL := C.HL
 have HB0 := C.HB0
 have HQ1 := C.HQ1
 have HRI := C.HRI
 have HRN := C.HRN
 clear C
 unfold RowS1_134
 have hlit := hO.out
 unfold RowO at hlit
 simp only [Tryz.f61, findR, Option.getD, if_true, if_false, Nat.reduceEqDiff] at hlit
 injection hlit with hlit
 have HLIT := hd hlit
 clear hlit hO
 intro w2 d13 d14 X1 X3 X4 a HW2 HC2 HA HX1 HX3 HX4
 rw [← HLIT.out, hA.out]
 unfold RowA
 try simp only [qq]
 refine rd2 16 24 (fun K hK => ?_) (fun K hK => ?_)
 · go_simp
   refine numbers_r HL HB0 (hd ((HQ1.out.since HC2.out HB0.out))) HW2 [r.x, r.y] 2 ⟨rfl, by decide⟩ (by intro q hq; simp only [List.mem_cons, List.not_mem_nil, or_false] at hq; rcases hq with rfl | rfl; exact HRI.out.1; exact HRI.out.2.1) HX1.out.1 HX1.out.2 (fun w3 h3 h4 => ?_)
   have HW3 := hd h3
   have HC3 : Hid (Chg [b] w1 w3) := hd (HC2.out.trans h4 (fun q hq => .inl hq))
   have H34 := hd h4
   refine hK.out _ _ HC3.out (fun hHeld => ?_)
   clear hK K h3 h4
   try simp only [qq]
   have gn : (Pr.nums [r.x, r.y]).length ≤ 44 := Pr.nums_len [r.x, r.y] (by intro q hq; simp only [List.mem_cons, List.not_mem_nil, or_false] at hq; rcases hq with rfl | rfl; exact HRI.out.1; exact HRI.out.2.1)
   obtain ⟨nn, hnn⟩ : ∃ nn, nn = Pr.nums [r.x, r.y] := ⟨_, rfl⟩
   rw [← hnn] at gn
   rw [← hnn]
   have HNN := hd hnn
   clear hnn
   have gl := HA.out.2
   have g1 : ¬ 9223372036854775807 < a.length + nn.length := by omega
   refine tk 17 ?vn13417 ?hyn13417 ?rsn13417 (hQ := fun _ _ _ h => HPQ.out _ _ _ _ _ h)
   case hyn13417 => (intro w9 hSw; go_simp; try with_reducible rfl)
   try simp only [qq]
   rw [str2]
   have gz : (⟨(a ++ nn).toArray⟩ : ByteArray).size = a.length + nn.length := by rw [size_of9, List.length_append]
   have g2 : ¬ 9223372036854775807 < a.length + nn.length + 6 := by omega
   refine tk 18 ?vm13418 ?hym13418 ?rsm13418 (hQ := fun _ _ _ h => HPQ.out _ _ _ _ _ h)
   case hym13418 => (intro w9 hSw; go_simp; try with_reducible rfl)
   try simp only [qq]
   rw [show (⟨(a ++ nn).toArray⟩ : ByteArray) ++ ⟨#[32, 115, 101, 97, 116, 115]⟩ = ⟨(a ++ nn ++ Pr.tSeats).toArray⟩ from str2 _ _]
   have z := st2_134.out w3 d13 d14 (.string ⟨a.toArray⟩) (.string ⟨(nn).toArray⟩) (.string ⟨(a ++ nn).toArray⟩) X1 X3 X4 (a ++ nn ++ Pr.tSeats) HW3 HC3 (hd ⟨by rw [HA.out.1, HNN.out], by rw [List.length_append, List.length_append]; show _ + 6 ≤ _; omega⟩) (hd ⟨H34.out.blk HX3.out.1 (by simp [HX3.out.2]), HX3.out.2⟩) (hd ⟨H34.out.blk HX4.out.1 (by simp [HX4.out.2]), HX4.out.2⟩)
   rw [← HLIT.out, hA.out] at z
   try simp only [qq]
   exact wpAnyH_act (by kernel_rfl) z
 · go_simp
   obtain ⟨w3, hw3⟩ : ∃ W, W = w2.alloc (.cells #[.int .i64 r.f] 3) := ⟨_, rfl⟩
   rw [← hw3]
   obtain ⟨Y, hY⟩ : ∃ X, X = w2.heap.size := ⟨_, rfl⟩
   rw [← hY]
   have HY : Hid (Blk w3 Y [.int .i64 r.f] 3 ∧ Y ≠ b) := hd ⟨by rw [hw3, hY]; exact Blk.new w2 [.int .i64 r.f] _, by have := HW2.out.lt; omega⟩
   have C3 : Hid (Chg [] w2 w3) := hd (by rw [hw3]; exact (Chg.refl _ _).alloc _)
   have HC3 : Hid (Chg [b] w1 w3) := hd (HC2.out.trans C3.out (by simp))
   have HW3 := hd (HW2.out.quiet C3.out)
   refine hK.out _ _ HC3.out (fun hHeld => ?_)
   clear hK K hw3 hY
   have z := st1_1234.out w3 d13 d14 X1 Y X3 X4 a HW3 HC3 HA (hd ⟨C3.out.blk HX1.out.1 (by simp), HX1.out.2⟩) HY (hd ⟨C3.out.blk HX3.out.1 (by simp), HX3.out.2⟩) (hd ⟨C3.out.blk HX4.out.1 (by simp), HX4.out.2⟩)
   rw [← HLIT.out, hA.out] at z
   try simp only [qq]
   exact wpAnyH_act (by kernel_rfl) z)
set_option maxHeartbeats 40000000 in
set_option maxRecDepth 100000 in
theorem rows1_234 (C : RowC w0 b w1 r) (hO : Hid (RowO O)) (HPQ : Hid (∀ c a d x w, Q0 (.panic c) (a.put d x) w → Q0 (.panic c) a w)) (hA : Hid (A0 = RowA b M r y)) (st1_1234 : Hid (RowS1_1234 T b deep w1 bad out v r O Q0 A0)) : Hid (RowS1_234 T b deep w1 bad out v r O Q0 A0) := hd (by
 have HL := C.HL
 have HB0 := C.HB0
 have HQ1 := C.HQ1
 have HRI := C.HRI
 have HRN := C.HRN
 clear C
 unfold RowS1_234
 have hlit := hO.out
 unfold RowO at hlit
 simp only [Tryz.f61, findR, Option.getD, if_true, if_false, Nat.reduceEqDiff] at hlit
 injection hlit with hlit
 have HLIT := hd hlit
 clear hlit hO
 intro w2 d13 d14 X2 X3 X4 a HW2 HC2 HA HX2 HX3 HX4
 rw [← HLIT.out, hA.out]
 unfold RowA
 try simp only [qq]
 refine rd1 15 (fun K hK => ?_)
 · go_simp
   obtain ⟨w3, hw3⟩ : ∃ W, W = w2.alloc (.cells #[.int .i64 r.x, .int .i64 r.y] 3) := ⟨_, rfl⟩
   rw [← hw3]
   obtain ⟨Y, hY⟩ : ∃ X, X = w2.heap.size := ⟨_, rfl⟩
   rw [← hY]
   have HY : Hid (Blk w3 Y [.int .i64 r.x, .int .i64 r.y] 3 ∧ Y ≠ b) := hd ⟨by rw [hw3, hY]; exact Blk.new w2 [.int .i64 r.x, .int .i64 r.y] _, by have := HW2.out.lt; omega⟩
   have C3 : Hid (Chg [] w2 w3) := hd (by rw [hw3]; exact (Chg.refl _ _).alloc _)
   have HC3 : Hid (Chg [b] w1 w3) := hd (HC2.out.trans C3.out (by simp))
   have HW3 := hd (HW2.out.quiet C3.out)
   refine hK.out _ _ HC3.out (fun hHeld => ?_)
   clear hK K hw3 hY
   have z := st1_1234.out w3 d13 d14 Y X2 X3 X4 a HW3 HC3 HA HY (hd ⟨C3.out.blk HX2.out.1 (by simp), HX2.out.2⟩) (hd ⟨C3.out.blk HX3.out.1 (by simp), HX3.out.2⟩) (hd ⟨C3.out.blk HX4.out.1 (by simp), HX4.out.2⟩)
   rw [← HLIT.out, hA.out] at z
   try simp only [qq]
   exact wpAnyH_act (by kernel_rfl) z)
set_option maxHeartbeats 40000000 in
set_option maxRecDepth 100000 in
theorem rows1_12 (C : RowC w0 b w1 r) (hO : Hid (RowO O)) (HPQ : Hid (∀ c a d x w, Q0 (.panic c) (a.put d x) w → Q0 (.panic c) a w)) (hA : Hid (A0 = RowA b M r y)) (st2_12 : Hid (RowS2_12 T b deep w1 bad out v r O Q0 A0)) (st1_123 : Hid (RowS1_123 T b deep w1 bad out v r O Q0 A0)) (st1_124 : Hid (RowS1_124 T b deep w1 bad out v r O Q0 A0)) : Hid (RowS1_12 T b deep w1 bad out v r O Q0 A0) := hd (by
 have HL := C.HL
 have HB0 := C.HB0
 have HQ1 := C.HQ1
 have HRI := C.HRI
 have HRN := C.HRN
 clear C
 unfold RowS1_12
 have hlit := hO.out
 unfold RowO at hlit
 simp only [Tryz.f61, findR, Option.getD, if_true, if_false, Nat.reduceEqDiff] at hlit
 injection hlit with hlit
 have HLIT := hd hlit
 clear hlit hO
 intro w2 d13 d14 X1 X2 a HW2 HC2 HA HX1 HX2
 rw [← HLIT.out, hA.out]
 unfold RowA
 try simp only [qq]
 refine rd3 16 33 42 (fun K hK => ?_) (fun K hK => ?_) (fun K hK => ?_)
 · go_simp
   refine numbers_r HL HB0 (hd ((HQ1.out.since HC2.out HB0.out))) HW2 [r.x, r.y] 2 ⟨rfl, by decide⟩ (by intro q hq; simp only [List.mem_cons, List.not_mem_nil, or_false] at hq; rcases hq with rfl | rfl; exact HRI.out.1; exact HRI.out.2.1) HX1.out.1 HX1.out.2 (fun w3 h3 h4 => ?_)
   have HW3 := hd h3
   have HC3 : Hid (Chg [b] w1 w3) := hd (HC2.out.trans h4 (fun q hq => .inl hq))
   have H34 := hd h4
   refine hK.out _ _ HC3.out (fun hHeld => ?_)
   clear hK K h3 h4
   try simp only [qq]
   have gn : (Pr.nums [r.x, r.y]).length ≤ 44 := Pr.nums_len [r.x, r.y] (by intro q hq; simp only [List.mem_cons, List.not_mem_nil, or_false] at hq; rcases hq with rfl | rfl; exact HRI.out.1; exact HRI.out.2.1)
   obtain ⟨nn, hnn⟩ : ∃ nn, nn = Pr.nums [r.x, r.y] := ⟨_, rfl⟩
   rw [← hnn] at gn
   rw [← hnn]
   have HNN := hd hnn
   clear hnn
   have gl := HA.out.2
   have g1 : ¬ 9223372036854775807 < a.length + nn.length := by omega
   refine tk 17 ?vn1217 ?hyn1217 ?rsn1217 (hQ := fun _ _ _ h => HPQ.out _ _ _ _ _ h)
   case hyn1217 => (intro w9 hSw; go_simp; try with_reducible rfl)
   try simp only [qq]
   rw [str2]
   have gz : (⟨(a ++ nn).toArray⟩ : ByteArray).size = a.length + nn.length := by rw [size_of9, List.length_append]
   have g2 : ¬ 9223372036854775807 < a.length + nn.length + 6 := by omega
   refine tk 18 ?vm1218 ?hym1218 ?rsm1218 (hQ := fun _ _ _ h => HPQ.out _ _ _ _ _ h)
   case hym1218 => (intro w9 hSw; go_simp; try with_reducible rfl)
   try simp only [qq]
   rw [show (⟨(a ++ nn).toArray⟩ : ByteArray) ++ ⟨#[32, 115, 101, 97, 116, 115]⟩ = ⟨(a ++ nn ++ Pr.tSeats).toArray⟩ from str2 _ _]
   have z := st2_12.out w3 d13 d14 (.string ⟨a.toArray⟩) (.string ⟨(nn).toArray⟩) (.string ⟨(a ++ nn).toArray⟩) X1 X2 (a ++ nn ++ Pr.tSeats) HW3 HC3 (hd ⟨by rw [HA.out.1, HNN.out], by rw [List.length_append, List.length_append]; show _ + 6 ≤ _; omega⟩) (hd ⟨H34.out.blk HX2.out.1 (by simp [HX2.out.2]), HX2.out.2⟩)
   rw [← HLIT.out, hA.out] at z
   try simp only [qq]
   exact wpAnyH_act (by kernel_rfl) z
 · go_simp
   obtain ⟨w3, hw3⟩ : ∃ W, W = w2.alloc (.cells #[.int .i64 r.t] 3) := ⟨_, rfl⟩
   rw [← hw3]
   obtain ⟨Y, hY⟩ : ∃ X, X = w2.heap.size := ⟨_, rfl⟩
   rw [← hY]
   have HY : Hid (Blk w3 Y [.int .i64 r.t] 3 ∧ Y ≠ b) := hd ⟨by rw [hw3, hY]; exact Blk.new w2 [.int .i64 r.t] _, by have := HW2.out.lt; omega⟩
   have C3 : Hid (Chg [] w2 w3) := hd (by rw [hw3]; exact (Chg.refl _ _).alloc _)
   have HC3 : Hid (Chg [b] w1 w3) := hd (HC2.out.trans C3.out (by simp))
   have HW3 := hd (HW2.out.quiet C3.out)
   refine hK.out _ _ HC3.out (fun hHeld => ?_)
   clear hK K hw3 hY
   have z := st1_123.out w3 d13 d14 X1 X2 Y a HW3 HC3 HA (hd ⟨C3.out.blk HX1.out.1 (by simp), HX1.out.2⟩) (hd ⟨C3.out.blk HX2.out.1 (by simp), HX2.out.2⟩) HY
   rw [← HLIT.out, hA.out] at z
   try simp only [qq]
   exact wpAnyH_act (by kernel_rfl) z
 · go_simp
   obtain ⟨w3, hw3⟩ : ∃ W, W = w2.alloc (.cells #[.int .i64 r.step] 3) := ⟨_, rfl⟩
   rw [← hw3]
   obtain ⟨Y, hY⟩ : ∃ X, X = w2.heap.size := ⟨_, rfl⟩
   rw [← hY]
   have HY : Hid (Blk w3 Y [.int .i64 r.step] 3 ∧ Y ≠ b) := hd ⟨by rw [hw3, hY]; exact Blk.new w2 [.int .i64 r.step] _, by have := HW2.out.lt; omega⟩
   have C3 : Hid (Chg [] w2 w3) := hd (by rw [hw3]; exact (Chg.refl _ _).alloc _)
   have HC3 : Hid (Chg [b] w1 w3) := hd (HC2.out.trans C3.out (by simp))
   have HW3 := hd (HW2.out.quiet C3.out)
   refine hK.out _ _ HC3.out (fun hHeld => ?_)
   clear hK K hw3 hY
   have z := st1_124.out w3 d13 d14 X1 X2 Y a HW3 HC3 HA (hd ⟨C3.out.blk HX1.out.1 (by simp), HX1.out.2⟩) (hd ⟨C3.out.blk HX2.out.1 (by simp), HX2.out.2⟩) HY
   rw [← HLIT.out, hA.out] at z
   try simp only [qq]
   exact wpAnyH_act (by kernel_rfl) z)
set_option maxHeartbeats 40000000 in
set_option maxRecDepth 100000 in
theorem rows1_13 (C : RowC w0 b w1 r) (hO : Hid (RowO O)) (HPQ : Hid (∀ c a d x w, Q0 (.panic c) (a.put d x) w → Q0 (.panic c) a w)) (hA : Hid (A0 = RowA b M r y)) (st2_13 : Hid (RowS2_13 T b deep w1 bad out v r O Q0 A0)) (st1_123 : Hid (RowS1_123 T b deep w1 bad out v r O Q0 A0)) (st1_134 : Hid (RowS1_134 T b deep w1 bad out v r O Q0 A0)) : Hid (RowS1_13 T b deep w1 bad out v r O Q0 A0) := hd (by
 have HL := C.HL
 have HB0 := C.HB0
 have HQ1 := C.HQ1
 have HRI := C.HRI
 have HRN := C.HRN
 clear C
 unfold RowS1_13
 have hlit := hO.out
 unfold RowO at hlit
 simp only [Tryz.f61, findR, Option.getD, if_true, if_false, Nat.reduceEqDiff] at hlit
 injection hlit with hlit
 have HLIT := hd hlit
 clear hlit hO
 intro w2 d13 d14 X1 X3 a HW2 HC2 HA HX1 HX3
 rw [← HLIT.out, hA.out]
 unfold RowA
 try simp only [qq]
 refine rd3 16 24 42 (fun K hK => ?_) (fun K hK => ?_) (fun K hK => ?_)
 · go_simp
   refine numbers_r HL HB0 (hd ((HQ1.out.since HC2.out HB0.out))) HW2 [r.x, r.y] 2 ⟨rfl, by decide⟩ (by intro q hq; simp only [List.mem_cons, List.not_mem_nil, or_false] at hq; rcases hq with rfl | rfl; exact HRI.out.1; exact HRI.out.2.1) HX1.out.1 HX1.out.2 (fun w3 h3 h4 => ?_)
   have HW3 := hd h3
   have HC3 : Hid (Chg [b] w1 w3) := hd (HC2.out.trans h4 (fun q hq => .inl hq))
   have H34 := hd h4
   refine hK.out _ _ HC3.out (fun hHeld => ?_)
   clear hK K h3 h4
   try simp only [qq]
   have gn : (Pr.nums [r.x, r.y]).length ≤ 44 := Pr.nums_len [r.x, r.y] (by intro q hq; simp only [List.mem_cons, List.not_mem_nil, or_false] at hq; rcases hq with rfl | rfl; exact HRI.out.1; exact HRI.out.2.1)
   obtain ⟨nn, hnn⟩ : ∃ nn, nn = Pr.nums [r.x, r.y] := ⟨_, rfl⟩
   rw [← hnn] at gn
   rw [← hnn]
   have HNN := hd hnn
   clear hnn
   have gl := HA.out.2
   have g1 : ¬ 9223372036854775807 < a.length + nn.length := by omega
   refine tk 17 ?vn1317 ?hyn1317 ?rsn1317 (hQ := fun _ _ _ h => HPQ.out _ _ _ _ _ h)
   case hyn1317 => (intro w9 hSw; go_simp; try with_reducible rfl)
   try simp only [qq]
   rw [str2]
   have gz : (⟨(a ++ nn).toArray⟩ : ByteArray).size = a.length + nn.length := by rw [size_of9, List.length_append]
   have g2 : ¬ 9223372036854775807 < a.length + nn.length + 6 := by omega
   refine tk 18 ?vm1318 ?hym1318 ?rsm1318 (hQ := fun _ _ _ h => HPQ.out _ _ _ _ _ h)
   case hym1318 => (intro w9 hSw; go_simp; try with_reducible rfl)
   try simp only [qq]
   rw [show (⟨(a ++ nn).toArray⟩ : ByteArray) ++ ⟨#[32, 115, 101, 97, 116, 115]⟩ = ⟨(a ++ nn ++ Pr.tSeats).toArray⟩ from str2 _ _]
   have z := st2_13.out w3 d13 d14 (.string ⟨a.toArray⟩) (.string ⟨(nn).toArray⟩) (.string ⟨(a ++ nn).toArray⟩) X1 X3 (a ++ nn ++ Pr.tSeats) HW3 HC3 (hd ⟨by rw [HA.out.1, HNN.out], by rw [List.length_append, List.length_append]; show _ + 6 ≤ _; omega⟩) (hd ⟨H34.out.blk HX3.out.1 (by simp [HX3.out.2]), HX3.out.2⟩)
   rw [← HLIT.out, hA.out] at z
   try simp only [qq]
   exact wpAnyH_act (by kernel_rfl) z
 · go_simp
   obtain ⟨w3, hw3⟩ : ∃ W, W = w2.alloc (.cells #[.int .i64 r.f] 3) := ⟨_, rfl⟩
   rw [← hw3]
   obtain ⟨Y, hY⟩ : ∃ X, X = w2.heap.size := ⟨_, rfl⟩
   rw [← hY]
   have HY : Hid (Blk w3 Y [.int .i64 r.f] 3 ∧ Y ≠ b) := hd ⟨by rw [hw3, hY]; exact Blk.new w2 [.int .i64 r.f] _, by have := HW2.out.lt; omega⟩
   have C3 : Hid (Chg [] w2 w3) := hd (by rw [hw3]; exact (Chg.refl _ _).alloc _)
   have HC3 : Hid (Chg [b] w1 w3) := hd (HC2.out.trans C3.out (by simp))
   have HW3 := hd (HW2.out.quiet C3.out)
   refine hK.out _ _ HC3.out (fun hHeld => ?_)
   clear hK K hw3 hY
   have z := st1_123.out w3 d13 d14 X1 Y X3 a HW3 HC3 HA (hd ⟨C3.out.blk HX1.out.1 (by simp), HX1.out.2⟩) HY (hd ⟨C3.out.blk HX3.out.1 (by simp), HX3.out.2⟩)
   rw [← HLIT.out, hA.out] at z
   try simp only [qq]
   exact wpAnyH_act (by kernel_rfl) z
 · go_simp
   obtain ⟨w3, hw3⟩ : ∃ W, W = w2.alloc (.cells #[.int .i64 r.step] 3) := ⟨_, rfl⟩
   rw [← hw3]
   obtain ⟨Y, hY⟩ : ∃ X, X = w2.heap.size := ⟨_, rfl⟩
   rw [← hY]
   have HY : Hid (Blk w3 Y [.int .i64 r.step] 3 ∧ Y ≠ b) := hd ⟨by rw [hw3, hY]; exact Blk.new w2 [.int .i64 r.step] _, by have := HW2.out.lt; omega⟩
   have C3 : Hid (Chg [] w2 w3) := hd (by rw [hw3]; exact (Chg.refl _ _).alloc _)
   have HC3 : Hid (Chg [b] w1 w3) := hd (HC2.out.trans C3.out (by simp))
   have HW3 := hd (HW2.out.quiet C3.out)
   refine hK.out _ _ HC3.out (fun hHeld => ?_)
   clear hK K hw3 hY
   have z := st1_134.out w3 d13 d14 X1 X3 Y a HW3 HC3 HA (hd ⟨C3.out.blk HX1.out.1 (by simp), HX1.out.2⟩) (hd ⟨C3.out.blk HX3.out.1 (by simp), HX3.out.2⟩) HY
   rw [← HLIT.out, hA.out] at z
   try simp only [qq]
   exact wpAnyH_act (by kernel_rfl) z)
set_option maxHeartbeats 40000000 in
set_option maxRecDepth 100000 in
theorem rows1_14 (C : RowC w0 b w1 r) (hO : Hid (RowO O)) (HPQ : Hid (∀ c a d x w, Q0 (.panic c) (a.put d x) w → Q0 (.panic c) a w)) (hA : Hid (A0 = RowA b M r y)) (st2_14 : Hid (RowS2_14 T b deep w1 bad out v r O Q0 A0)) (st1_124 : Hid (RowS1_124 T b deep w1 bad out v r O Q0 A0)) (st1_134 : Hid (RowS1_134 T b deep w1 bad out v r O Q0 A0)) : Hid (RowS1_14 T b deep w1 bad out v r O Q0 A0) := hd (by
 have HL := C.HL
 have HB0 := C.HB0
 have HQ1 := C.HQ1
 have HRI := C.HRI
 have HRN := C.HRN
 clear C
 unfold RowS1_14
 have hlit := hO.out
 unfold RowO at hlit
 simp only [Tryz.f61, findR, Option.getD, if_true, if_false, Nat.reduceEqDiff] at hlit
 injection hlit with hlit
 have HLIT := hd hlit
 clear hlit hO
 intro w2 d13 d14 X1 X4 a HW2 HC2 HA HX1 HX4
 rw [← HLIT.out, hA.out]
 unfold RowA
 try simp only [qq]
 refine rd3 16 24 33 (fun K hK => ?_) (fun K hK => ?_) (fun K hK => ?_)
 · go_simp
   refine numbers_r HL HB0 (hd ((HQ1.out.since HC2.out HB0.out))) HW2 [r.x, r.y] 2 ⟨rfl, by decide⟩ (by intro q hq; simp only [List.mem_cons, List.not_mem_nil, or_false] at hq; rcases hq with rfl | rfl; exact HRI.out.1; exact HRI.out.2.1) HX1.out.1 HX1.out.2 (fun w3 h3 h4 => ?_)
   have HW3 := hd h3
   have HC3 : Hid (Chg [b] w1 w3) := hd (HC2.out.trans h4 (fun q hq => .inl hq))
   have H34 := hd h4
   refine hK.out _ _ HC3.out (fun hHeld => ?_)
   clear hK K h3 h4
   try simp only [qq]
   have gn : (Pr.nums [r.x, r.y]).length ≤ 44 := Pr.nums_len [r.x, r.y] (by intro q hq; simp only [List.mem_cons, List.not_mem_nil, or_false] at hq; rcases hq with rfl | rfl; exact HRI.out.1; exact HRI.out.2.1)
   obtain ⟨nn, hnn⟩ : ∃ nn, nn = Pr.nums [r.x, r.y] := ⟨_, rfl⟩
   rw [← hnn] at gn
   rw [← hnn]
   have HNN := hd hnn
   clear hnn
   have gl := HA.out.2
   have g1 : ¬ 9223372036854775807 < a.length + nn.length := by omega
   refine tk 17 ?vn1417 ?hyn1417 ?rsn1417 (hQ := fun _ _ _ h => HPQ.out _ _ _ _ _ h)
   case hyn1417 => (intro w9 hSw; go_simp; try with_reducible rfl)
   try simp only [qq]
   rw [str2]
   have gz : (⟨(a ++ nn).toArray⟩ : ByteArray).size = a.length + nn.length := by rw [size_of9, List.length_append]
   have g2 : ¬ 9223372036854775807 < a.length + nn.length + 6 := by omega
   refine tk 18 ?vm1418 ?hym1418 ?rsm1418 (hQ := fun _ _ _ h => HPQ.out _ _ _ _ _ h)
   case hym1418 => (intro w9 hSw; go_simp; try with_reducible rfl)
   try simp only [qq]
   rw [show (⟨(a ++ nn).toArray⟩ : ByteArray) ++ ⟨#[32, 115, 101, 97, 116, 115]⟩ = ⟨(a ++ nn ++ Pr.tSeats).toArray⟩ from str2 _ _]
   have z := st2_14.out w3 d13 d14 (.string ⟨a.toArray⟩) (.string ⟨(nn).toArray⟩) (.string ⟨(a ++ nn).toArray⟩) X1 X4 (a ++ nn ++ Pr.tSeats) HW3 HC3 (hd ⟨by rw [HA.out.1, HNN.out], by rw [List.length_append, List.length_append]; show _ + 6 ≤ _; omega⟩) (hd ⟨H34.out.blk HX4.out.1 (by simp [HX4.out.2]), HX4.out.2⟩)
   rw [← HLIT.out, hA.out] at z
   try simp only [qq]
   exact wpAnyH_act (by kernel_rfl) z
 · go_simp
   obtain ⟨w3, hw3⟩ : ∃ W, W = w2.alloc (.cells #[.int .i64 r.f] 3) := ⟨_, rfl⟩
   rw [← hw3]
   obtain ⟨Y, hY⟩ : ∃ X, X = w2.heap.size := ⟨_, rfl⟩
   rw [← hY]
   have HY : Hid (Blk w3 Y [.int .i64 r.f] 3 ∧ Y ≠ b) := hd ⟨by rw [hw3, hY]; exact Blk.new w2 [.int .i64 r.f] _, by have := HW2.out.lt; omega⟩
   have C3 : Hid (Chg [] w2 w3) := hd (by rw [hw3]; exact (Chg.refl _ _).alloc _)
   have HC3 : Hid (Chg [b] w1 w3) := hd (HC2.out.trans C3.out (by simp))
   have HW3 := hd (HW2.out.quiet C3.out)
   refine hK.out _ _ HC3.out (fun hHeld => ?_)
   clear hK K hw3 hY
   have z := st1_124.out w3 d13 d14 X1 Y X4 a HW3 HC3 HA (hd ⟨C3.out.blk HX1.out.1 (by simp), HX1.out.2⟩) HY (hd ⟨C3.out.blk HX4.out.1 (by simp), HX4.out.2⟩)
   rw [← HLIT.out, hA.out] at z
   try simp only [qq]
   exact wpAnyH_act (by kernel_rfl) z
 · go_simp
   obtain ⟨w3, hw3⟩ : ∃ W, W = w2.alloc (.cells #[.int .i64 r.t] 3) := ⟨_, rfl⟩
   rw [← hw3]
   obtain ⟨Y, hY⟩ : ∃ X, X = w2.heap.size := ⟨_, rfl⟩
   rw [← hY]
   have HY : Hid (Blk w3 Y [.int .i64 r.t] 3 ∧ Y ≠ b) := hd ⟨by rw [hw3, hY]; exact Blk.new w2 [.int .i64 r.t] _, by have := HW2.out.lt; omega⟩
   have C3 : Hid (Chg [] w2 w3) := hd (by rw [hw3]; exact (Chg.refl _ _).alloc _)
   have HC3 : Hid (Chg [b] w1 w3) := hd (HC2.out.trans C3.out (by simp))
   have HW3 := hd (HW2.out.quiet C3.out)
   refine hK.out _ _ HC3.out (fun hHeld => ?_)
   clear hK K hw3 hY
   have z := st1_134.out w3 d13 d14 X1 Y X4 a HW3 HC3 HA (hd ⟨C3.out.blk HX1.out.1 (by simp), HX1.out.2⟩) HY (hd ⟨C3.out.blk HX4.out.1 (by simp), HX4.out.2⟩)
   rw [← HLIT.out, hA.out] at z
   try simp only [qq]
   exact wpAnyH_act (by kernel_rfl) z)
set_option maxHeartbeats 40000000 in
set_option maxRecDepth 100000 in
theorem rows1_23 (C : RowC w0 b w1 r) (hO : Hid (RowO O)) (HPQ : Hid (∀ c a d x w, Q0 (.panic c) (a.put d x) w → Q0 (.panic c) a w)) (hA : Hid (A0 = RowA b M r y)) (st1_123 : Hid (RowS1_123 T b deep w1 bad out v r O Q0 A0)) (st1_234 : Hid (RowS1_234 T b deep w1 bad out v r O Q0 A0)) : Hid (RowS1_23 T b deep w1 bad out v r O Q0 A0) := hd (by
 have HL := C.HL
 have HB0 := C.HB0
 have HQ1 := C.HQ1
 have HRI := C.HRI
 have HRN := C.HRN
 clear C
 unfold RowS1_23
 have hlit := hO.out
 unfold RowO at hlit
 simp only [Tryz.f61, findR, Option.getD, if_true, if_false, Nat.reduceEqDiff] at hlit
 injection hlit with hlit
 have HLIT := hd hlit
 clear hlit hO
 intro w2 d13 d14 X2 X3 a HW2 HC2 HA HX2 HX3
 rw [← HLIT.out, hA.out]
 unfold RowA
 try simp only [qq]
 refine rd2 15 42 (fun K hK => ?_) (fun K hK => ?_)
 · go_simp
   obtain ⟨w3, hw3⟩ : ∃ W, W = w2.alloc (.cells #[.int .i64 r.x, .int .i64 r.y] 3) := ⟨_, rfl⟩
   rw [← hw3]
   obtain ⟨Y, hY⟩ : ∃ X, X = w2.heap.size := ⟨_, rfl⟩
   rw [← hY]
   have HY : Hid (Blk w3 Y [.int .i64 r.x, .int .i64 r.y] 3 ∧ Y ≠ b) := hd ⟨by rw [hw3, hY]; exact Blk.new w2 [.int .i64 r.x, .int .i64 r.y] _, by have := HW2.out.lt; omega⟩
   have C3 : Hid (Chg [] w2 w3) := hd (by rw [hw3]; exact (Chg.refl _ _).alloc _)
   have HC3 : Hid (Chg [b] w1 w3) := hd (HC2.out.trans C3.out (by simp))
   have HW3 := hd (HW2.out.quiet C3.out)
   refine hK.out _ _ HC3.out (fun hHeld => ?_)
   clear hK K hw3 hY
   have z := st1_123.out w3 d13 d14 Y X2 X3 a HW3 HC3 HA HY (hd ⟨C3.out.blk HX2.out.1 (by simp), HX2.out.2⟩) (hd ⟨C3.out.blk HX3.out.1 (by simp), HX3.out.2⟩)
   rw [← HLIT.out, hA.out] at z
   try simp only [qq]
   exact wpAnyH_act (by kernel_rfl) z
 · go_simp
   obtain ⟨w3, hw3⟩ : ∃ W, W = w2.alloc (.cells #[.int .i64 r.step] 3) := ⟨_, rfl⟩
   rw [← hw3]
   obtain ⟨Y, hY⟩ : ∃ X, X = w2.heap.size := ⟨_, rfl⟩
   rw [← hY]
   have HY : Hid (Blk w3 Y [.int .i64 r.step] 3 ∧ Y ≠ b) := hd ⟨by rw [hw3, hY]; exact Blk.new w2 [.int .i64 r.step] _, by have := HW2.out.lt; omega⟩
   have C3 : Hid (Chg [] w2 w3) := hd (by rw [hw3]; exact (Chg.refl _ _).alloc _)
   have HC3 : Hid (Chg [b] w1 w3) := hd (HC2.out.trans C3.out (by simp))
   have HW3 := hd (HW2.out.quiet C3.out)
   refine hK.out _ _ HC3.out (fun hHeld => ?_)
   clear hK K hw3 hY
   have z := st1_234.out w3 d13 d14 X2 X3 Y a HW3 HC3 HA (hd ⟨C3.out.blk HX2.out.1 (by simp), HX2.out.2⟩) (hd ⟨C3.out.blk HX3.out.1 (by simp), HX3.out.2⟩) HY
   rw [← HLIT.out, hA.out] at z
   try simp only [qq]
   exact wpAnyH_act (by kernel_rfl) z)
set_option maxHeartbeats 40000000 in
set_option maxRecDepth 100000 in
theorem rows1_24 (C : RowC w0 b w1 r) (hO : Hid (RowO O)) (HPQ : Hid (∀ c a d x w, Q0 (.panic c) (a.put d x) w → Q0 (.panic c) a w)) (hA : Hid (A0 = RowA b M r y)) (st1_124 : Hid (RowS1_124 T b deep w1 bad out v r O Q0 A0)) (st1_234 : Hid (RowS1_234 T b deep w1 bad out v r O Q0 A0)) : Hid (RowS1_24 T b deep w1 bad out v r O Q0 A0) := hd (by
 have HL := C.HL
 have HB0 := C.HB0
 have HQ1 := C.HQ1
 have HRI := C.HRI
 have HRN := C.HRN
 clear C
 unfold RowS1_24
 have hlit := hO.out
 unfold RowO at hlit
 simp only [Tryz.f61, findR, Option.getD, if_true, if_false, Nat.reduceEqDiff] at hlit
 injection hlit with hlit
 have HLIT := hd hlit
 clear hlit hO
 intro w2 d13 d14 X2 X4 a HW2 HC2 HA HX2 HX4
 rw [← HLIT.out, hA.out]
 unfold RowA
 try simp only [qq]
 refine rd2 15 33 (fun K hK => ?_) (fun K hK => ?_)
 · go_simp
   obtain ⟨w3, hw3⟩ : ∃ W, W = w2.alloc (.cells #[.int .i64 r.x, .int .i64 r.y] 3) := ⟨_, rfl⟩
   rw [← hw3]
   obtain ⟨Y, hY⟩ : ∃ X, X = w2.heap.size := ⟨_, rfl⟩
   rw [← hY]
   have HY : Hid (Blk w3 Y [.int .i64 r.x, .int .i64 r.y] 3 ∧ Y ≠ b) := hd ⟨by rw [hw3, hY]; exact Blk.new w2 [.int .i64 r.x, .int .i64 r.y] _, by have := HW2.out.lt; omega⟩
   have C3 : Hid (Chg [] w2 w3) := hd (by rw [hw3]; exact (Chg.refl _ _).alloc _)
   have HC3 : Hid (Chg [b] w1 w3) := hd (HC2.out.trans C3.out (by simp))
   have HW3 := hd (HW2.out.quiet C3.out)
   refine hK.out _ _ HC3.out (fun hHeld => ?_)
   clear hK K hw3 hY
   have z := st1_124.out w3 d13 d14 Y X2 X4 a HW3 HC3 HA HY (hd ⟨C3.out.blk HX2.out.1 (by simp), HX2.out.2⟩) (hd ⟨C3.out.blk HX4.out.1 (by simp), HX4.out.2⟩)
   rw [← HLIT.out, hA.out] at z
   try simp only [qq]
   exact wpAnyH_act (by kernel_rfl) z
 · go_simp
   obtain ⟨w3, hw3⟩ : ∃ W, W = w2.alloc (.cells #[.int .i64 r.t] 3) := ⟨_, rfl⟩
   rw [← hw3]
   obtain ⟨Y, hY⟩ : ∃ X, X = w2.heap.size := ⟨_, rfl⟩
   rw [← hY]
   have HY : Hid (Blk w3 Y [.int .i64 r.t] 3 ∧ Y ≠ b) := hd ⟨by rw [hw3, hY]; exact Blk.new w2 [.int .i64 r.t] _, by have := HW2.out.lt; omega⟩
   have C3 : Hid (Chg [] w2 w3) := hd (by rw [hw3]; exact (Chg.refl _ _).alloc _)
   have HC3 : Hid (Chg [b] w1 w3) := hd (HC2.out.trans C3.out (by simp))
   have HW3 := hd (HW2.out.quiet C3.out)
   refine hK.out _ _ HC3.out (fun hHeld => ?_)
   clear hK K hw3 hY
   have z := st1_234.out w3 d13 d14 X2 Y X4 a HW3 HC3 HA (hd ⟨C3.out.blk HX2.out.1 (by simp), HX2.out.2⟩) HY (hd ⟨C3.out.blk HX4.out.1 (by simp), HX4.out.2⟩)
   rw [← HLIT.out, hA.out] at z
   try simp only [qq]
   exact wpAnyH_act (by kernel_rfl) z)
set_option maxHeartbeats 40000000 in
set_option maxRecDepth 100000 in
theorem rows1_34 (C : RowC w0 b w1 r) (hO : Hid (RowO O)) (HPQ : Hid (∀ c a d x w, Q0 (.panic c) (a.put d x) w → Q0 (.panic c) a w)) (hA : Hid (A0 = RowA b M r y)) (st1_134 : Hid (RowS1_134 T b deep w1 bad out v r O Q0 A0)) (st1_234 : Hid (RowS1_234 T b deep w1 bad out v r O Q0 A0)) : Hid (RowS1_34 T b deep w1 bad out v r O Q0 A0) := hd (by
 have HL := C.HL
 have HB0 := C.HB0
 have HQ1 := C.HQ1
 have HRI := C.HRI
 have HRN := C.HRN
 clear C
 unfold RowS1_34
 have hlit := hO.out
 unfold RowO at hlit
 simp only [Tryz.f61, findR, Option.getD, if_true, if_false, Nat.reduceEqDiff] at hlit
 injection hlit with hlit
 have HLIT := hd hlit
 clear hlit hO
 intro w2 d13 d14 X3 X4 a HW2 HC2 HA HX3 HX4
 rw [← HLIT.out, hA.out]
 unfold RowA
 try simp only [qq]
 refine rd2 15 24 (fun K hK => ?_) (fun K hK => ?_)
 · go_simp
   obtain ⟨w3, hw3⟩ : ∃ W, W = w2.alloc (.cells #[.int .i64 r.x, .int .i64 r.y] 3) := ⟨_, rfl⟩
   rw [← hw3]
   obtain ⟨Y, hY⟩ : ∃ X, X = w2.heap.size := ⟨_, rfl⟩
   rw [← hY]
   have HY : Hid (Blk w3 Y [.int .i64 r.x, .int .i64 r.y] 3 ∧ Y ≠ b) := hd ⟨by rw [hw3, hY]; exact Blk.new w2 [.int .i64 r.x, .int .i64 r.y] _, by have := HW2.out.lt; omega⟩
   have C3 : Hid (Chg [] w2 w3) := hd (by rw [hw3]; exact (Chg.refl _ _).alloc _)
   have HC3 : Hid (Chg [b] w1 w3) := hd (HC2.out.trans C3.out (by simp))
   have HW3 := hd (HW2.out.quiet C3.out)
   refine hK.out _ _ HC3.out (fun hHeld => ?_)
   clear hK K hw3 hY
   have z := st1_134.out w3 d13 d14 Y X3 X4 a HW3 HC3 HA HY (hd ⟨C3.out.blk HX3.out.1 (by simp), HX3.out.2⟩) (hd ⟨C3.out.blk HX4.out.1 (by simp), HX4.out.2⟩)
   rw [← HLIT.out, hA.out] at z
   try simp only [qq]
   exact wpAnyH_act (by kernel_rfl) z
 · go_simp
   obtain ⟨w3, hw3⟩ : ∃ W, W = w2.alloc (.cells #[.int .i64 r.f] 3) := ⟨_, rfl⟩
   rw [← hw3]
   obtain ⟨Y, hY⟩ : ∃ X, X = w2.heap.size := ⟨_, rfl⟩
   rw [← hY]
   have HY : Hid (Blk w3 Y [.int .i64 r.f] 3 ∧ Y ≠ b) := hd ⟨by rw [hw3, hY]; exact Blk.new w2 [.int .i64 r.f] _, by have := HW2.out.lt; omega⟩
   have C3 : Hid (Chg [] w2 w3) := hd (by rw [hw3]; exact (Chg.refl _ _).alloc _)
   have HC3 : Hid (Chg [b] w1 w3) := hd (HC2.out.trans C3.out (by simp))
   have HW3 := hd (HW2.out.quiet C3.out)
   refine hK.out _ _ HC3.out (fun hHeld => ?_)
   clear hK K hw3 hY
   have z := st1_234.out w3 d13 d14 Y X3 X4 a HW3 HC3 HA HY (hd ⟨C3.out.blk HX3.out.1 (by simp), HX3.out.2⟩) (hd ⟨C3.out.blk HX4.out.1 (by simp), HX4.out.2⟩)
   rw [← HLIT.out, hA.out] at z
   try simp only [qq]
   exact wpAnyH_act (by kernel_rfl) z)
set_option maxHeartbeats 40000000 in
set_option maxRecDepth 100000 in
theorem rows1_1 (C : RowC w0 b w1 r) (hO : Hid (RowO O)) (HPQ : Hid (∀ c a d x w, Q0 (.panic c) (a.put d x) w → Q0 (.panic c) a w)) (hA : Hid (A0 = RowA b M r y)) (st2_1 : Hid (RowS2_1 T b deep w1 bad out v r O Q0 A0)) (st1_12 : Hid (RowS1_12 T b deep w1 bad out v r O Q0 A0)) (st1_13 : Hid (RowS1_13 T b deep w1 bad out v r O Q0 A0)) (st1_14 : Hid (RowS1_14 T b deep w1 bad out v r O Q0 A0)) : Hid (RowS1_1 T b deep w1 bad out v r O Q0 A0) := hd (by
 have HL := C.HL
 have HB0 := C.HB0
 have HQ1 := C.HQ1
 have HRI := C.HRI
 have HRN := C.HRN
 clear C
 unfold RowS1_1
 have hlit := hO.out
 unfold RowO at hlit
 simp only [Tryz.f61, findR, Option.getD, if_true, if_false, Nat.reduceEqDiff] at hlit
 injection hlit with hlit
 have HLIT := hd hlit
 clear hlit hO
 intro w2 d13 d14 X1 a HW2 HC2 HA HX1
 rw [← HLIT.out, hA.out]
 unfold RowA
 try simp only [qq]
 refine rd4 16 24 33 42 (fun K hK => ?_) (fun K hK => ?_) (fun K hK => ?_) (fun K hK => ?_)
 · go_simp
   refine numbers_r HL HB0 (hd ((HQ1.out.since HC2.out HB0.out))) HW2 [r.x, r.y] 2 ⟨rfl, by decide⟩ (by intro q hq; simp only [List.mem_cons, List.not_mem_nil, or_false] at hq; rcases hq with rfl | rfl; exact HRI.out.1; exact HRI.out.2.1) HX1.out.1 HX1.out.2 (fun w3 h3 h4 => ?_)
   have HW3 := hd h3
   have HC3 : Hid (Chg [b] w1 w3) := hd (HC2.out.trans h4 (fun q hq => .inl hq))
   have H34 := hd h4
   refine hK.out _ _ HC3.out (fun hHeld => ?_)
   clear hK K h3 h4
   try simp only [qq]
   have gn : (Pr.nums [r.x, r.y]).length ≤ 44 := Pr.nums_len [r.x, r.y] (by intro q hq; simp only [List.mem_cons, List.not_mem_nil, or_false] at hq; rcases hq with rfl | rfl; exact HRI.out.1; exact HRI.out.2.1)
   obtain ⟨nn, hnn⟩ : ∃ nn, nn = Pr.nums [r.x, r.y] := ⟨_, rfl⟩
   rw [← hnn] at gn
   rw [← hnn]
   have HNN := hd hnn
   clear hnn
   have gl := HA.out.2
   have g1 : ¬ 9223372036854775807 < a.length + nn.length := by omega
   refine tk 17 ?vn117 ?hyn117 ?rsn117 (hQ := fun _ _ _ h => HPQ.out _ _ _ _ _ h)
   case hyn117 => (intro w9 hSw; go_simp; try with_reducible rfl)
   try simp only [qq]
   rw [str2]
   have gz : (⟨(a ++ nn).toArray⟩ : ByteArray).size = a.length + nn.length := by rw [size_of9, List.length_append]
   have g2 : ¬ 9223372036854775807 < a.length + nn.length + 6 := by omega
   refine tk 18 ?vm118 ?hym118 ?rsm118 (hQ := fun _ _ _ h => HPQ.out _ _ _ _ _ h)
   case hym118 => (intro w9 hSw; go_simp; try with_reducible rfl)
   try simp only [qq]
   rw [show (⟨(a ++ nn).toArray⟩ : ByteArray) ++ ⟨#[32, 115, 101, 97, 116, 115]⟩ = ⟨(a ++ nn ++ Pr.tSeats).toArray⟩ from str2 _ _]
   have z := st2_1.out w3 d13 d14 (.string ⟨a.toArray⟩) (.string ⟨(nn).toArray⟩) (.string ⟨(a ++ nn).toArray⟩) X1 (a ++ nn ++ Pr.tSeats) HW3 HC3 (hd ⟨by rw [HA.out.1, HNN.out], by rw [List.length_append, List.length_append]; show _ + 6 ≤ _; omega⟩)
   rw [← HLIT.out, hA.out] at z
   try simp only [qq]
   exact wpAnyH_act (by kernel_rfl) z
 · go_simp
   obtain ⟨w3, hw3⟩ : ∃ W, W = w2.alloc (.cells #[.int .i64 r.f] 3) := ⟨_, rfl⟩
   rw [← hw3]
   obtain ⟨Y, hY⟩ : ∃ X, X = w2.heap.size := ⟨_, rfl⟩
   rw [← hY]
   have HY : Hid (Blk w3 Y [.int .i64 r.f] 3 ∧ Y ≠ b) := hd ⟨by rw [hw3, hY]; exact Blk.new w2 [.int .i64 r.f] _, by have := HW2.out.lt; omega⟩
   have C3 : Hid (Chg [] w2 w3) := hd (by rw [hw3]; exact (Chg.refl _ _).alloc _)
   have HC3 : Hid (Chg [b] w1 w3) := hd (HC2.out.trans C3.out (by simp))
   have HW3 := hd (HW2.out.quiet C3.out)
   refine hK.out _ _ HC3.out (fun hHeld => ?_)
   clear hK K hw3 hY
   have z := st1_12.out w3 d13 d14 X1 Y a HW3 HC3 HA (hd ⟨C3.out.blk HX1.out.1 (by simp), HX1.out.2⟩) HY
   rw [← HLIT.out, hA.out] at z
   try simp only [qq]
   exact wpAnyH_act (by kernel_rfl) z
 · go_simp
   obtain ⟨w3, hw3⟩ : ∃ W, W = w2.alloc (.cells #[.int .i64 r.t] 3) := ⟨_, rfl⟩
   rw [← hw3]
   obtain ⟨Y, hY⟩ : ∃ X, X = w2.heap.size := ⟨_, rfl⟩
   rw [← hY]
   have HY : Hid (Blk w3 Y [.int .i64 r.t] 3 ∧ Y ≠ b) := hd ⟨by rw [hw3, hY]; exact Blk.new w2 [.int .i64 r.t] _, by have := HW2.out.lt; omega⟩
   have C3 : Hid (Chg [] w2 w3) := hd (by rw [hw3]; exact (Chg.refl _ _).alloc _)
   have HC3 : Hid (Chg [b] w1 w3) := hd (HC2.out.trans C3.out (by simp))
   have HW3 := hd (HW2.out.quiet C3.out)
   refine hK.out _ _ HC3.out (fun hHeld => ?_)
   clear hK K hw3 hY
   have z := st1_13.out w3 d13 d14 X1 Y a HW3 HC3 HA (hd ⟨C3.out.blk HX1.out.1 (by simp), HX1.out.2⟩) HY
   rw [← HLIT.out, hA.out] at z
   try simp only [qq]
   exact wpAnyH_act (by kernel_rfl) z
 · go_simp
   obtain ⟨w3, hw3⟩ : ∃ W, W = w2.alloc (.cells #[.int .i64 r.step] 3) := ⟨_, rfl⟩
   rw [← hw3]
   obtain ⟨Y, hY⟩ : ∃ X, X = w2.heap.size := ⟨_, rfl⟩
   rw [← hY]
   have HY : Hid (Blk w3 Y [.int .i64 r.step] 3 ∧ Y ≠ b) := hd ⟨by rw [hw3, hY]; exact Blk.new w2 [.int .i64 r.step] _, by have := HW2.out.lt; omega⟩
   have C3 : Hid (Chg [] w2 w3) := hd (by rw [hw3]; exact (Chg.refl _ _).alloc _)
   have HC3 : Hid (Chg [b] w1 w3) := hd (HC2.out.trans C3.out (by simp))
   have HW3 := hd (HW2.out.quiet C3.out)
   refine hK.out _ _ HC3.out (fun hHeld => ?_)
   clear hK K hw3 hY
   have z := st1_14.out w3 d13 d14 X1 Y a HW3 HC3 HA (hd ⟨C3.out.blk HX1.out.1 (by simp), HX1.out.2⟩) HY
   rw [← HLIT.out, hA.out] at z
   try simp only [qq]
   exact wpAnyH_act (by kernel_rfl) z)
set_option maxHeartbeats 40000000 in
set_option maxRecDepth 100000 in
theorem rows1_2 (C : RowC w0 b w1 r) (hO : Hid (RowO O)) (HPQ : Hid (∀ c a d x w, Q0 (.panic c) (a.put d x) w → Q0 (.panic c) a w)) (hA : Hid (A0 = RowA b M r y)) (st1_12 : Hid (RowS1_12 T b deep w1 bad out v r O Q0 A0)) (st1_23 : Hid (RowS1_23 T b deep w1 bad out v r O Q0 A0)) (st1_24 : Hid (RowS1_24 T b deep w1 bad out v r O Q0 A0)) : Hid (RowS1_2 T b deep w1 bad out v r O Q0 A0) := hd (by
 have HL := C.HL
 have HB0 := C.HB0
 have HQ1 := C.HQ1
 have HRI := C.HRI
 have HRN := C.HRN
 clear C
 unfold RowS1_2
 have hlit := hO.out
 unfold RowO at hlit
 simp only [Tryz.f61, findR, Option.getD, if_true, if_false, Nat.reduceEqDiff] at hlit
 injection hlit with hlit
 have HLIT := hd hlit
 clear hlit hO
 intro w2 d13 d14 X2 a HW2 HC2 HA HX2
 rw [← HLIT.out, hA.out]
 unfold RowA
 try simp only [qq]
 refine rd3 15 33 42 (fun K hK => ?_) (fun K hK => ?_) (fun K hK => ?_)
 · go_simp
   obtain ⟨w3, hw3⟩ : ∃ W, W = w2.alloc (.cells #[.int .i64 r.x, .int .i64 r.y] 3) := ⟨_, rfl⟩
   rw [← hw3]
   obtain ⟨Y, hY⟩ : ∃ X, X = w2.heap.size := ⟨_, rfl⟩
   rw [← hY]
   have HY : Hid (Blk w3 Y [.int .i64 r.x, .int .i64 r.y] 3 ∧ Y ≠ b) := hd ⟨by rw [hw3, hY]; exact Blk.new w2 [.int .i64 r.x, .int .i64 r.y] _, by have := HW2.out.lt; omega⟩
   have C3 : Hid (Chg [] w2 w3) := hd (by rw [hw3]; exact (Chg.refl _ _).alloc _)
   have HC3 : Hid (Chg [b] w1 w3) := hd (HC2.out.trans C3.out (by simp))
   have HW3 := hd (HW2.out.quiet C3.out)
   refine hK.out _ _ HC3.out (fun hHeld => ?_)
   clear hK K hw3 hY
   have z := st1_12.out w3 d13 d14 Y X2 a HW3 HC3 HA HY (hd ⟨C3.out.blk HX2.out.1 (by simp), HX2.out.2⟩)
   rw [← HLIT.out, hA.out] at z
   try simp only [qq]
   exact wpAnyH_act (by kernel_rfl) z
 · go_simp
   obtain ⟨w3, hw3⟩ : ∃ W, W = w2.alloc (.cells #[.int .i64 r.t] 3) := ⟨_, rfl⟩
   rw [← hw3]
   obtain ⟨Y, hY⟩ : ∃ X, X = w2.heap.size := ⟨_, rfl⟩
   rw [← hY]
   have HY : Hid (Blk w3 Y [.int .i64 r.t] 3 ∧ Y ≠ b) := hd ⟨by rw [hw3, hY]; exact Blk.new w2 [.int .i64 r.t] _, by have := HW2.out.lt; omega⟩
   have C3 : Hid (Chg [] w2 w3) := hd (by rw [hw3]; exact (Chg.refl _ _).alloc _)
   have HC3 : Hid (Chg [b] w1 w3) := hd (HC2.out.trans C3.out (by simp))
   have HW3 := hd (HW2.out.quiet C3.out)
   refine hK.out _ _ HC3.out (fun hHeld => ?_)
   clear hK K hw3 hY
   have z := st1_23.out w3 d13 d14 X2 Y a HW3 HC3 HA (hd ⟨C3.out.blk HX2.out.1 (by simp), HX2.out.2⟩) HY
   rw [← HLIT.out, hA.out] at z
   try simp only [qq]
   exact wpAnyH_act (by kernel_rfl) z
 · go_simp
   obtain ⟨w3, hw3⟩ : ∃ W, W = w2.alloc (.cells #[.int .i64 r.step] 3) := ⟨_, rfl⟩
   rw [← hw3]
   obtain ⟨Y, hY⟩ : ∃ X, X = w2.heap.size := ⟨_, rfl⟩
   rw [← hY]
   have HY : Hid (Blk w3 Y [.int .i64 r.step] 3 ∧ Y ≠ b) := hd ⟨by rw [hw3, hY]; exact Blk.new w2 [.int .i64 r.step] _, by have := HW2.out.lt; omega⟩
   have C3 : Hid (Chg [] w2 w3) := hd (by rw [hw3]; exact (Chg.refl _ _).alloc _)
   have HC3 : Hid (Chg [b] w1 w3) := hd (HC2.out.trans C3.out (by simp))
   have HW3 := hd (HW2.out.quiet C3.out)
   refine hK.out _ _ HC3.out (fun hHeld => ?_)
   clear hK K hw3 hY
   have z := st1_24.out w3 d13 d14 X2 Y a HW3 HC3 HA (hd ⟨C3.out.blk HX2.out.1 (by simp), HX2.out.2⟩) HY
   rw [← HLIT.out, hA.out] at z
   try simp only [qq]
   exact wpAnyH_act (by kernel_rfl) z)
set_option maxHeartbeats 40000000 in
set_option maxRecDepth 100000 in
theorem rows1_3 (C : RowC w0 b w1 r) (hO : Hid (RowO O)) (HPQ : Hid (∀ c a d x w, Q0 (.panic c) (a.put d x) w → Q0 (.panic c) a w)) (hA : Hid (A0 = RowA b M r y)) (st1_13 : Hid (RowS1_13 T b deep w1 bad out v r O Q0 A0)) (st1_23 : Hid (RowS1_23 T b deep w1 bad out v r O Q0 A0)) (st1_34 : Hid (RowS1_34 T b deep w1 bad out v r O Q0 A0)) : Hid (RowS1_3 T b deep w1 bad out v r O Q0 A0) := hd (by
 have HL := C.HL
 have HB0 := C.HB0
 have HQ1 := C.HQ1
 have HRI := C.HRI
 have HRN := C.HRN
 clear C
 unfold RowS1_3
 have hlit := hO.out
 unfold RowO at hlit
 simp only [Tryz.f61, findR, Option.getD, if_true, if_false, Nat.reduceEqDiff] at hlit
 injection hlit with hlit
 have HLIT := hd hlit
 clear hlit hO
 intro w2 d13 d14 X3 a HW2 HC2 HA HX3
 rw [← HLIT.out, hA.out]
 unfold RowA
 try simp only [qq]
 refine rd3 15 24 42 (fun K hK => ?_) (fun K hK => ?_) (fun K hK => ?_)
 · go_simp
   obtain ⟨w3, hw3⟩ : ∃ W, W = w2.alloc (.cells #[.int .i64 r.x, .int .i64 r.y] 3) := ⟨_, rfl⟩
   rw [← hw3]
   obtain ⟨Y, hY⟩ : ∃ X, X = w2.heap.size := ⟨_, rfl⟩
   rw [← hY]
   have HY : Hid (Blk w3 Y [.int .i64 r.x, .int .i64 r.y] 3 ∧ Y ≠ b) := hd ⟨by rw [hw3, hY]; exact Blk.new w2 [.int .i64 r.x, .int .i64 r.y] _, by have := HW2.out.lt; omega⟩
   have C3 : Hid (Chg [] w2 w3) := hd (by rw [hw3]; exact (Chg.refl _ _).alloc _)
   have HC3 : Hid (Chg [b] w1 w3) := hd (HC2.out.trans C3.out (by simp))
   have HW3 := hd (HW2.out.quiet C3.out)
   refine hK.out _ _ HC3.out (fun hHeld => ?_)
   clear hK K hw3 hY
   have z := st1_13.out w3 d13 d14 Y X3 a HW3 HC3 HA HY (hd ⟨C3.out.blk HX3.out.1 (by simp), HX3.out.2⟩)
   rw [← HLIT.out, hA.out] at z
   try simp only [qq]
   exact wpAnyH_act (by kernel_rfl) z
 · go_simp
   obtain ⟨w3, hw3⟩ : ∃ W, W = w2.alloc (.cells #[.int .i64 r.f] 3) := ⟨_, rfl⟩
   rw [← hw3]
   obtain ⟨Y, hY⟩ : ∃ X, X = w2.heap.size := ⟨_, rfl⟩
   rw [← hY]
   have HY : Hid (Blk w3 Y [.int .i64 r.f] 3 ∧ Y ≠ b) := hd ⟨by rw [hw3, hY]; exact Blk.new w2 [.int .i64 r.f] _, by have := HW2.out.lt; omega⟩
   have C3 : Hid (Chg [] w2 w3) := hd (by rw [hw3]; exact (Chg.refl _ _).alloc _)
   have HC3 : Hid (Chg [b] w1 w3) := hd (HC2.out.trans C3.out (by simp))
   have HW3 := hd (HW2.out.quiet C3.out)
   refine hK.out _ _ HC3.out (fun hHeld => ?_)
   clear hK K hw3 hY
   have z := st1_23.out w3 d13 d14 Y X3 a HW3 HC3 HA HY (hd ⟨C3.out.blk HX3.out.1 (by simp), HX3.out.2⟩)
   rw [← HLIT.out, hA.out] at z
   try simp only [qq]
   exact wpAnyH_act (by kernel_rfl) z
 · go_simp
   obtain ⟨w3, hw3⟩ : ∃ W, W = w2.alloc (.cells #[.int .i64 r.step] 3) := ⟨_, rfl⟩
   rw [← hw3]
   obtain ⟨Y, hY⟩ : ∃ X, X = w2.heap.size := ⟨_, rfl⟩
   rw [← hY]
   have HY : Hid (Blk w3 Y [.int .i64 r.step] 3 ∧ Y ≠ b) := hd ⟨by rw [hw3, hY]; exact Blk.new w2 [.int .i64 r.step] _, by have := HW2.out.lt; omega⟩
   have C3 : Hid (Chg [] w2 w3) := hd (by rw [hw3]; exact (Chg.refl _ _).alloc _)
   have HC3 : Hid (Chg [b] w1 w3) := hd (HC2.out.trans C3.out (by simp))
   have HW3 := hd (HW2.out.quiet C3.out)
   refine hK.out _ _ HC3.out (fun hHeld => ?_)
   clear hK K hw3 hY
   have z := st1_34.out w3 d13 d14 X3 Y a HW3 HC3 HA (hd ⟨C3.out.blk HX3.out.1 (by simp), HX3.out.2⟩) HY
   rw [← HLIT.out, hA.out] at z
   try simp only [qq]
   exact wpAnyH_act (by kernel_rfl) z)
set_option maxHeartbeats 40000000 in
set_option maxRecDepth 100000 in
theorem rows1_4 (C : RowC w0 b w1 r) (hO : Hid (RowO O)) (HPQ : Hid (∀ c a d x w, Q0 (.panic c) (a.put d x) w → Q0 (.panic c) a w)) (hA : Hid (A0 = RowA b M r y)) (st1_14 : Hid (RowS1_14 T b deep w1 bad out v r O Q0 A0)) (st1_24 : Hid (RowS1_24 T b deep w1 bad out v r O Q0 A0)) (st1_34 : Hid (RowS1_34 T b deep w1 bad out v r O Q0 A0)) : Hid (RowS1_4 T b deep w1 bad out v r O Q0 A0) := hd (by
 have HL := C.HL
 have HB0 := C.HB0
 have HQ1 := C.HQ1
 have HRI := C.HRI
 have HRN := C.HRN
 clear C
 unfold RowS1_4
 have hlit := hO.out
 unfold RowO at hlit
 simp only [Tryz.f61, findR, Option.getD, if_true, if_false, Nat.reduceEqDiff] at hlit
 injection hlit with hlit
 have HLIT := hd hlit
 clear hlit hO
 intro w2 d13 d14 X4 a HW2 HC2 HA HX4
 rw [← HLIT.out, hA.out]
 unfold RowA
 try simp only [qq]
 refine rd3 15 24 33 (fun K hK => ?_) (fun K hK => ?_) (fun K hK => ?_)
 · go_simp
   obtain ⟨w3, hw3⟩ : ∃ W, W = w2.alloc (.cells #[.int .i64 r.x, .int .i64 r.y] 3) := ⟨_, rfl⟩
   rw [← hw3]
   obtain ⟨Y, hY⟩ : ∃ X, X = w2.heap.size := ⟨_, rfl⟩
   rw [← hY]
   have HY : Hid (Blk w3 Y [.int .i64 r.x, .int .i64 r.y] 3 ∧ Y ≠ b) := hd ⟨by rw [hw3, hY]; exact Blk.new w2 [.int .i64 r.x, .int .i64 r.y] _, by have := HW2.out.lt; omega⟩
   have C3 : Hid (Chg [] w2 w3) := hd (by rw [hw3]; exact (Chg.refl _ _).alloc _)
   have HC3 : Hid (Chg [b] w1 w3) := hd (HC2.out.trans C3.out (by simp))
   have HW3 := hd (HW2.out.quiet C3.out)
   refine hK.out _ _ HC3.out (fun hHeld => ?_)
   clear hK K hw3 hY
   have z := st1_14.out w3 d13 d14 Y X4 a HW3 HC3 HA HY (hd ⟨C3.out.blk HX4.out.1 (by simp), HX4.out.2⟩)
   rw [← HLIT.out, hA.out] at z
   try simp only [qq]
   exact wpAnyH_act (by kernel_rfl) z
 · go_simp
   obtain ⟨w3, hw3⟩ : ∃ W, W = w2.alloc (.cells #[.int .i64 r.f] 3) := ⟨_, rfl⟩
   rw [← hw3]
   obtain ⟨Y, hY⟩ : ∃ X, X = w2.heap.size := ⟨_, rfl⟩
   rw [← hY]
   have HY : Hid (Blk w3 Y [.int .i64 r.f] 3 ∧ Y ≠ b) := hd ⟨by rw [hw3, hY]; exact Blk.new w2 [.int .i64 r.f] _, by have := HW2.out.lt; omega⟩
   have C3 : Hid (Chg [] w2 w3) := hd (by rw [hw3]; exact (Chg.refl _ _).alloc _)
   have HC3 : Hid (Chg [b] w1 w3) := hd (HC2.out.trans C3.out (by simp))
   have HW3 := hd (HW2.out.quiet C3.out)
   refine hK.out _ _ HC3.out (fun hHeld => ?_)
   clear hK K hw3 hY
   have z := st1_24.out w3 d13 d14 Y X4 a HW3 HC3 HA HY (hd ⟨C3.out.blk HX4.out.1 (by simp), HX4.out.2⟩)
   rw [← HLIT.out, hA.out] at z
   try simp only [qq]
   exact wpAnyH_act (by kernel_rfl) z
 · go_simp
   obtain ⟨w3, hw3⟩ : ∃ W, W = w2.alloc (.cells #[.int .i64 r.t] 3) := ⟨_, rfl⟩
   rw [← hw3]
   obtain ⟨Y, hY⟩ : ∃ X, X = w2.heap.size := ⟨_, rfl⟩
   rw [← hY]
   have HY : Hid (Blk w3 Y [.int .i64 r.t] 3 ∧ Y ≠ b) := hd ⟨by rw [hw3, hY]; exact Blk.new w2 [.int .i64 r.t] _, by have := HW2.out.lt; omega⟩
   have C3 : Hid (Chg [] w2 w3) := hd (by rw [hw3]; exact (Chg.refl _ _).alloc _)
   have HC3 : Hid (Chg [b] w1 w3) := hd (HC2.out.trans C3.out (by simp))
   have HW3 := hd (HW2.out.quiet C3.out)
   refine hK.out _ _ HC3.out (fun hHeld => ?_)
   clear hK K hw3 hY
   have z := st1_34.out w3 d13 d14 Y X4 a HW3 HC3 HA HY (hd ⟨C3.out.blk HX4.out.1 (by simp), HX4.out.2⟩)
   rw [← HLIT.out, hA.out] at z
   try simp only [qq]
   exact wpAnyH_act (by kernel_rfl) z)
set_option maxHeartbeats 40000000 in
set_option maxRecDepth 100000 in
theorem rows1_ (C : RowC w0 b w1 r) (hO : Hid (RowO O)) (HPQ : Hid (∀ c a d x w, Q0 (.panic c) (a.put d x) w → Q0 (.panic c) a w)) (hA : Hid (A0 = RowA b M r y)) (st1_1 : Hid (RowS1_1 T b deep w1 bad out v r O Q0 A0)) (st1_2 : Hid (RowS1_2 T b deep w1 bad out v r O Q0 A0)) (st1_3 : Hid (RowS1_3 T b deep w1 bad out v r O Q0 A0)) (st1_4 : Hid (RowS1_4 T b deep w1 bad out v r O Q0 A0)) : Hid (RowS1_ T b deep w1 bad out v r O Q0 A0) := hd (by
 have HL := C.HL
 have HB0 := C.HB0
 have HQ1 := C.HQ1
 have HRI := C.HRI
 have HRN := C.HRN
 clear C
 unfold RowS1_
 have hlit := hO.out
 unfold RowO at hlit
 simp only [Tryz.f61, findR, Option.getD, if_true, if_false, Nat.reduceEqDiff] at hlit
 injection hlit with hlit
 have HLIT := hd hlit
 clear hlit hO
 intro w2 d13 d14 a HW2 HC2 HA
 rw [← HLIT.out, hA.out]
 unfold RowA
 try simp only [qq]
 refine rd4 15 24 33 42 (fun K hK => ?_) (fun K hK => ?_) (fun K hK => ?_) (fun K hK => ?_)
 · go_simp
   obtain ⟨w3, hw3⟩ : ∃ W, W = w2.alloc (.cells #[.int .i64 r.x, .int .i64 r.y] 3) := ⟨_, rfl⟩
   rw [← hw3]
   obtain ⟨Y, hY⟩ : ∃ X, X = w2.heap.size := ⟨_, rfl⟩
   rw [← hY]
   have HY : Hid (Blk w3 Y [.int .i64 r.x, .int .i64 r.y] 3 ∧ Y ≠ b) := hd ⟨by rw [hw3, hY]; exact Blk.new w2 [.int .i64 r.x, .int .i64 r.y] _, by have := HW2.out.lt; omega⟩
   have C3 : Hid (Chg [] w2 w3) := hd (by rw [hw3]; exact (Chg.refl _ _).alloc _)
   have HC3 : Hid (Chg [b] w1 w3) := hd (HC2.out.trans C3.out (by simp))
   have HW3 := hd (HW2.out.quiet C3.out)
   refine hK.out _ _ HC3.out (fun hHeld => ?_)
   clear hK K hw3 hY
   have z := st1_1.out w3 d13 d14 Y a HW3 HC3 HA HY
   rw [← HLIT.out, hA.out] at z
   try simp only [qq]
   exact wpAnyH_act (by kernel_rfl) z
 · go_simp
   obtain ⟨w3, hw3⟩ : ∃ W, W = w2.alloc (.cells #[.int .i64 r.f] 3) := ⟨_, rfl⟩
   rw [← hw3]
   obtain ⟨Y, hY⟩ : ∃ X, X = w2.heap.size := ⟨_, rfl⟩
   rw [← hY]
   have HY : Hid (Blk w3 Y [.int .i64 r.f] 3 ∧ Y ≠ b) := hd ⟨by rw [hw3, hY]; exact Blk.new w2 [.int .i64 r.f] _, by have := HW2.out.lt; omega⟩
   have C3 : Hid (Chg [] w2 w3) := hd (by rw [hw3]; exact (Chg.refl _ _).alloc _)
   have HC3 : Hid (Chg [b] w1 w3) := hd (HC2.out.trans C3.out (by simp))
   have HW3 := hd (HW2.out.quiet C3.out)
   refine hK.out _ _ HC3.out (fun hHeld => ?_)
   clear hK K hw3 hY
   have z := st1_2.out w3 d13 d14 Y a HW3 HC3 HA HY
   rw [← HLIT.out, hA.out] at z
   try simp only [qq]
   exact wpAnyH_act (by kernel_rfl) z
 · go_simp
   obtain ⟨w3, hw3⟩ : ∃ W, W = w2.alloc (.cells #[.int .i64 r.t] 3) := ⟨_, rfl⟩
   rw [← hw3]
   obtain ⟨Y, hY⟩ : ∃ X, X = w2.heap.size := ⟨_, rfl⟩
   rw [← hY]
   have HY : Hid (Blk w3 Y [.int .i64 r.t] 3 ∧ Y ≠ b) := hd ⟨by rw [hw3, hY]; exact Blk.new w2 [.int .i64 r.t] _, by have := HW2.out.lt; omega⟩
   have C3 : Hid (Chg [] w2 w3) := hd (by rw [hw3]; exact (Chg.refl _ _).alloc _)
   have HC3 : Hid (Chg [b] w1 w3) := hd (HC2.out.trans C3.out (by simp))
   have HW3 := hd (HW2.out.quiet C3.out)
   refine hK.out _ _ HC3.out (fun hHeld => ?_)
   clear hK K hw3 hY
   have z := st1_3.out w3 d13 d14 Y a HW3 HC3 HA HY
   rw [← HLIT.out, hA.out] at z
   try simp only [qq]
   exact wpAnyH_act (by kernel_rfl) z
 · go_simp
   obtain ⟨w3, hw3⟩ : ∃ W, W = w2.alloc (.cells #[.int .i64 r.step] 3) := ⟨_, rfl⟩
   rw [← hw3]
   obtain ⟨Y, hY⟩ : ∃ X, X = w2.heap.size := ⟨_, rfl⟩
   rw [← hY]
   have HY : Hid (Blk w3 Y [.int .i64 r.step] 3 ∧ Y ≠ b) := hd ⟨by rw [hw3, hY]; exact Blk.new w2 [.int .i64 r.step] _, by have := HW2.out.lt; omega⟩
   have C3 : Hid (Chg [] w2 w3) := hd (by rw [hw3]; exact (Chg.refl _ _).alloc _)
   have HC3 : Hid (Chg [b] w1 w3) := hd (HC2.out.trans C3.out (by simp))
   have HW3 := hd (HW2.out.quiet C3.out)
   refine hK.out _ _ HC3.out (fun hHeld => ?_)
   clear hK K hw3 hY
   have z := st1_4.out w3 d13 d14 Y a HW3 HC3 HA HY
   rw [← HLIT.out, hA.out] at z
   try simp only [qq]
   exact wpAnyH_act (by kernel_rfl) z)
set_option maxHeartbeats 40000000 in
set_option maxRecDepth 100000 in
theorem rows0_1234 (C : RowC w0 b w1 r) (hO : Hid (RowO O)) (HPQ : Hid (∀ c a d x w, Q0 (.panic c) (a.put d x) w → Q0 (.panic c) a w)) (hA : Hid (A0 = RowA b M r y)) (st1_1234 : Hid (RowS1_1234 T b deep w1 bad out v r O Q0 A0)) : Hid (RowS0_1234 T b deep w1 bad out v r O Q0 A0) := hd (by
 have HL := C.HL
 have HB0 := C.HB0
 have HQ1 := C.HQ1
 have HRI := C.HRI
 have HRN := C.HRN
 clear C
 unfold RowS0_1234
 have hlit := hO.out
 unfold RowO at hlit
 simp only [Tryz.f61, findR, Option.getD, if_true, if_false, Nat.reduceEqDiff] at hlit
 injection hlit with hlit
 have HLIT := hd hlit
 clear hlit hO
 intro w2 X1 X2 X3 X4 HW2 HC2 HX1 HX2 HX3 HX4
 rw [← HLIT.out, hA.out]
 unfold RowA
 try simp only [qq]
 refine rd1 5 (fun K hK => ?_)
 · go_simp
   refine name_r HW2 r.name (fun w3 h3 h4 => ?_)
   have HW3 := hd h3
   have HC3 : Hid (Chg [b] w1 w3) := hd (HC2.out.trans h4 (fun q hq => .inl hq))
   have H34 := hd h4
   refine hK.out _ _ HC3.out (fun hHeld => ?_)
   clear hK K h3 h4
   try simp only [qq]
   have g1 : ¬ 9223372036854775807 < 4 + r.name.length := by have := HRN.out; omega
   have g2 : ¬ 9223372036854775807 < 4 + r.name.length + 3 := by have := HRN.out; omega
   refine tk 6 ?vn12346 ?hyn12346 ?rsn12346 (hQ := fun _ _ _ h => HPQ.out _ _ _ _ _ h)
   case hyn12346 => (intro w9 hSw; go_simp; try with_reducible rfl)
   try simp only [qq]
   rw [show (⟨#[114, 111, 119, 32]⟩ : ByteArray) ++ ⟨r.name.toArray⟩ = ⟨(Pr.tRow ++ r.name).toArray⟩ from str2 _ _]
   have gz : (⟨(Pr.tRow ++ r.name).toArray⟩ : ByteArray).size = 4 + r.name.length := by rw [size_of9, List.length_append]; rfl
   refine tk 7 ?vm12347 ?hym12347 ?rsm12347 (hQ := fun _ _ _ h => HPQ.out _ _ _ _ _ h)
   case hym12347 => (intro w9 hSw; go_simp; try with_reducible rfl)
   try simp only [qq]
   rw [show (⟨(Pr.tRow ++ r.name).toArray⟩ : ByteArray) ++ ⟨#[32, 97, 116]⟩ = ⟨(Pr.tRow ++ r.name ++ Pr.tAt).toArray⟩ from str2 _ _]
   have z := st1_1234.out w3 (.string ⟨(r.name).toArray⟩) (.string ⟨(Pr.tRow ++ r.name).toArray⟩) X1 X2 X3 X4 (Pr.tRow ++ r.name ++ Pr.tAt) HW3 HC3 (hd ⟨rfl, by have := HRN.out; rw [List.length_append, List.length_append]; show 4 + _ + 3 ≤ _; omega⟩) (hd ⟨H34.out.blk HX1.out.1 (by simp [HX1.out.2]), HX1.out.2⟩) (hd ⟨H34.out.blk HX2.out.1 (by simp [HX2.out.2]), HX2.out.2⟩) (hd ⟨H34.out.blk HX3.out.1 (by simp [HX3.out.2]), HX3.out.2⟩) (hd ⟨H34.out.blk HX4.out.1 (by simp [HX4.out.2]), HX4.out.2⟩)
   rw [← HLIT.out, hA.out] at z
   try simp only [qq]
   exact wpAnyH_act (by kernel_rfl) z)
set_option maxHeartbeats 40000000 in
set_option maxRecDepth 100000 in
theorem rows0_123 (C : RowC w0 b w1 r) (hO : Hid (RowO O)) (HPQ : Hid (∀ c a d x w, Q0 (.panic c) (a.put d x) w → Q0 (.panic c) a w)) (hA : Hid (A0 = RowA b M r y)) (st1_123 : Hid (RowS1_123 T b deep w1 bad out v r O Q0 A0)) (st0_1234 : Hid (RowS0_1234 T b deep w1 bad out v r O Q0 A0)) : Hid (RowS0_123 T b deep w1 bad out v r O Q0 A0) := hd (by
 have HL := C.HL
 have HB0 := C.HB0
 have HQ1 := C.HQ1
 have HRI := C.HRI
 have HRN := C.HRN
 clear C
 unfold RowS0_123
 have hlit := hO.out
 unfold RowO at hlit
 simp only [Tryz.f61, findR, Option.getD, if_true, if_false, Nat.reduceEqDiff] at hlit
 injection hlit with hlit
 have HLIT := hd hlit
 clear hlit hO
 intro w2 X1 X2 X3 HW2 HC2 HX1 HX2 HX3
 rw [← HLIT.out, hA.out]
 unfold RowA
 try simp only [qq]
 refine rd2 5 42 (fun K hK => ?_) (fun K hK => ?_)
 · go_simp
   refine name_r HW2 r.name (fun w3 h3 h4 => ?_)
   have HW3 := hd h3
   have HC3 : Hid (Chg [b] w1 w3) := hd (HC2.out.trans h4 (fun q hq => .inl hq))
   have H34 := hd h4
   refine hK.out _ _ HC3.out (fun hHeld => ?_)
   clear hK K h3 h4
   try simp only [qq]
   have g1 : ¬ 9223372036854775807 < 4 + r.name.length := by have := HRN.out; omega
   have g2 : ¬ 9223372036854775807 < 4 + r.name.length + 3 := by have := HRN.out; omega
   refine tk 6 ?vn1236 ?hyn1236 ?rsn1236 (hQ := fun _ _ _ h => HPQ.out _ _ _ _ _ h)
   case hyn1236 => (intro w9 hSw; go_simp; try with_reducible rfl)
   try simp only [qq]
   rw [show (⟨#[114, 111, 119, 32]⟩ : ByteArray) ++ ⟨r.name.toArray⟩ = ⟨(Pr.tRow ++ r.name).toArray⟩ from str2 _ _]
   have gz : (⟨(Pr.tRow ++ r.name).toArray⟩ : ByteArray).size = 4 + r.name.length := by rw [size_of9, List.length_append]; rfl
   refine tk 7 ?vm1237 ?hym1237 ?rsm1237 (hQ := fun _ _ _ h => HPQ.out _ _ _ _ _ h)
   case hym1237 => (intro w9 hSw; go_simp; try with_reducible rfl)
   try simp only [qq]
   rw [show (⟨(Pr.tRow ++ r.name).toArray⟩ : ByteArray) ++ ⟨#[32, 97, 116]⟩ = ⟨(Pr.tRow ++ r.name ++ Pr.tAt).toArray⟩ from str2 _ _]
   have z := st1_123.out w3 (.string ⟨(r.name).toArray⟩) (.string ⟨(Pr.tRow ++ r.name).toArray⟩) X1 X2 X3 (Pr.tRow ++ r.name ++ Pr.tAt) HW3 HC3 (hd ⟨rfl, by have := HRN.out; rw [List.length_append, List.length_append]; show 4 + _ + 3 ≤ _; omega⟩) (hd ⟨H34.out.blk HX1.out.1 (by simp [HX1.out.2]), HX1.out.2⟩) (hd ⟨H34.out.blk HX2.out.1 (by simp [HX2.out.2]), HX2.out.2⟩) (hd ⟨H34.out.blk HX3.out.1 (by simp [HX3.out.2]), HX3.out.2⟩)
   rw [← HLIT.out, hA.out] at z
   try simp only [qq]
   exact wpAnyH_act (by kernel_rfl) z
 · go_simp
   obtain ⟨w3, hw3⟩ : ∃ W, W = w2.alloc (.cells #[.int .i64 r.step] 3) := ⟨_, rfl⟩
   rw [← hw3]
   obtain ⟨Y, hY⟩ : ∃ X, X = w2.heap.size := ⟨_, rfl⟩
   rw [← hY]
   have HY : Hid (Blk w3 Y [.int .i64 r.step] 3 ∧ Y ≠ b) := hd ⟨by rw [hw3, hY]; exact Blk.new w2 [.int .i64 r.step] _, by have := HW2.out.lt; omega⟩
   have C3 : Hid (Chg [] w2 w3) := hd (by rw [hw3]; exact (Chg.refl _ _).alloc _)
   have HC3 : Hid (Chg [b] w1 w3) := hd (HC2.out.trans C3.out (by simp))
   have HW3 := hd (HW2.out.quiet C3.out)
   refine hK.out _ _ HC3.out (fun hHeld => ?_)
   clear hK K hw3 hY
   have z := st0_1234.out w3 X1 X2 X3 Y HW3 HC3 (hd ⟨C3.out.blk HX1.out.1 (by simp), HX1.out.2⟩) (hd ⟨C3.out.blk HX2.out.1 (by simp), HX2.out.2⟩) (hd ⟨C3.out.blk HX3.out.1 (by simp), HX3.out.2⟩) HY
   rw [← HLIT.out, hA.out] at z
   try simp only [qq]
   exact wpAnyH_act (by kernel_rfl) z)
set_option maxHeartbeats 40000000 in
set_option maxRecDepth 100000 in
theorem rows0_124 (C : RowC w0 b w1 r) (hO : Hid (RowO O)) (HPQ : Hid (∀ c a d x w, Q0 (.panic c) (a.put d x) w → Q0 (.panic c) a w)) (hA : Hid (A0 = RowA b M r y)) (st1_124 : Hid (RowS1_124 T b deep w1 bad out v r O Q0 A0)) (st0_1234 : Hid (RowS0_1234 T b deep w1 bad out v r O Q0 A0)) : Hid (RowS0_124 T b deep w1 bad out v r O Q0 A0) := hd (by
 have HL := C.HL
 have HB0 := C.HB0
 have HQ1 := C.HQ1
 have HRI := C.HRI
 have HRN := C.HRN
 clear C
 unfold RowS0_124
 have hlit := hO.out
 unfold RowO at hlit
 simp only [Tryz.f61, findR, Option.getD, if_true, if_false, Nat.reduceEqDiff] at hlit
 injection hlit with hlit
 have HLIT := hd hlit
 clear hlit hO
 intro w2 X1 X2 X4 HW2 HC2 HX1 HX2 HX4
 rw [← HLIT.out, hA.out]
 unfold RowA
 try simp only [qq]
 refine rd2 5 33 (fun K hK => ?_) (fun K hK => ?_)
 · go_simp
   refine name_r HW2 r.name (fun w3 h3 h4 => ?_)
   have HW3 := hd h3
   have HC3 : Hid (Chg [b] w1 w3) := hd (HC2.out.trans h4 (fun q hq => .inl hq))
   have H34 := hd h4
   refine hK.out _ _ HC3.out (fun hHeld => ?_)
   clear hK K h3 h4
   try simp only [qq]
   have g1 : ¬ 9223372036854775807 < 4 + r.name.length := by have := HRN.out; omega
   have g2 : ¬ 9223372036854775807 < 4 + r.name.length + 3 := by have := HRN.out; omega
   refine tk 6 ?vn1246 ?hyn1246 ?rsn1246 (hQ := fun _ _ _ h => HPQ.out _ _ _ _ _ h)
   case hyn1246 => (intro w9 hSw; go_simp; try with_reducible rfl)
   try simp only [qq]
   rw [show (⟨#[114, 111, 119, 32]⟩ : ByteArray) ++ ⟨r.name.toArray⟩ = ⟨(Pr.tRow ++ r.name).toArray⟩ from str2 _ _]
   have gz : (⟨(Pr.tRow ++ r.name).toArray⟩ : ByteArray).size = 4 + r.name.length := by rw [size_of9, List.length_append]; rfl
   refine tk 7 ?vm1247 ?hym1247 ?rsm1247 (hQ := fun _ _ _ h => HPQ.out _ _ _ _ _ h)
   case hym1247 => (intro w9 hSw; go_simp; try with_reducible rfl)
   try simp only [qq]
   rw [show (⟨(Pr.tRow ++ r.name).toArray⟩ : ByteArray) ++ ⟨#[32, 97, 116]⟩ = ⟨(Pr.tRow ++ r.name ++ Pr.tAt).toArray⟩ from str2 _ _]
   have z := st1_124.out w3 (.string ⟨(r.name).toArray⟩) (.string ⟨(Pr.tRow ++ r.name).toArray⟩) X1 X2 X4 (Pr.tRow ++ r.name ++ Pr.tAt) HW3 HC3 (hd ⟨rfl, by have := HRN.out; rw [List.length_append, List.length_append]; show 4 + _ + 3 ≤ _; omega⟩) (hd ⟨H34.out.blk HX1.out.1 (by simp [HX1.out.2]), HX1.out.2⟩) (hd ⟨H34.out.blk HX2.out.1 (by simp [HX2.out.2]), HX2.out.2⟩) (hd ⟨H34.out.blk HX4.out.1 (by simp [HX4.out.2]), HX4.out.2⟩)
   rw [← HLIT.out, hA.out] at z
   try simp only [qq]
   exact wpAnyH_act (by kernel_rfl) z
 · go_simp
   obtain ⟨w3, hw3⟩ : ∃ W, W = w2.alloc (.cells #[.int .i64 r.t] 3) := ⟨_, rfl⟩
   rw [← hw3]
   obtain ⟨Y, hY⟩ : ∃ X, X = w2.heap.size := ⟨_, rfl⟩
   rw [← hY]
   have HY : Hid (Blk w3 Y [.int .i64 r.t] 3 ∧ Y ≠ b) := hd ⟨by rw [hw3, hY]; exact Blk.new w2 [.int .i64 r.t] _, by have := HW2.out.lt; omega⟩
   have C3 : Hid (Chg [] w2 w3) := hd (by rw [hw3]; exact (Chg.refl _ _).alloc _)
   have HC3 : Hid (Chg [b] w1 w3) := hd (HC2.out.trans C3.out (by simp))
   have HW3 := hd (HW2.out.quiet C3.out)
   refine hK.out _ _ HC3.out (fun hHeld => ?_)
   clear hK K hw3 hY
   have z := st0_1234.out w3 X1 X2 Y X4 HW3 HC3 (hd ⟨C3.out.blk HX1.out.1 (by simp), HX1.out.2⟩) (hd ⟨C3.out.blk HX2.out.1 (by simp), HX2.out.2⟩) HY (hd ⟨C3.out.blk HX4.out.1 (by simp), HX4.out.2⟩)
   rw [← HLIT.out, hA.out] at z
   try simp only [qq]
   exact wpAnyH_act (by kernel_rfl) z)
set_option maxHeartbeats 40000000 in
set_option maxRecDepth 100000 in
theorem rows0_134 (C : RowC w0 b w1 r) (hO : Hid (RowO O)) (HPQ : Hid (∀ c a d x w, Q0 (.panic c) (a.put d x) w → Q0 (.panic c) a w)) (hA : Hid (A0 = RowA b M r y)) (st1_134 : Hid (RowS1_134 T b deep w1 bad out v r O Q0 A0)) (st0_1234 : Hid (RowS0_1234 T b deep w1 bad out v r O Q0 A0)) : Hid (RowS0_134 T b deep w1 bad out v r O Q0 A0) := hd (by
 have HL := C.HL
 have HB0 := C.HB0
 have HQ1 := C.HQ1
 have HRI := C.HRI
 have HRN := C.HRN
 clear C
 unfold RowS0_134
 have hlit := hO.out
 unfold RowO at hlit
 simp only [Tryz.f61, findR, Option.getD, if_true, if_false, Nat.reduceEqDiff] at hlit
 injection hlit with hlit
 have HLIT := hd hlit
 clear hlit hO
 intro w2 X1 X3 X4 HW2 HC2 HX1 HX3 HX4
 rw [← HLIT.out, hA.out]
 unfold RowA
 try simp only [qq]
 refine rd2 5 24 (fun K hK => ?_) (fun K hK => ?_)
 · go_simp
   refine name_r HW2 r.name (fun w3 h3 h4 => ?_)
   have HW3 := hd h3
   have HC3 : Hid (Chg [b] w1 w3) := hd (HC2.out.trans h4 (fun q hq => .inl hq))
   have H34 := hd h4
   refine hK.out _ _ HC3.out (fun hHeld => ?_)
   clear hK K h3 h4
   try simp only [qq]
   have g1 : ¬ 9223372036854775807 < 4 + r.name.length := by have := HRN.out; omega
   have g2 : ¬ 9223372036854775807 < 4 + r.name.length + 3 := by have := HRN.out; omega
   refine tk 6 ?vn1346 ?hyn1346 ?rsn1346 (hQ := fun _ _ _ h => HPQ.out _ _ _ _ _ h)
   case hyn1346 => (intro w9 hSw; go_simp; try with_reducible rfl)
   try simp only [qq]
   rw [show (⟨#[114, 111, 119, 32]⟩ : ByteArray) ++ ⟨r.name.toArray⟩ = ⟨(Pr.tRow ++ r.name).toArray⟩ from str2 _ _]
   have gz : (⟨(Pr.tRow ++ r.name).toArray⟩ : ByteArray).size = 4 + r.name.length := by rw [size_of9, List.length_append]; rfl
   refine tk 7 ?vm1347 ?hym1347 ?rsm1347 (hQ := fun _ _ _ h => HPQ.out _ _ _ _ _ h)
   case hym1347 => (intro w9 hSw; go_simp; try with_reducible rfl)
   try simp only [qq]
   rw [show (⟨(Pr.tRow ++ r.name).toArray⟩ : ByteArray) ++ ⟨#[32, 97, 116]⟩ = ⟨(Pr.tRow ++ r.name ++ Pr.tAt).toArray⟩ from str2 _ _]
   have z := st1_134.out w3 (.string ⟨(r.name).toArray⟩) (.string ⟨(Pr.tRow ++ r.name).toArray⟩) X1 X3 X4 (Pr.tRow ++ r.name ++ Pr.tAt) HW3 HC3 (hd ⟨rfl, by have := HRN.out; rw [List.length_append, List.length_append]; show 4 + _ + 3 ≤ _; omega⟩) (hd ⟨H34.out.blk HX1.out.1 (by simp [HX1.out.2]), HX1.out.2⟩) (hd ⟨H34.out.blk HX3.out.1 (by simp [HX3.out.2]), HX3.out.2⟩) (hd ⟨H34.out.blk HX4.out.1 (by simp [HX4.out.2]), HX4.out.2⟩)
   rw [← HLIT.out, hA.out] at z
   try simp only [qq]
   exact wpAnyH_act (by kernel_rfl) z
 · go_simp
   obtain ⟨w3, hw3⟩ : ∃ W, W = w2.alloc (.cells #[.int .i64 r.f] 3) := ⟨_, rfl⟩
   rw [← hw3]
   obtain ⟨Y, hY⟩ : ∃ X, X = w2.heap.size := ⟨_, rfl⟩
   rw [← hY]
   have HY : Hid (Blk w3 Y [.int .i64 r.f] 3 ∧ Y ≠ b) := hd ⟨by rw [hw3, hY]; exact Blk.new w2 [.int .i64 r.f] _, by have := HW2.out.lt; omega⟩
   have C3 : Hid (Chg [] w2 w3) := hd (by rw [hw3]; exact (Chg.refl _ _).alloc _)
   have HC3 : Hid (Chg [b] w1 w3) := hd (HC2.out.trans C3.out (by simp))
   have HW3 := hd (HW2.out.quiet C3.out)
   refine hK.out _ _ HC3.out (fun hHeld => ?_)
   clear hK K hw3 hY
   have z := st0_1234.out w3 X1 Y X3 X4 HW3 HC3 (hd ⟨C3.out.blk HX1.out.1 (by simp), HX1.out.2⟩) HY (hd ⟨C3.out.blk HX3.out.1 (by simp), HX3.out.2⟩) (hd ⟨C3.out.blk HX4.out.1 (by simp), HX4.out.2⟩)
   rw [← HLIT.out, hA.out] at z
   try simp only [qq]
   exact wpAnyH_act (by kernel_rfl) z)
set_option maxHeartbeats 40000000 in
set_option maxRecDepth 100000 in
theorem rows0_234 (C : RowC w0 b w1 r) (hO : Hid (RowO O)) (HPQ : Hid (∀ c a d x w, Q0 (.panic c) (a.put d x) w → Q0 (.panic c) a w)) (hA : Hid (A0 = RowA b M r y)) (st1_234 : Hid (RowS1_234 T b deep w1 bad out v r O Q0 A0)) (st0_1234 : Hid (RowS0_1234 T b deep w1 bad out v r O Q0 A0)) : Hid (RowS0_234 T b deep w1 bad out v r O Q0 A0) := hd (by
 have HL := C.HL
 have HB0 := C.HB0
 have HQ1 := C.HQ1
 have HRI := C.HRI
 have HRN := C.HRN
 clear C
 unfold RowS0_234
 have hlit := hO.out
 unfold RowO at hlit
 simp only [Tryz.f61, findR, Option.getD, if_true, if_false, Nat.reduceEqDiff] at hlit
 injection hlit with hlit
 have HLIT := hd hlit
 clear hlit hO
 intro w2 X2 X3 X4 HW2 HC2 HX2 HX3 HX4
 rw [← HLIT.out, hA.out]
 unfold RowA
 try simp only [qq]
 refine rd2 5 15 (fun K hK => ?_) (fun K hK => ?_)
 · go_simp
   refine name_r HW2 r.name (fun w3 h3 h4 => ?_)
   have HW3 := hd h3
   have HC3 : Hid (Chg [b] w1 w3) := hd (HC2.out.trans h4 (fun q hq => .inl hq))
   have H34 := hd h4
   refine hK.out _ _ HC3.out (fun hHeld => ?_)
   clear hK K h3 h4
   try simp only [qq]
   have g1 : ¬ 9223372036854775807 < 4 + r.name.length := by have := HRN.out; omega
   have g2 : ¬ 9223372036854775807 < 4 + r.name.length + 3 := by have := HRN.out; omega
   refine tk 6 ?vn2346 ?hyn2346 ?rsn2346 (hQ := fun _ _ _ h => HPQ.out _ _ _ _ _ h)
   case hyn2346 => (intro w9 hSw; go_simp; try with_reducible rfl)
   try simp only [qq]
   rw [show (⟨#[114, 111, 119, 32]⟩ : ByteArray) ++ ⟨r.name.toArray⟩ = ⟨(Pr.tRow ++ r.name).toArray⟩ from str2 _ _]
   have gz : (⟨(Pr.tRow ++ r.name).toArray⟩ : ByteArray).size = 4 + r.name.length := by rw [size_of9, List.length_append]; rfl
   refine tk 7 ?vm2347 ?hym2347 ?rsm2347 (hQ := fun _ _ _ h => HPQ.out _ _ _ _ _ h)
   case hym2347 => (intro w9 hSw; go_simp; try with_reducible rfl)
   try simp only [qq]
   rw [show (⟨(Pr.tRow ++ r.name).toArray⟩ : ByteArray) ++ ⟨#[32, 97, 116]⟩ = ⟨(Pr.tRow ++ r.name ++ Pr.tAt).toArray⟩ from str2 _ _]
   have z := st1_234.out w3 (.string ⟨(r.name).toArray⟩) (.string ⟨(Pr.tRow ++ r.name).toArray⟩) X2 X3 X4 (Pr.tRow ++ r.name ++ Pr.tAt) HW3 HC3 (hd ⟨rfl, by have := HRN.out; rw [List.length_append, List.length_append]; show 4 + _ + 3 ≤ _; omega⟩) (hd ⟨H34.out.blk HX2.out.1 (by simp [HX2.out.2]), HX2.out.2⟩) (hd ⟨H34.out.blk HX3.out.1 (by simp [HX3.out.2]), HX3.out.2⟩) (hd ⟨H34.out.blk HX4.out.1 (by simp [HX4.out.2]), HX4.out.2⟩)
   rw [← HLIT.out, hA.out] at z
   try simp only [qq]
   exact wpAnyH_act (by kernel_rfl) z
 · go_simp
   obtain ⟨w3, hw3⟩ : ∃ W, W = w2.alloc (.cells #[.int .i64 r.x, .int .i64 r.y] 3) := ⟨_, rfl⟩
   rw [← hw3]
   obtain ⟨Y, hY⟩ : ∃ X, X = w2.heap.size := ⟨_, rfl⟩
   rw [← hY]
   have HY : Hid (Blk w3 Y [.int .i64 r.x, .int .i64 r.y] 3 ∧ Y ≠ b) := hd ⟨by rw [hw3, hY]; exact Blk.new w2 [.int .i64 r.x, .int .i64 r.y] _, by have := HW2.out.lt; omega⟩
   have C3 : Hid (Chg [] w2 w3) := hd (by rw [hw3]; exact (Chg.refl _ _).alloc _)
   have HC3 : Hid (Chg [b] w1 w3) := hd (HC2.out.trans C3.out (by simp))
   have HW3 := hd (HW2.out.quiet C3.out)
   refine hK.out _ _ HC3.out (fun hHeld => ?_)
   clear hK K hw3 hY
   have z := st0_1234.out w3 Y X2 X3 X4 HW3 HC3 HY (hd ⟨C3.out.blk HX2.out.1 (by simp), HX2.out.2⟩) (hd ⟨C3.out.blk HX3.out.1 (by simp), HX3.out.2⟩) (hd ⟨C3.out.blk HX4.out.1 (by simp), HX4.out.2⟩)
   rw [← HLIT.out, hA.out] at z
   try simp only [qq]
   exact wpAnyH_act (by kernel_rfl) z)
set_option maxHeartbeats 40000000 in
set_option maxRecDepth 100000 in
theorem rows0_12 (C : RowC w0 b w1 r) (hO : Hid (RowO O)) (HPQ : Hid (∀ c a d x w, Q0 (.panic c) (a.put d x) w → Q0 (.panic c) a w)) (hA : Hid (A0 = RowA b M r y)) (st1_12 : Hid (RowS1_12 T b deep w1 bad out v r O Q0 A0)) (st0_123 : Hid (RowS0_123 T b deep w1 bad out v r O Q0 A0)) (st0_124 : Hid (RowS0_124 T b deep w1 bad out v r O Q0 A0)) : Hid (RowS0_12 T b deep w1 bad out v r O Q0 A0) := hd (by
 have HL := C.HL
 have HB0 := C.HB0
 have HQ1 := C.HQ1
 have HRI := C.HRI
 have HRN := C.HRN
 clear C
 unfold RowS0_12
 have hlit := hO.out
 unfold RowO at hlit
 simp only [Tryz.f61, findR, Option.getD, if_true, if_false, Nat.reduceEqDiff] at hlit
 injection hlit with hlit
 have HLIT := hd hlit
 clear hlit hO
 intro w2 X1 X2 HW2 HC2 HX1 HX2
 rw [← HLIT.out, hA.out]
 unfold RowA
 try simp only [qq]
 refine rd3 5 33 42 (fun K hK => ?_) (fun K hK => ?_) (fun K hK => ?_)
 · go_simp
   refine name_r HW2 r.name (fun w3 h3 h4 => ?_)
   have HW3 := hd h3
   have HC3 : Hid (Chg [b] w1 w3) := hd (HC2.out.trans h4 (fun q hq => .inl hq))
   have H34 := hd h4
   refine hK.out _ _ HC3.out (fun hHeld => ?_)
   clear hK K h3 h4
   try simp only [qq]
   have g1 : ¬ 9223372036854775807 < 4 + r.name.length := by have := HRN.out; omega
   have g2 : ¬ 9223372036854775807 < 4 + r.name.length + 3 := by have := HRN.out; omega
   refine tk 6 ?vn126 ?hyn126 ?rsn126 (hQ := fun _ _ _ h => HPQ.out _ _ _ _ _ h)
   case hyn126 => (intro w9 hSw; go_simp; try with_reducible rfl)
   try simp only [qq]
   rw [show (⟨#[114, 111, 119, 32]⟩ : ByteArray) ++ ⟨r.name.toArray⟩ = ⟨(Pr.tRow ++ r.name).toArray⟩ from str2 _ _]
   have gz : (⟨(Pr.tRow ++ r.name).toArray⟩ : ByteArray).size = 4 + r.name.length := by rw [size_of9, List.length_append]; rfl
   refine tk 7 ?vm127 ?hym127 ?rsm127 (hQ := fun _ _ _ h => HPQ.out _ _ _ _ _ h)
   case hym127 => (intro w9 hSw; go_simp; try with_reducible rfl)
   try simp only [qq]
   rw [show (⟨(Pr.tRow ++ r.name).toArray⟩ : ByteArray) ++ ⟨#[32, 97, 116]⟩ = ⟨(Pr.tRow ++ r.name ++ Pr.tAt).toArray⟩ from str2 _ _]
   have z := st1_12.out w3 (.string ⟨(r.name).toArray⟩) (.string ⟨(Pr.tRow ++ r.name).toArray⟩) X1 X2 (Pr.tRow ++ r.name ++ Pr.tAt) HW3 HC3 (hd ⟨rfl, by have := HRN.out; rw [List.length_append, List.length_append]; show 4 + _ + 3 ≤ _; omega⟩) (hd ⟨H34.out.blk HX1.out.1 (by simp [HX1.out.2]), HX1.out.2⟩) (hd ⟨H34.out.blk HX2.out.1 (by simp [HX2.out.2]), HX2.out.2⟩)
   rw [← HLIT.out, hA.out] at z
   try simp only [qq]
   exact wpAnyH_act (by kernel_rfl) z
 · go_simp
   obtain ⟨w3, hw3⟩ : ∃ W, W = w2.alloc (.cells #[.int .i64 r.t] 3) := ⟨_, rfl⟩
   rw [← hw3]
   obtain ⟨Y, hY⟩ : ∃ X, X = w2.heap.size := ⟨_, rfl⟩
   rw [← hY]
   have HY : Hid (Blk w3 Y [.int .i64 r.t] 3 ∧ Y ≠ b) := hd ⟨by rw [hw3, hY]; exact Blk.new w2 [.int .i64 r.t] _, by have := HW2.out.lt; omega⟩
   have C3 : Hid (Chg [] w2 w3) := hd (by rw [hw3]; exact (Chg.refl _ _).alloc _)
   have HC3 : Hid (Chg [b] w1 w3) := hd (HC2.out.trans C3.out (by simp))
   have HW3 := hd (HW2.out.quiet C3.out)
   refine hK.out _ _ HC3.out (fun hHeld => ?_)
   clear hK K hw3 hY
   have z := st0_123.out w3 X1 X2 Y HW3 HC3 (hd ⟨C3.out.blk HX1.out.1 (by simp), HX1.out.2⟩) (hd ⟨C3.out.blk HX2.out.1 (by simp), HX2.out.2⟩) HY
   rw [← HLIT.out, hA.out] at z
   try simp only [qq]
   exact wpAnyH_act (by kernel_rfl) z
 · go_simp
   obtain ⟨w3, hw3⟩ : ∃ W, W = w2.alloc (.cells #[.int .i64 r.step] 3) := ⟨_, rfl⟩
   rw [← hw3]
   obtain ⟨Y, hY⟩ : ∃ X, X = w2.heap.size := ⟨_, rfl⟩
   rw [← hY]
   have HY : Hid (Blk w3 Y [.int .i64 r.step] 3 ∧ Y ≠ b) := hd ⟨by rw [hw3, hY]; exact Blk.new w2 [.int .i64 r.step] _, by have := HW2.out.lt; omega⟩
   have C3 : Hid (Chg [] w2 w3) := hd (by rw [hw3]; exact (Chg.refl _ _).alloc _)
   have HC3 : Hid (Chg [b] w1 w3) := hd (HC2.out.trans C3.out (by simp))
   have HW3 := hd (HW2.out.quiet C3.out)
   refine hK.out _ _ HC3.out (fun hHeld => ?_)
   clear hK K hw3 hY
   have z := st0_124.out w3 X1 X2 Y HW3 HC3 (hd ⟨C3.out.blk HX1.out.1 (by simp), HX1.out.2⟩) (hd ⟨C3.out.blk HX2.out.1 (by simp), HX2.out.2⟩) HY
   rw [← HLIT.out, hA.out] at z
   try simp only [qq]
   exact wpAnyH_act (by kernel_rfl) z)
set_option maxHeartbeats 40000000 in
set_option maxRecDepth 100000 in
theorem rows0_13 (C : RowC w0 b w1 r) (hO : Hid (RowO O)) (HPQ : Hid (∀ c a d x w, Q0 (.panic c) (a.put d x) w → Q0 (.panic c) a w)) (hA : Hid (A0 = RowA b M r y)) (st1_13 : Hid (RowS1_13 T b deep w1 bad out v r O Q0 A0)) (st0_123 : Hid (RowS0_123 T b deep w1 bad out v r O Q0 A0)) (st0_134 : Hid (RowS0_134 T b deep w1 bad out v r O Q0 A0)) : Hid (RowS0_13 T b deep w1 bad out v r O Q0 A0) := hd (by
 have HL := C.HL
 have HB0 := C.HB0
 have HQ1 := C.HQ1
 have HRI := C.HRI
 have HRN := C.HRN
 clear C
 unfold RowS0_13
 have hlit := hO.out
 unfold RowO at hlit
 simp only [Tryz.f61, findR, Option.getD, if_true, if_false, Nat.reduceEqDiff] at hlit
 injection hlit with hlit
 have HLIT := hd hlit
 clear hlit hO
 intro w2 X1 X3 HW2 HC2 HX1 HX3
 rw [← HLIT.out, hA.out]
 unfold RowA
 try simp only [qq]
 refine rd3 5 24 42 (fun K hK => ?_) (fun K hK => ?_) (fun K hK => ?_)
 · go_simp
   refine name_r HW2 r.name (fun w3 h3 h4 => ?_)
   have HW3 := hd h3
   have HC3 : Hid (Chg [b] w1 w3) := hd (HC2.out.trans h4 (fun q hq => .inl hq))
   have H34 := hd h4
   refine hK.out _ _ HC3.out (fun hHeld => ?_)
   clear hK K h3 h4
   try simp only [qq]
   have g1 : ¬ 9223372036854775807 < 4 + r.name.length := by have := HRN.out; omega
   have g2 : ¬ 9223372036854775807 < 4 + r.name.length + 3 := by have := HRN.out; omega
   refine tk 6 ?vn136 ?hyn136 ?rsn136 (hQ := fun _ _ _ h => HPQ.out _ _ _ _ _ h)
   case hyn136 => (intro w9 hSw; go_simp; try with_reducible rfl)
   try simp only [qq]
   rw [show (⟨#[114, 111, 119, 32]⟩ : ByteArray) ++ ⟨r.name.toArray⟩ = ⟨(Pr.tRow ++ r.name).toArray⟩ from str2 _ _]
   have gz : (⟨(Pr.tRow ++ r.name).toArray⟩ : ByteArray).size = 4 + r.name.length := by rw [size_of9, List.length_append]; rfl
   refine tk 7 ?vm137 ?hym137 ?rsm137 (hQ := fun _ _ _ h => HPQ.out _ _ _ _ _ h)
   case hym137 => (intro w9 hSw; go_simp; try with_reducible rfl)
   try simp only [qq]
   rw [show (⟨(Pr.tRow ++ r.name).toArray⟩ : ByteArray) ++ ⟨#[32, 97, 116]⟩ = ⟨(Pr.tRow ++ r.name ++ Pr.tAt).toArray⟩ from str2 _ _]
   have z := st1_13.out w3 (.string ⟨(r.name).toArray⟩) (.string ⟨(Pr.tRow ++ r.name).toArray⟩) X1 X3 (Pr.tRow ++ r.name ++ Pr.tAt) HW3 HC3 (hd ⟨rfl, by have := HRN.out; rw [List.length_append, List.length_append]; show 4 + _ + 3 ≤ _; omega⟩) (hd ⟨H34.out.blk HX1.out.1 (by simp [HX1.out.2]), HX1.out.2⟩) (hd ⟨H34.out.blk HX3.out.1 (by simp [HX3.out.2]), HX3.out.2⟩)
   rw [← HLIT.out, hA.out] at z
   try simp only [qq]
   exact wpAnyH_act (by kernel_rfl) z
 · go_simp
   obtain ⟨w3, hw3⟩ : ∃ W, W = w2.alloc (.cells #[.int .i64 r.f] 3) := ⟨_, rfl⟩
   rw [← hw3]
   obtain ⟨Y, hY⟩ : ∃ X, X = w2.heap.size := ⟨_, rfl⟩
   rw [← hY]
   have HY : Hid (Blk w3 Y [.int .i64 r.f] 3 ∧ Y ≠ b) := hd ⟨by rw [hw3, hY]; exact Blk.new w2 [.int .i64 r.f] _, by have := HW2.out.lt; omega⟩
   have C3 : Hid (Chg [] w2 w3) := hd (by rw [hw3]; exact (Chg.refl _ _).alloc _)
   have HC3 : Hid (Chg [b] w1 w3) := hd (HC2.out.trans C3.out (by simp))
   have HW3 := hd (HW2.out.quiet C3.out)
   refine hK.out _ _ HC3.out (fun hHeld => ?_)
   clear hK K hw3 hY
   have z := st0_123.out w3 X1 Y X3 HW3 HC3 (hd ⟨C3.out.blk HX1.out.1 (by simp), HX1.out.2⟩) HY (hd ⟨C3.out.blk HX3.out.1 (by simp), HX3.out.2⟩)
   rw [← HLIT.out, hA.out] at z
   try simp only [qq]
   exact wpAnyH_act (by kernel_rfl) z
 · go_simp
   obtain ⟨w3, hw3⟩ : ∃ W, W = w2.alloc (.cells #[.int .i64 r.step] 3) := ⟨_, rfl⟩
   rw [← hw3]
   obtain ⟨Y, hY⟩ : ∃ X, X = w2.heap.size := ⟨_, rfl⟩
   rw [← hY]
   have HY : Hid (Blk w3 Y [.int .i64 r.step] 3 ∧ Y ≠ b) := hd ⟨by rw [hw3, hY]; exact Blk.new w2 [.int .i64 r.step] _, by have := HW2.out.lt; omega⟩
   have C3 : Hid (Chg [] w2 w3) := hd (by rw [hw3]; exact (Chg.refl _ _).alloc _)
   have HC3 : Hid (Chg [b] w1 w3) := hd (HC2.out.trans C3.out (by simp))
   have HW3 := hd (HW2.out.quiet C3.out)
   refine hK.out _ _ HC3.out (fun hHeld => ?_)
   clear hK K hw3 hY
   have z := st0_134.out w3 X1 X3 Y HW3 HC3 (hd ⟨C3.out.blk HX1.out.1 (by simp), HX1.out.2⟩) (hd ⟨C3.out.blk HX3.out.1 (by simp), HX3.out.2⟩) HY
   rw [← HLIT.out, hA.out] at z
   try simp only [qq]
   exact wpAnyH_act (by kernel_rfl) z)
set_option maxHeartbeats 40000000 in
set_option maxRecDepth 100000 in
theorem rows0_14 (C : RowC w0 b w1 r) (hO : Hid (RowO O)) (HPQ : Hid (∀ c a d x w, Q0 (.panic c) (a.put d x) w → Q0 (.panic c) a w)) (hA : Hid (A0 = RowA b M r y)) (st1_14 : Hid (RowS1_14 T b deep w1 bad out v r O Q0 A0)) (st0_124 : Hid (RowS0_124 T b deep w1 bad out v r O Q0 A0)) (st0_134 : Hid (RowS0_134 T b deep w1 bad out v r O Q0 A0)) : Hid (RowS0_14 T b deep w1 bad out v r O Q0 A0) := hd (by
 have HL := C.HL
 have HB0 := C.HB0
 have HQ1 := C.HQ1
 have HRI := C.HRI
 have HRN := C.HRN
 clear C
 unfold RowS0_14
 have hlit := hO.out
 unfold RowO at hlit
 simp only [Tryz.f61, findR, Option.getD, if_true, if_false, Nat.reduceEqDiff] at hlit
 injection hlit with hlit
 have HLIT := hd hlit
 clear hlit hO
 intro w2 X1 X4 HW2 HC2 HX1 HX4
 rw [← HLIT.out, hA.out]
 unfold RowA
 try simp only [qq]
 refine rd3 5 24 33 (fun K hK => ?_) (fun K hK => ?_) (fun K hK => ?_)
 · go_simp
   refine name_r HW2 r.name (fun w3 h3 h4 => ?_)
   have HW3 := hd h3
   have HC3 : Hid (Chg [b] w1 w3) := hd (HC2.out.trans h4 (fun q hq => .inl hq))
   have H34 := hd h4
   refine hK.out _ _ HC3.out (fun hHeld => ?_)
   clear hK K h3 h4
   try simp only [qq]
   have g1 : ¬ 9223372036854775807 < 4 + r.name.length := by have := HRN.out; omega
   have g2 : ¬ 9223372036854775807 < 4 + r.name.length + 3 := by have := HRN.out; omega
   refine tk 6 ?vn146 ?hyn146 ?rsn146 (hQ := fun _ _ _ h => HPQ.out _ _ _ _ _ h)
   case hyn146 => (intro w9 hSw; go_simp; try with_reducible rfl)
   try simp only [qq]
   rw [show (⟨#[114, 111, 119, 32]⟩ : ByteArray) ++ ⟨r.name.toArray⟩ = ⟨(Pr.tRow ++ r.name).toArray⟩ from str2 _ _]
   have gz : (⟨(Pr.tRow ++ r.name).toArray⟩ : ByteArray).size = 4 + r.name.length := by rw [size_of9, List.length_append]; rfl
   refine tk 7 ?vm147 ?hym147 ?rsm147 (hQ := fun _ _ _ h => HPQ.out _ _ _ _ _ h)
   case hym147 => (intro w9 hSw; go_simp; try with_reducible rfl)
   try simp only [qq]
   rw [show (⟨(Pr.tRow ++ r.name).toArray⟩ : ByteArray) ++ ⟨#[32, 97, 116]⟩ = ⟨(Pr.tRow ++ r.name ++ Pr.tAt).toArray⟩ from str2 _ _]
   have z := st1_14.out w3 (.string ⟨(r.name).toArray⟩) (.string ⟨(Pr.tRow ++ r.name).toArray⟩) X1 X4 (Pr.tRow ++ r.name ++ Pr.tAt) HW3 HC3 (hd ⟨rfl, by have := HRN.out; rw [List.length_append, List.length_append]; show 4 + _ + 3 ≤ _; omega⟩) (hd ⟨H34.out.blk HX1.out.1 (by simp [HX1.out.2]), HX1.out.2⟩) (hd ⟨H34.out.blk HX4.out.1 (by simp [HX4.out.2]), HX4.out.2⟩)
   rw [← HLIT.out, hA.out] at z
   try simp only [qq]
   exact wpAnyH_act (by kernel_rfl) z
 · go_simp
   obtain ⟨w3, hw3⟩ : ∃ W, W = w2.alloc (.cells #[.int .i64 r.f] 3) := ⟨_, rfl⟩
   rw [← hw3]
   obtain ⟨Y, hY⟩ : ∃ X, X = w2.heap.size := ⟨_, rfl⟩
   rw [← hY]
   have HY : Hid (Blk w3 Y [.int .i64 r.f] 3 ∧ Y ≠ b) := hd ⟨by rw [hw3, hY]; exact Blk.new w2 [.int .i64 r.f] _, by have := HW2.out.lt; omega⟩
   have C3 : Hid (Chg [] w2 w3) := hd (by rw [hw3]; exact (Chg.refl _ _).alloc _)
   have HC3 : Hid (Chg [b] w1 w3) := hd (HC2.out.trans C3.out (by simp))
   have HW3 := hd (HW2.out.quiet C3.out)
   refine hK.out _ _ HC3.out (fun hHeld => ?_)
   clear hK K hw3 hY
   have z := st0_124.out w3 X1 Y X4 HW3 HC3 (hd ⟨C3.out.blk HX1.out.1 (by simp), HX1.out.2⟩) HY (hd ⟨C3.out.blk HX4.out.1 (by simp), HX4.out.2⟩)
   rw [← HLIT.out, hA.out] at z
   try simp only [qq]
   exact wpAnyH_act (by kernel_rfl) z
 · go_simp
   obtain ⟨w3, hw3⟩ : ∃ W, W = w2.alloc (.cells #[.int .i64 r.t] 3) := ⟨_, rfl⟩
   rw [← hw3]
   obtain ⟨Y, hY⟩ : ∃ X, X = w2.heap.size := ⟨_, rfl⟩
   rw [← hY]
   have HY : Hid (Blk w3 Y [.int .i64 r.t] 3 ∧ Y ≠ b) := hd ⟨by rw [hw3, hY]; exact Blk.new w2 [.int .i64 r.t] _, by have := HW2.out.lt; omega⟩
   have C3 : Hid (Chg [] w2 w3) := hd (by rw [hw3]; exact (Chg.refl _ _).alloc _)
   have HC3 : Hid (Chg [b] w1 w3) := hd (HC2.out.trans C3.out (by simp))
   have HW3 := hd (HW2.out.quiet C3.out)
   refine hK.out _ _ HC3.out (fun hHeld => ?_)
   clear hK K hw3 hY
   have z := st0_134.out w3 X1 Y X4 HW3 HC3 (hd ⟨C3.out.blk HX1.out.1 (by simp), HX1.out.2⟩) HY (hd ⟨C3.out.blk HX4.out.1 (by simp), HX4.out.2⟩)
   rw [← HLIT.out, hA.out] at z
   try simp only [qq]
   exact wpAnyH_act (by kernel_rfl) z)
set_option maxHeartbeats 40000000 in
set_option maxRecDepth 100000 in
theorem rows0_23 (C : RowC w0 b w1 r) (hO : Hid (RowO O)) (HPQ : Hid (∀ c a d x w, Q0 (.panic c) (a.put d x) w → Q0 (.panic c) a w)) (hA : Hid (A0 = RowA b M r y)) (st1_23 : Hid (RowS1_23 T b deep w1 bad out v r O Q0 A0)) (st0_123 : Hid (RowS0_123 T b deep w1 bad out v r O Q0 A0)) (st0_234 : Hid (RowS0_234 T b deep w1 bad out v r O Q0 A0)) : Hid (RowS0_23 T b deep w1 bad out v r O Q0 A0) := hd (by
 have HL := C.HL
 have HB0 := C.HB0
 have HQ1 := C.HQ1
 have HRI := C.HRI
 have HRN := C.HRN
 clear C
 unfold RowS0_23
 have hlit := hO.out
 unfold RowO at hlit
 simp only [Tryz.f61, findR, Option.getD, if_true, if_false, Nat.reduceEqDiff] at hlit
 injection hlit with hlit
 have HLIT := hd hlit
 clear hlit hO
 intro w2 X2 X3 HW2 HC2 HX2 HX3
 rw [← HLIT.out, hA.out]
 unfold RowA
 try simp only [qq]
 refine rd3 5 15 42 (fun K hK => ?_) (fun K hK => ?_) (fun K hK => ?_)
 · go_simp
   refine name_r HW2 r.name (fun w3 h3 h4 => ?_)
   have HW3 := hd h3
   have HC3 : Hid (Chg [b] w1 w3) := hd (HC2.out.trans h4 (fun q hq => .inl hq))
   have H34 := hd h4
   refine hK.out _ _ HC3.out (fun hHeld => ?_)
   clear hK K h3 h4
   try simp only [qq]
   have g1 : ¬ 9223372036854775807 < 4 + r.name.length := by have := HRN.out; omega
   have g2 : ¬ 9223372036854775807 < 4 + r.name.length + 3 := by have := HRN.out; omega
   refine tk 6 ?vn236 ?hyn236 ?rsn236 (hQ := fun _ _ _ h => HPQ.out _ _ _ _ _ h)
   case hyn236 => (intro w9 hSw; go_simp; try with_reducible rfl)
   try simp only [qq]
   rw [show (⟨#[114, 111, 119, 32]⟩ : ByteArray) ++ ⟨r.name.toArray⟩ = ⟨(Pr.tRow ++ r.name).toArray⟩ from str2 _ _]
   have gz : (⟨(Pr.tRow ++ r.name).toArray⟩ : ByteArray).size = 4 + r.name.length := by rw [size_of9, List.length_append]; rfl
   refine tk 7 ?vm237 ?hym237 ?rsm237 (hQ := fun _ _ _ h => HPQ.out _ _ _ _ _ h)
   case hym237 => (intro w9 hSw; go_simp; try with_reducible rfl)
   try simp only [qq]
   rw [show (⟨(Pr.tRow ++ r.name).toArray⟩ : ByteArray) ++ ⟨#[32, 97, 116]⟩ = ⟨(Pr.tRow ++ r.name ++ Pr.tAt).toArray⟩ from str2 _ _]
   have z := st1_23.out w3 (.string ⟨(r.name).toArray⟩) (.string ⟨(Pr.tRow ++ r.name).toArray⟩) X2 X3 (Pr.tRow ++ r.name ++ Pr.tAt) HW3 HC3 (hd ⟨rfl, by have := HRN.out; rw [List.length_append, List.length_append]; show 4 + _ + 3 ≤ _; omega⟩) (hd ⟨H34.out.blk HX2.out.1 (by simp [HX2.out.2]), HX2.out.2⟩) (hd ⟨H34.out.blk HX3.out.1 (by simp [HX3.out.2]), HX3.out.2⟩)
   rw [← HLIT.out, hA.out] at z
   try simp only [qq]
   exact wpAnyH_act (by kernel_rfl) z
 · go_simp
   obtain ⟨w3, hw3⟩ : ∃ W, W = w2.alloc (.cells #[.int .i64 r.x, .int .i64 r.y] 3) := ⟨_, rfl⟩
   rw [← hw3]
   obtain ⟨Y, hY⟩ : ∃ X, X = w2.heap.size := ⟨_, rfl⟩
   rw [← hY]
   have HY : Hid (Blk w3 Y [.int .i64 r.x, .int .i64 r.y] 3 ∧ Y ≠ b) := hd ⟨by rw [hw3, hY]; exact Blk.new w2 [.int .i64 r.x, .int .i64 r.y] _, by have := HW2.out.lt; omega⟩
   have C3 : Hid (Chg [] w2 w3) := hd (by rw [hw3]; exact (Chg.refl _ _).alloc _)
   have HC3 : Hid (Chg [b] w1 w3) := hd (HC2.out.trans C3.out (by simp))
   have HW3 := hd (HW2.out.quiet C3.out)
   refine hK.out _ _ HC3.out (fun hHeld => ?_)
   clear hK K hw3 hY
   have z := st0_123.out w3 Y X2 X3 HW3 HC3 HY (hd ⟨C3.out.blk HX2.out.1 (by simp), HX2.out.2⟩) (hd ⟨C3.out.blk HX3.out.1 (by simp), HX3.out.2⟩)
   rw [← HLIT.out, hA.out] at z
   try simp only [qq]
   exact wpAnyH_act (by kernel_rfl) z
 · go_simp
   obtain ⟨w3, hw3⟩ : ∃ W, W = w2.alloc (.cells #[.int .i64 r.step] 3) := ⟨_, rfl⟩
   rw [← hw3]
   obtain ⟨Y, hY⟩ : ∃ X, X = w2.heap.size := ⟨_, rfl⟩
   rw [← hY]
   have HY : Hid (Blk w3 Y [.int .i64 r.step] 3 ∧ Y ≠ b) := hd ⟨by rw [hw3, hY]; exact Blk.new w2 [.int .i64 r.step] _, by have := HW2.out.lt; omega⟩
   have C3 : Hid (Chg [] w2 w3) := hd (by rw [hw3]; exact (Chg.refl _ _).alloc _)
   have HC3 : Hid (Chg [b] w1 w3) := hd (HC2.out.trans C3.out (by simp))
   have HW3 := hd (HW2.out.quiet C3.out)
   refine hK.out _ _ HC3.out (fun hHeld => ?_)
   clear hK K hw3 hY
   have z := st0_234.out w3 X2 X3 Y HW3 HC3 (hd ⟨C3.out.blk HX2.out.1 (by simp), HX2.out.2⟩) (hd ⟨C3.out.blk HX3.out.1 (by simp), HX3.out.2⟩) HY
   rw [← HLIT.out, hA.out] at z
   try simp only [qq]
   exact wpAnyH_act (by kernel_rfl) z)
set_option maxHeartbeats 40000000 in
set_option maxRecDepth 100000 in
theorem rows0_24 (C : RowC w0 b w1 r) (hO : Hid (RowO O)) (HPQ : Hid (∀ c a d x w, Q0 (.panic c) (a.put d x) w → Q0 (.panic c) a w)) (hA : Hid (A0 = RowA b M r y)) (st1_24 : Hid (RowS1_24 T b deep w1 bad out v r O Q0 A0)) (st0_124 : Hid (RowS0_124 T b deep w1 bad out v r O Q0 A0)) (st0_234 : Hid (RowS0_234 T b deep w1 bad out v r O Q0 A0)) : Hid (RowS0_24 T b deep w1 bad out v r O Q0 A0) := hd (by
 have HL := C.HL
 have HB0 := C.HB0
 have HQ1 := C.HQ1
 have HRI := C.HRI
 have HRN := C.HRN
 clear C
 unfold RowS0_24
 have hlit := hO.out
 unfold RowO at hlit
 simp only [Tryz.f61, findR, Option.getD, if_true, if_false, Nat.reduceEqDiff] at hlit
 injection hlit with hlit
 have HLIT := hd hlit
 clear hlit hO
 intro w2 X2 X4 HW2 HC2 HX2 HX4
 rw [← HLIT.out, hA.out]
 unfold RowA
 try simp only [qq]
 refine rd3 5 15 33 (fun K hK => ?_) (fun K hK => ?_) (fun K hK => ?_)
 · go_simp
   refine name_r HW2 r.name (fun w3 h3 h4 => ?_)
   have HW3 := hd h3
   have HC3 : Hid (Chg [b] w1 w3) := hd (HC2.out.trans h4 (fun q hq => .inl hq))
   have H34 := hd h4
   refine hK.out _ _ HC3.out (fun hHeld => ?_)
   clear hK K h3 h4
   try simp only [qq]
   have g1 : ¬ 9223372036854775807 < 4 + r.name.length := by have := HRN.out; omega
   have g2 : ¬ 9223372036854775807 < 4 + r.name.length + 3 := by have := HRN.out; omega
   refine tk 6 ?vn246 ?hyn246 ?rsn246 (hQ := fun _ _ _ h => HPQ.out _ _ _ _ _ h)
   case hyn246 => (intro w9 hSw; go_simp; try with_reducible rfl)
   try simp only [qq]
   rw [show (⟨#[114, 111, 119, 32]⟩ : ByteArray) ++ ⟨r.name.toArray⟩ = ⟨(Pr.tRow ++ r.name).toArray⟩ from str2 _ _]
   have gz : (⟨(Pr.tRow ++ r.name).toArray⟩ : ByteArray).size = 4 + r.name.length := by rw [size_of9, List.length_append]; rfl
   refine tk 7 ?vm247 ?hym247 ?rsm247 (hQ := fun _ _ _ h => HPQ.out _ _ _ _ _ h)
   case hym247 => (intro w9 hSw; go_simp; try with_reducible rfl)
   try simp only [qq]
   rw [show (⟨(Pr.tRow ++ r.name).toArray⟩ : ByteArray) ++ ⟨#[32, 97, 116]⟩ = ⟨(Pr.tRow ++ r.name ++ Pr.tAt).toArray⟩ from str2 _ _]
   have z := st1_24.out w3 (.string ⟨(r.name).toArray⟩) (.string ⟨(Pr.tRow ++ r.name).toArray⟩) X2 X4 (Pr.tRow ++ r.name ++ Pr.tAt) HW3 HC3 (hd ⟨rfl, by have := HRN.out; rw [List.length_append, List.length_append]; show 4 + _ + 3 ≤ _; omega⟩) (hd ⟨H34.out.blk HX2.out.1 (by simp [HX2.out.2]), HX2.out.2⟩) (hd ⟨H34.out.blk HX4.out.1 (by simp [HX4.out.2]), HX4.out.2⟩)
   rw [← HLIT.out, hA.out] at z
   try simp only [qq]
   exact wpAnyH_act (by kernel_rfl) z
 · go_simp
   obtain ⟨w3, hw3⟩ : ∃ W, W = w2.alloc (.cells #[.int .i64 r.x, .int .i64 r.y] 3) := ⟨_, rfl⟩
   rw [← hw3]
   obtain ⟨Y, hY⟩ : ∃ X, X = w2.heap.size := ⟨_, rfl⟩
   rw [← hY]
   have HY : Hid (Blk w3 Y [.int .i64 r.x, .int .i64 r.y] 3 ∧ Y ≠ b) := hd ⟨by rw [hw3, hY]; exact Blk.new w2 [.int .i64 r.x, .int .i64 r.y] _, by have := HW2.out.lt; omega⟩
   have C3 : Hid (Chg [] w2 w3) := hd (by rw [hw3]; exact (Chg.refl _ _).alloc _)
   have HC3 : Hid (Chg [b] w1 w3) := hd (HC2.out.trans C3.out (by simp))
   have HW3 := hd (HW2.out.quiet C3.out)
   refine hK.out _ _ HC3.out (fun hHeld => ?_)
   clear hK K hw3 hY
   have z := st0_124.out w3 Y X2 X4 HW3 HC3 HY (hd ⟨C3.out.blk HX2.out.1 (by simp), HX2.out.2⟩) (hd ⟨C3.out.blk HX4.out.1 (by simp), HX4.out.2⟩)
   rw [← HLIT.out, hA.out] at z
   try simp only [qq]
   exact wpAnyH_act (by kernel_rfl) z
 · go_simp
   obtain ⟨w3, hw3⟩ : ∃ W, W = w2.alloc (.cells #[.int .i64 r.t] 3) := ⟨_, rfl⟩
   rw [← hw3]
   obtain ⟨Y, hY⟩ : ∃ X, X = w2.heap.size := ⟨_, rfl⟩
   rw [← hY]
   have HY : Hid (Blk w3 Y [.int .i64 r.t] 3 ∧ Y ≠ b) := hd ⟨by rw [hw3, hY]; exact Blk.new w2 [.int .i64 r.t] _, by have := HW2.out.lt; omega⟩
   have C3 : Hid (Chg [] w2 w3) := hd (by rw [hw3]; exact (Chg.refl _ _).alloc _)
   have HC3 : Hid (Chg [b] w1 w3) := hd (HC2.out.trans C3.out (by simp))
   have HW3 := hd (HW2.out.quiet C3.out)
   refine hK.out _ _ HC3.out (fun hHeld => ?_)
   clear hK K hw3 hY
   have z := st0_234.out w3 X2 Y X4 HW3 HC3 (hd ⟨C3.out.blk HX2.out.1 (by simp), HX2.out.2⟩) HY (hd ⟨C3.out.blk HX4.out.1 (by simp), HX4.out.2⟩)
   rw [← HLIT.out, hA.out] at z
   try simp only [qq]
   exact wpAnyH_act (by kernel_rfl) z)
set_option maxHeartbeats 40000000 in
set_option maxRecDepth 100000 in
theorem rows0_34 (C : RowC w0 b w1 r) (hO : Hid (RowO O)) (HPQ : Hid (∀ c a d x w, Q0 (.panic c) (a.put d x) w → Q0 (.panic c) a w)) (hA : Hid (A0 = RowA b M r y)) (st1_34 : Hid (RowS1_34 T b deep w1 bad out v r O Q0 A0)) (st0_134 : Hid (RowS0_134 T b deep w1 bad out v r O Q0 A0)) (st0_234 : Hid (RowS0_234 T b deep w1 bad out v r O Q0 A0)) : Hid (RowS0_34 T b deep w1 bad out v r O Q0 A0) := hd (by
 have HL := C.HL
 have HB0 := C.HB0
 have HQ1 := C.HQ1
 have HRI := C.HRI
 have HRN := C.HRN
 clear C
 unfold RowS0_34
 have hlit := hO.out
 unfold RowO at hlit
 simp only [Tryz.f61, findR, Option.getD, if_true, if_false, Nat.reduceEqDiff] at hlit
 injection hlit with hlit
 have HLIT := hd hlit
 clear hlit hO
 intro w2 X3 X4 HW2 HC2 HX3 HX4
 rw [← HLIT.out, hA.out]
 unfold RowA
 try simp only [qq]
 refine rd3 5 15 24 (fun K hK => ?_) (fun K hK => ?_) (fun K hK => ?_)
 · go_simp
   refine name_r HW2 r.name (fun w3 h3 h4 => ?_)
   have HW3 := hd h3
   have HC3 : Hid (Chg [b] w1 w3) := hd (HC2.out.trans h4 (fun q hq => .inl hq))
   have H34 := hd h4
   refine hK.out _ _ HC3.out (fun hHeld => ?_)
   clear hK K h3 h4
   try simp only [qq]
   have g1 : ¬ 9223372036854775807 < 4 + r.name.length := by have := HRN.out; omega
   have g2 : ¬ 9223372036854775807 < 4 + r.name.length + 3 := by have := HRN.out; omega
   refine tk 6 ?vn346 ?hyn346 ?rsn346 (hQ := fun _ _ _ h => HPQ.out _ _ _ _ _ h)
   case hyn346 => (intro w9 hSw; go_simp; try with_reducible rfl)
   try simp only [qq]
   rw [show (⟨#[114, 111, 119, 32]⟩ : ByteArray) ++ ⟨r.name.toArray⟩ = ⟨(Pr.tRow ++ r.name).toArray⟩ from str2 _ _]
   have gz : (⟨(Pr.tRow ++ r.name).toArray⟩ : ByteArray).size = 4 + r.name.length := by rw [size_of9, List.length_append]; rfl
   refine tk 7 ?vm347 ?hym347 ?rsm347 (hQ := fun _ _ _ h => HPQ.out _ _ _ _ _ h)
   case hym347 => (intro w9 hSw; go_simp; try with_reducible rfl)
   try simp only [qq]
   rw [show (⟨(Pr.tRow ++ r.name).toArray⟩ : ByteArray) ++ ⟨#[32, 97, 116]⟩ = ⟨(Pr.tRow ++ r.name ++ Pr.tAt).toArray⟩ from str2 _ _]
   have z := st1_34.out w3 (.string ⟨(r.name).toArray⟩) (.string ⟨(Pr.tRow ++ r.name).toArray⟩) X3 X4 (Pr.tRow ++ r.name ++ Pr.tAt) HW3 HC3 (hd ⟨rfl, by have := HRN.out; rw [List.length_append, List.length_append]; show 4 + _ + 3 ≤ _; omega⟩) (hd ⟨H34.out.blk HX3.out.1 (by simp [HX3.out.2]), HX3.out.2⟩) (hd ⟨H34.out.blk HX4.out.1 (by simp [HX4.out.2]), HX4.out.2⟩)
   rw [← HLIT.out, hA.out] at z
   try simp only [qq]
   exact wpAnyH_act (by kernel_rfl) z
 · go_simp
   obtain ⟨w3, hw3⟩ : ∃ W, W = w2.alloc (.cells #[.int .i64 r.x, .int .i64 r.y] 3) := ⟨_, rfl⟩
   rw [← hw3]
   obtain ⟨Y, hY⟩ : ∃ X, X = w2.heap.size := ⟨_, rfl⟩
   rw [← hY]
   have HY : Hid (Blk w3 Y [.int .i64 r.x, .int .i64 r.y] 3 ∧ Y ≠ b) := hd ⟨by rw [hw3, hY]; exact Blk.new w2 [.int .i64 r.x, .int .i64 r.y] _, by have := HW2.out.lt; omega⟩
   have C3 : Hid (Chg [] w2 w3) := hd (by rw [hw3]; exact (Chg.refl _ _).alloc _)
   have HC3 : Hid (Chg [b] w1 w3) := hd (HC2.out.trans C3.out (by simp))
   have HW3 := hd (HW2.out.quiet C3.out)
   refine hK.out _ _ HC3.out (fun hHeld => ?_)
   clear hK K hw3 hY
   have z := st0_134.out w3 Y X3 X4 HW3 HC3 HY (hd ⟨C3.out.blk HX3.out.1 (by simp), HX3.out.2⟩) (hd ⟨C3.out.blk HX4.out.1 (by simp), HX4.out.2⟩)
   rw [← HLIT.out, hA.out] at z
   try simp only [qq]
   exact wpAnyH_act (by kernel_rfl) z
 · go_simp
   obtain ⟨w3, hw3⟩ : ∃ W, W = w2.alloc (.cells #[.int .i64 r.f] 3) := ⟨_, rfl⟩
   rw [← hw3]
   obtain ⟨Y, hY⟩ : ∃ X, X = w2.heap.size := ⟨_, rfl⟩
   rw [← hY]
   have HY : Hid (Blk w3 Y [.int .i64 r.f] 3 ∧ Y ≠ b) := hd ⟨by rw [hw3, hY]; exact Blk.new w2 [.int .i64 r.f] _, by have := HW2.out.lt; omega⟩
   have C3 : Hid (Chg [] w2 w3) := hd (by rw [hw3]; exact (Chg.refl _ _).alloc _)
   have HC3 : Hid (Chg [b] w1 w3) := hd (HC2.out.trans C3.out (by simp))
   have HW3 := hd (HW2.out.quiet C3.out)
   refine hK.out _ _ HC3.out (fun hHeld => ?_)
   clear hK K hw3 hY
   have z := st0_234.out w3 Y X3 X4 HW3 HC3 HY (hd ⟨C3.out.blk HX3.out.1 (by simp), HX3.out.2⟩) (hd ⟨C3.out.blk HX4.out.1 (by simp), HX4.out.2⟩)
   rw [← HLIT.out, hA.out] at z
   try simp only [qq]
   exact wpAnyH_act (by kernel_rfl) z)
set_option maxHeartbeats 40000000 in
set_option maxRecDepth 100000 in
theorem rows0_1 (C : RowC w0 b w1 r) (hO : Hid (RowO O)) (HPQ : Hid (∀ c a d x w, Q0 (.panic c) (a.put d x) w → Q0 (.panic c) a w)) (hA : Hid (A0 = RowA b M r y)) (st1_1 : Hid (RowS1_1 T b deep w1 bad out v r O Q0 A0)) (st0_12 : Hid (RowS0_12 T b deep w1 bad out v r O Q0 A0)) (st0_13 : Hid (RowS0_13 T b deep w1 bad out v r O Q0 A0)) (st0_14 : Hid (RowS0_14 T b deep w1 bad out v r O Q0 A0)) : Hid (RowS0_1 T b deep w1 bad out v r O Q0 A0) := hd (by
 have HL := C.HL
 have HB0 := C.HB0
 have HQ1 := C.HQ1
 have HRI := C.HRI
 have HRN := C.HRN
 clear C
 unfold RowS0_1
 have hlit := hO.out
 unfold RowO at hlit
 simp only [Tryz.f61, findR, Option.getD, if_true, if_false, Nat.reduceEqDiff] at hlit
 injection hlit with hlit
 have HLIT := hd hlit
 clear hlit hO
 intro w2 X1 HW2 HC2 HX1
 rw [← HLIT.out, hA.out]
 unfold RowA
 try simp only [qq]
 refine rd4 5 24 33 42 (fun K hK => ?_) (fun K hK => ?_) (fun K hK => ?_) (fun K hK => ?_)
 · go_simp
   refine name_r HW2 r.name (fun w3 h3 h4 => ?_)
   have HW3 := hd h3
   have HC3 : Hid (Chg [b] w1 w3) := hd (HC2.out.trans h4 (fun q hq => .inl hq))
   have H34 := hd h4
   refine hK.out _ _ HC3.out (fun hHeld => ?_)
   clear hK K h3 h4
   try simp only [qq]
   have g1 : ¬ 9223372036854775807 < 4 + r.name.length := by have := HRN.out; omega
   have g2 : ¬ 9223372036854775807 < 4 + r.name.length + 3 := by have := HRN.out; omega
   refine tk 6 ?vn16 ?hyn16 ?rsn16 (hQ := fun _ _ _ h => HPQ.out _ _ _ _ _ h)
   case hyn16 => (intro w9 hSw; go_simp; try with_reducible rfl)
   try simp only [qq]
   rw [show (⟨#[114, 111, 119, 32]⟩ : ByteArray) ++ ⟨r.name.toArray⟩ = ⟨(Pr.tRow ++ r.name).toArray⟩ from str2 _ _]
   have gz : (⟨(Pr.tRow ++ r.name).toArray⟩ : ByteArray).size = 4 + r.name.length := by rw [size_of9, List.length_append]; rfl
   refine tk 7 ?vm17 ?hym17 ?rsm17 (hQ := fun _ _ _ h => HPQ.out _ _ _ _ _ h)
   case hym17 => (intro w9 hSw; go_simp; try with_reducible rfl)
   try simp only [qq]
   rw [show (⟨(Pr.tRow ++ r.name).toArray⟩ : ByteArray) ++ ⟨#[32, 97, 116]⟩ = ⟨(Pr.tRow ++ r.name ++ Pr.tAt).toArray⟩ from str2 _ _]
   have z := st1_1.out w3 (.string ⟨(r.name).toArray⟩) (.string ⟨(Pr.tRow ++ r.name).toArray⟩) X1 (Pr.tRow ++ r.name ++ Pr.tAt) HW3 HC3 (hd ⟨rfl, by have := HRN.out; rw [List.length_append, List.length_append]; show 4 + _ + 3 ≤ _; omega⟩) (hd ⟨H34.out.blk HX1.out.1 (by simp [HX1.out.2]), HX1.out.2⟩)
   rw [← HLIT.out, hA.out] at z
   try simp only [qq]
   exact wpAnyH_act (by kernel_rfl) z
 · go_simp
   obtain ⟨w3, hw3⟩ : ∃ W, W = w2.alloc (.cells #[.int .i64 r.f] 3) := ⟨_, rfl⟩
   rw [← hw3]
   obtain ⟨Y, hY⟩ : ∃ X, X = w2.heap.size := ⟨_, rfl⟩
   rw [← hY]
   have HY : Hid (Blk w3 Y [.int .i64 r.f] 3 ∧ Y ≠ b) := hd ⟨by rw [hw3, hY]; exact Blk.new w2 [.int .i64 r.f] _, by have := HW2.out.lt; omega⟩
   have C3 : Hid (Chg [] w2 w3) := hd (by rw [hw3]; exact (Chg.refl _ _).alloc _)
   have HC3 : Hid (Chg [b] w1 w3) := hd (HC2.out.trans C3.out (by simp))
   have HW3 := hd (HW2.out.quiet C3.out)
   refine hK.out _ _ HC3.out (fun hHeld => ?_)
   clear hK K hw3 hY
   have z := st0_12.out w3 X1 Y HW3 HC3 (hd ⟨C3.out.blk HX1.out.1 (by simp), HX1.out.2⟩) HY
   rw [← HLIT.out, hA.out] at z
   try simp only [qq]
   exact wpAnyH_act (by kernel_rfl) z
 · go_simp
   obtain ⟨w3, hw3⟩ : ∃ W, W = w2.alloc (.cells #[.int .i64 r.t] 3) := ⟨_, rfl⟩
   rw [← hw3]
   obtain ⟨Y, hY⟩ : ∃ X, X = w2.heap.size := ⟨_, rfl⟩
   rw [← hY]
   have HY : Hid (Blk w3 Y [.int .i64 r.t] 3 ∧ Y ≠ b) := hd ⟨by rw [hw3, hY]; exact Blk.new w2 [.int .i64 r.t] _, by have := HW2.out.lt; omega⟩
   have C3 : Hid (Chg [] w2 w3) := hd (by rw [hw3]; exact (Chg.refl _ _).alloc _)
   have HC3 : Hid (Chg [b] w1 w3) := hd (HC2.out.trans C3.out (by simp))
   have HW3 := hd (HW2.out.quiet C3.out)
   refine hK.out _ _ HC3.out (fun hHeld => ?_)
   clear hK K hw3 hY
   have z := st0_13.out w3 X1 Y HW3 HC3 (hd ⟨C3.out.blk HX1.out.1 (by simp), HX1.out.2⟩) HY
   rw [← HLIT.out, hA.out] at z
   try simp only [qq]
   exact wpAnyH_act (by kernel_rfl) z
 · go_simp
   obtain ⟨w3, hw3⟩ : ∃ W, W = w2.alloc (.cells #[.int .i64 r.step] 3) := ⟨_, rfl⟩
   rw [← hw3]
   obtain ⟨Y, hY⟩ : ∃ X, X = w2.heap.size := ⟨_, rfl⟩
   rw [← hY]
   have HY : Hid (Blk w3 Y [.int .i64 r.step] 3 ∧ Y ≠ b) := hd ⟨by rw [hw3, hY]; exact Blk.new w2 [.int .i64 r.step] _, by have := HW2.out.lt; omega⟩
   have C3 : Hid (Chg [] w2 w3) := hd (by rw [hw3]; exact (Chg.refl _ _).alloc _)
   have HC3 : Hid (Chg [b] w1 w3) := hd (HC2.out.trans C3.out (by simp))
   have HW3 := hd (HW2.out.quiet C3.out)
   refine hK.out _ _ HC3.out (fun hHeld => ?_)
   clear hK K hw3 hY
   have z := st0_14.out w3 X1 Y HW3 HC3 (hd ⟨C3.out.blk HX1.out.1 (by simp), HX1.out.2⟩) HY
   rw [← HLIT.out, hA.out] at z
   try simp only [qq]
   exact wpAnyH_act (by kernel_rfl) z)
set_option maxHeartbeats 40000000 in
set_option maxRecDepth 100000 in
theorem rows0_2 (C : RowC w0 b w1 r) (hO : Hid (RowO O)) (HPQ : Hid (∀ c a d x w, Q0 (.panic c) (a.put d x) w → Q0 (.panic c) a w)) (hA : Hid (A0 = RowA b M r y)) (st1_2 : Hid (RowS1_2 T b deep w1 bad out v r O Q0 A0)) (st0_12 : Hid (RowS0_12 T b deep w1 bad out v r O Q0 A0)) (st0_23 : Hid (RowS0_23 T b deep w1 bad out v r O Q0 A0)) (st0_24 : Hid (RowS0_24 T b deep w1 bad out v r O Q0 A0)) : Hid (RowS0_2 T b deep w1 bad out v r O Q0 A0) := hd (by
 have HL := C.HL
 have HB0 := C.HB0
 have HQ1 := C.HQ1
 have HRI := C.HRI
 have HRN := C.HRN
 clear C
 unfold RowS0_2
 have hlit := hO.out
 unfold RowO at hlit
 simp only [Tryz.f61, findR, Option.getD, if_true, if_false, Nat.reduceEqDiff] at hlit
 injection hlit with hlit
 have HLIT := hd hlit
 clear hlit hO
 intro w2 X2 HW2 HC2 HX2
 rw [← HLIT.out, hA.out]
 unfold RowA
 try simp only [qq]
 refine rd4 5 15 33 42 (fun K hK => ?_) (fun K hK => ?_) (fun K hK => ?_) (fun K hK => ?_)
 · go_simp
   refine name_r HW2 r.name (fun w3 h3 h4 => ?_)
   have HW3 := hd h3
   have HC3 : Hid (Chg [b] w1 w3) := hd (HC2.out.trans h4 (fun q hq => .inl hq))
   have H34 := hd h4
   refine hK.out _ _ HC3.out (fun hHeld => ?_)
   clear hK K h3 h4
   try simp only [qq]
   have g1 : ¬ 9223372036854775807 < 4 + r.name.length := by have := HRN.out; omega
   have g2 : ¬ 9223372036854775807 < 4 + r.name.length + 3 := by have := HRN.out; omega
   refine tk 6 ?vn26 ?hyn26 ?rsn26 (hQ := fun _ _ _ h => HPQ.out _ _ _ _ _ h)
   case hyn26 => (intro w9 hSw; go_simp; try with_reducible rfl)
   try simp only [qq]
   rw [show (⟨#[114, 111, 119, 32]⟩ : ByteArray) ++ ⟨r.name.toArray⟩ = ⟨(Pr.tRow ++ r.name).toArray⟩ from str2 _ _]
   have gz : (⟨(Pr.tRow ++ r.name).toArray⟩ : ByteArray).size = 4 + r.name.length := by rw [size_of9, List.length_append]; rfl
   refine tk 7 ?vm27 ?hym27 ?rsm27 (hQ := fun _ _ _ h => HPQ.out _ _ _ _ _ h)
   case hym27 => (intro w9 hSw; go_simp; try with_reducible rfl)
   try simp only [qq]
   rw [show (⟨(Pr.tRow ++ r.name).toArray⟩ : ByteArray) ++ ⟨#[32, 97, 116]⟩ = ⟨(Pr.tRow ++ r.name ++ Pr.tAt).toArray⟩ from str2 _ _]
   have z := st1_2.out w3 (.string ⟨(r.name).toArray⟩) (.string ⟨(Pr.tRow ++ r.name).toArray⟩) X2 (Pr.tRow ++ r.name ++ Pr.tAt) HW3 HC3 (hd ⟨rfl, by have := HRN.out; rw [List.length_append, List.length_append]; show 4 + _ + 3 ≤ _; omega⟩) (hd ⟨H34.out.blk HX2.out.1 (by simp [HX2.out.2]), HX2.out.2⟩)
   rw [← HLIT.out, hA.out] at z
   try simp only [qq]
   exact wpAnyH_act (by kernel_rfl) z
 · go_simp
   obtain ⟨w3, hw3⟩ : ∃ W, W = w2.alloc (.cells #[.int .i64 r.x, .int .i64 r.y] 3) := ⟨_, rfl⟩
   rw [← hw3]
   obtain ⟨Y, hY⟩ : ∃ X, X = w2.heap.size := ⟨_, rfl⟩
   rw [← hY]
   have HY : Hid (Blk w3 Y [.int .i64 r.x, .int .i64 r.y] 3 ∧ Y ≠ b) := hd ⟨by rw [hw3, hY]; exact Blk.new w2 [.int .i64 r.x, .int .i64 r.y] _, by have := HW2.out.lt; omega⟩
   have C3 : Hid (Chg [] w2 w3) := hd (by rw [hw3]; exact (Chg.refl _ _).alloc _)
   have HC3 : Hid (Chg [b] w1 w3) := hd (HC2.out.trans C3.out (by simp))
   have HW3 := hd (HW2.out.quiet C3.out)
   refine hK.out _ _ HC3.out (fun hHeld => ?_)
   clear hK K hw3 hY
   have z := st0_12.out w3 Y X2 HW3 HC3 HY (hd ⟨C3.out.blk HX2.out.1 (by simp), HX2.out.2⟩)
   rw [← HLIT.out, hA.out] at z
   try simp only [qq]
   exact wpAnyH_act (by kernel_rfl) z
 · go_simp
   obtain ⟨w3, hw3⟩ : ∃ W, W = w2.alloc (.cells #[.int .i64 r.t] 3) := ⟨_, rfl⟩
   rw [← hw3]
   obtain ⟨Y, hY⟩ : ∃ X, X = w2.heap.size := ⟨_, rfl⟩
   rw [← hY]
   have HY : Hid (Blk w3 Y [.int .i64 r.t] 3 ∧ Y ≠ b) := hd ⟨by rw [hw3, hY]; exact Blk.new w2 [.int .i64 r.t] _, by have := HW2.out.lt; omega⟩
   have C3 : Hid (Chg [] w2 w3) := hd (by rw [hw3]; exact (Chg.refl _ _).alloc _)
   have HC3 : Hid (Chg [b] w1 w3) := hd (HC2.out.trans C3.out (by simp))
   have HW3 := hd (HW2.out.quiet C3.out)
   refine hK.out _ _ HC3.out (fun hHeld => ?_)
   clear hK K hw3 hY
   have z := st0_23.out w3 X2 Y HW3 HC3 (hd ⟨C3.out.blk HX2.out.1 (by simp), HX2.out.2⟩) HY
   rw [← HLIT.out, hA.out] at z
   try simp only [qq]
   exact wpAnyH_act (by kernel_rfl) z
 · go_simp
   obtain ⟨w3, hw3⟩ : ∃ W, W = w2.alloc (.cells #[.int .i64 r.step] 3) := ⟨_, rfl⟩
   rw [← hw3]
   obtain ⟨Y, hY⟩ : ∃ X, X = w2.heap.size := ⟨_, rfl⟩
   rw [← hY]
   have HY : Hid (Blk w3 Y [.int .i64 r.step] 3 ∧ Y ≠ b) := hd ⟨by rw [hw3, hY]; exact Blk.new w2 [.int .i64 r.step] _, by have := HW2.out.lt; omega⟩
   have C3 : Hid (Chg [] w2 w3) := hd (by rw [hw3]; exact (Chg.refl _ _).alloc _)
   have HC3 : Hid (Chg [b] w1 w3) := hd (HC2.out.trans C3.out (by simp))
   have HW3 := hd (HW2.out.quiet C3.out)
   refine hK.out _ _ HC3.out (fun hHeld => ?_)
   clear hK K hw3 hY
   have z := st0_24.out w3 X2 Y HW3 HC3 (hd ⟨C3.out.blk HX2.out.1 (by simp), HX2.out.2⟩) HY
   rw [← HLIT.out, hA.out] at z
   try simp only [qq]
   exact wpAnyH_act (by kernel_rfl) z)
set_option maxHeartbeats 40000000 in
set_option maxRecDepth 100000 in
theorem rows0_3 (C : RowC w0 b w1 r) (hO : Hid (RowO O)) (HPQ : Hid (∀ c a d x w, Q0 (.panic c) (a.put d x) w → Q0 (.panic c) a w)) (hA : Hid (A0 = RowA b M r y)) (st1_3 : Hid (RowS1_3 T b deep w1 bad out v r O Q0 A0)) (st0_13 : Hid (RowS0_13 T b deep w1 bad out v r O Q0 A0)) (st0_23 : Hid (RowS0_23 T b deep w1 bad out v r O Q0 A0)) (st0_34 : Hid (RowS0_34 T b deep w1 bad out v r O Q0 A0)) : Hid (RowS0_3 T b deep w1 bad out v r O Q0 A0) := hd (by
 have HL := C.HL
 have HB0 := C.HB0
 have HQ1 := C.HQ1
 have HRI := C.HRI
 have HRN := C.HRN
 clear C
 unfold RowS0_3
 have hlit := hO.out
 unfold RowO at hlit
 simp only [Tryz.f61, findR, Option.getD, if_true, if_false, Nat.reduceEqDiff] at hlit
 injection hlit with hlit
 have HLIT := hd hlit
 clear hlit hO
 intro w2 X3 HW2 HC2 HX3
 rw [← HLIT.out, hA.out]
 unfold RowA
 try simp only [qq]
 refine rd4 5 15 24 42 (fun K hK => ?_) (fun K hK => ?_) (fun K hK => ?_) (fun K hK => ?_)
 · go_simp
   refine name_r HW2 r.name (fun w3 h3 h4 => ?_)
   have HW3 := hd h3
   have HC3 : Hid (Chg [b] w1 w3) := hd (HC2.out.trans h4 (fun q hq => .inl hq))
   have H34 := hd h4
   refine hK.out _ _ HC3.out (fun hHeld => ?_)
   clear hK K h3 h4
   try simp only [qq]
   have g1 : ¬ 9223372036854775807 < 4 + r.name.length := by have := HRN.out; omega
   have g2 : ¬ 9223372036854775807 < 4 + r.name.length + 3 := by have := HRN.out; omega
   refine tk 6 ?vn36 ?hyn36 ?rsn36 (hQ := fun _ _ _ h => HPQ.out _ _ _ _ _ h)
   case hyn36 => (intro w9 hSw; go_simp; try with_reducible rfl)
   try simp only [qq]
   rw [show (⟨#[114, 111, 119, 32]⟩ : ByteArray) ++ ⟨r.name.toArray⟩ = ⟨(Pr.tRow ++ r.name).toArray⟩ from str2 _ _]
   have gz : (⟨(Pr.tRow ++ r.name).toArray⟩ : ByteArray).size = 4 + r.name.length := by rw [size_of9, List.length_append]; rfl
   refine tk 7 ?vm37 ?hym37 ?rsm37 (hQ := fun _ _ _ h => HPQ.out _ _ _ _ _ h)
   case hym37 => (intro w9 hSw; go_simp; try with_reducible rfl)
   try simp only [qq]
   rw [show (⟨(Pr.tRow ++ r.name).toArray⟩ : ByteArray) ++ ⟨#[32, 97, 116]⟩ = ⟨(Pr.tRow ++ r.name ++ Pr.tAt).toArray⟩ from str2 _ _]
   have z := st1_3.out w3 (.string ⟨(r.name).toArray⟩) (.string ⟨(Pr.tRow ++ r.name).toArray⟩) X3 (Pr.tRow ++ r.name ++ Pr.tAt) HW3 HC3 (hd ⟨rfl, by have := HRN.out; rw [List.length_append, List.length_append]; show 4 + _ + 3 ≤ _; omega⟩) (hd ⟨H34.out.blk HX3.out.1 (by simp [HX3.out.2]), HX3.out.2⟩)
   rw [← HLIT.out, hA.out] at z
   try simp only [qq]
   exact wpAnyH_act (by kernel_rfl) z
 · go_simp
   obtain ⟨w3, hw3⟩ : ∃ W, W = w2.alloc (.cells #[.int .i64 r.x, .int .i64 r.y] 3) := ⟨_, rfl⟩
   rw [← hw3]
   obtain ⟨Y, hY⟩ : ∃ X, X = w2.heap.size := ⟨_, rfl⟩
   rw [← hY]
   have HY : Hid (Blk w3 Y [.int .i64 r.x, .int .i64 r.y] 3 ∧ Y ≠ b) := hd ⟨by rw [hw3, hY]; exact Blk.new w2 [.int .i64 r.x, .int .i64 r.y] _, by have := HW2.out.lt; omega⟩
   have C3 : Hid (Chg [] w2 w3) := hd (by rw [hw3]; exact (Chg.refl _ _).alloc _)
   have HC3 : Hid (Chg [b] w1 w3) := hd (HC2.out.trans C3.out (by simp))
   have HW3 := hd (HW2.out.quiet C3.out)
   refine hK.out _ _ HC3.out (fun hHeld => ?_)
   clear hK K hw3 hY
   have z := st0_13.out w3 Y X3 HW3 HC3 HY (hd ⟨C3.out.blk HX3.out.1 (by simp), HX3.out.2⟩)
   rw [← HLIT.out, hA.out] at z
   try simp only [qq]
   exact wpAnyH_act (by kernel_rfl) z
 · go_simp
   obtain ⟨w3, hw3⟩ : ∃ W, W = w2.alloc (.cells #[.int .i64 r.f] 3) := ⟨_, rfl⟩
   rw [← hw3]
   obtain ⟨Y, hY⟩ : ∃ X, X = w2.heap.size := ⟨_, rfl⟩
   rw [← hY]
   have HY : Hid (Blk w3 Y [.int .i64 r.f] 3 ∧ Y ≠ b) := hd ⟨by rw [hw3, hY]; exact Blk.new w2 [.int .i64 r.f] _, by have := HW2.out.lt; omega⟩
   have C3 : Hid (Chg [] w2 w3) := hd (by rw [hw3]; exact (Chg.refl _ _).alloc _)
   have HC3 : Hid (Chg [b] w1 w3) := hd (HC2.out.trans C3.out (by simp))
   have HW3 := hd (HW2.out.quiet C3.out)
   refine hK.out _ _ HC3.out (fun hHeld => ?_)
   clear hK K hw3 hY
   have z := st0_23.out w3 Y X3 HW3 HC3 HY (hd ⟨C3.out.blk HX3.out.1 (by simp), HX3.out.2⟩)
   rw [← HLIT.out, hA.out] at z
   try simp only [qq]
   exact wpAnyH_act (by kernel_rfl) z
 · go_simp
   obtain ⟨w3, hw3⟩ : ∃ W, W = w2.alloc (.cells #[.int .i64 r.step] 3) := ⟨_, rfl⟩
   rw [← hw3]
   obtain ⟨Y, hY⟩ : ∃ X, X = w2.heap.size := ⟨_, rfl⟩
   rw [← hY]
   have HY : Hid (Blk w3 Y [.int .i64 r.step] 3 ∧ Y ≠ b) := hd ⟨by rw [hw3, hY]; exact Blk.new w2 [.int .i64 r.step] _, by have := HW2.out.lt; omega⟩
   have C3 : Hid (Chg [] w2 w3) := hd (by rw [hw3]; exact (Chg.refl _ _).alloc _)
   have HC3 : Hid (Chg [b] w1 w3) := hd (HC2.out.trans C3.out (by simp))
   have HW3 := hd (HW2.out.quiet C3.out)
   refine hK.out _ _ HC3.out (fun hHeld => ?_)
   clear hK K hw3 hY
   have z := st0_34.out w3 X3 Y HW3 HC3 (hd ⟨C3.out.blk HX3.out.1 (by simp), HX3.out.2⟩) HY
   rw [← HLIT.out, hA.out] at z
   try simp only [qq]
   exact wpAnyH_act (by kernel_rfl) z)
set_option maxHeartbeats 40000000 in
set_option maxRecDepth 100000 in
theorem rows0_4 (C : RowC w0 b w1 r) (hO : Hid (RowO O)) (HPQ : Hid (∀ c a d x w, Q0 (.panic c) (a.put d x) w → Q0 (.panic c) a w)) (hA : Hid (A0 = RowA b M r y)) (st1_4 : Hid (RowS1_4 T b deep w1 bad out v r O Q0 A0)) (st0_14 : Hid (RowS0_14 T b deep w1 bad out v r O Q0 A0)) (st0_24 : Hid (RowS0_24 T b deep w1 bad out v r O Q0 A0)) (st0_34 : Hid (RowS0_34 T b deep w1 bad out v r O Q0 A0)) : Hid (RowS0_4 T b deep w1 bad out v r O Q0 A0) := hd (by
 have HL := C.HL
 have HB0 := C.HB0
 have HQ1 := C.HQ1
 have HRI := C.HRI
 have HRN := C.HRN
 clear C
 unfold RowS0_4
 have hlit := hO.out
 unfold RowO at hlit
 simp only [Tryz.f61, findR, Option.getD, if_true, if_false, Nat.reduceEqDiff] at hlit
 injection hlit with hlit
 have HLIT := hd hlit
 clear hlit hO
 intro w2 X4 HW2 HC2 HX4
 rw [← HLIT.out, hA.out]
 unfold RowA
 try simp only [qq]
 refine rd4 5 15 24 33 (fun K hK => ?_) (fun K hK => ?_) (fun K hK => ?_) (fun K hK => ?_)
 · go_simp
   refine name_r HW2 r.name (fun w3 h3 h4 => ?_)
   have HW3 := hd h3
   have HC3 : Hid (Chg [b] w1 w3) := hd (HC2.out.trans h4 (fun q hq => .inl hq))
   have H34 := hd h4
   refine hK.out _ _ HC3.out (fun hHeld => ?_)
   clear hK K h3 h4
   try simp only [qq]
   have g1 : ¬ 9223372036854775807 < 4 + r.name.length := by have := HRN.out; omega
   have g2 : ¬ 9223372036854775807 < 4 + r.name.length + 3 := by have := HRN.out; omega
   refine tk 6 ?vn46 ?hyn46 ?rsn46 (hQ := fun _ _ _ h => HPQ.out _ _ _ _ _ h)
   case hyn46 => (intro w9 hSw; go_simp; try with_reducible rfl)
   try simp only [qq]
   rw [show (⟨#[114, 111, 119, 32]⟩ : ByteArray) ++ ⟨r.name.toArray⟩ = ⟨(Pr.tRow ++ r.name).toArray⟩ from str2 _ _]
   have gz : (⟨(Pr.tRow ++ r.name).toArray⟩ : ByteArray).size = 4 + r.name.length := by rw [size_of9, List.length_append]; rfl
   refine tk 7 ?vm47 ?hym47 ?rsm47 (hQ := fun _ _ _ h => HPQ.out _ _ _ _ _ h)
   case hym47 => (intro w9 hSw; go_simp; try with_reducible rfl)
   try simp only [qq]
   rw [show (⟨(Pr.tRow ++ r.name).toArray⟩ : ByteArray) ++ ⟨#[32, 97, 116]⟩ = ⟨(Pr.tRow ++ r.name ++ Pr.tAt).toArray⟩ from str2 _ _]
   have z := st1_4.out w3 (.string ⟨(r.name).toArray⟩) (.string ⟨(Pr.tRow ++ r.name).toArray⟩) X4 (Pr.tRow ++ r.name ++ Pr.tAt) HW3 HC3 (hd ⟨rfl, by have := HRN.out; rw [List.length_append, List.length_append]; show 4 + _ + 3 ≤ _; omega⟩) (hd ⟨H34.out.blk HX4.out.1 (by simp [HX4.out.2]), HX4.out.2⟩)
   rw [← HLIT.out, hA.out] at z
   try simp only [qq]
   exact wpAnyH_act (by kernel_rfl) z
 · go_simp
   obtain ⟨w3, hw3⟩ : ∃ W, W = w2.alloc (.cells #[.int .i64 r.x, .int .i64 r.y] 3) := ⟨_, rfl⟩
   rw [← hw3]
   obtain ⟨Y, hY⟩ : ∃ X, X = w2.heap.size := ⟨_, rfl⟩
   rw [← hY]
   have HY : Hid (Blk w3 Y [.int .i64 r.x, .int .i64 r.y] 3 ∧ Y ≠ b) := hd ⟨by rw [hw3, hY]; exact Blk.new w2 [.int .i64 r.x, .int .i64 r.y] _, by have := HW2.out.lt; omega⟩
   have C3 : Hid (Chg [] w2 w3) := hd (by rw [hw3]; exact (Chg.refl _ _).alloc _)
   have HC3 : Hid (Chg [b] w1 w3) := hd (HC2.out.trans C3.out (by simp))
   have HW3 := hd (HW2.out.quiet C3.out)
   refine hK.out _ _ HC3.out (fun hHeld => ?_)
   clear hK K hw3 hY
   have z := st0_14.out w3 Y X4 HW3 HC3 HY (hd ⟨C3.out.blk HX4.out.1 (by simp), HX4.out.2⟩)
   rw [← HLIT.out, hA.out] at z
   try simp only [qq]
   exact wpAnyH_act (by kernel_rfl) z
 · go_simp
   obtain ⟨w3, hw3⟩ : ∃ W, W = w2.alloc (.cells #[.int .i64 r.f] 3) := ⟨_, rfl⟩
   rw [← hw3]
   obtain ⟨Y, hY⟩ : ∃ X, X = w2.heap.size := ⟨_, rfl⟩
   rw [← hY]
   have HY : Hid (Blk w3 Y [.int .i64 r.f] 3 ∧ Y ≠ b) := hd ⟨by rw [hw3, hY]; exact Blk.new w2 [.int .i64 r.f] _, by have := HW2.out.lt; omega⟩
   have C3 : Hid (Chg [] w2 w3) := hd (by rw [hw3]; exact (Chg.refl _ _).alloc _)
   have HC3 : Hid (Chg [b] w1 w3) := hd (HC2.out.trans C3.out (by simp))
   have HW3 := hd (HW2.out.quiet C3.out)
   refine hK.out _ _ HC3.out (fun hHeld => ?_)
   clear hK K hw3 hY
   have z := st0_24.out w3 Y X4 HW3 HC3 HY (hd ⟨C3.out.blk HX4.out.1 (by simp), HX4.out.2⟩)
   rw [← HLIT.out, hA.out] at z
   try simp only [qq]
   exact wpAnyH_act (by kernel_rfl) z
 · go_simp
   obtain ⟨w3, hw3⟩ : ∃ W, W = w2.alloc (.cells #[.int .i64 r.t] 3) := ⟨_, rfl⟩
   rw [← hw3]
   obtain ⟨Y, hY⟩ : ∃ X, X = w2.heap.size := ⟨_, rfl⟩
   rw [← hY]
   have HY : Hid (Blk w3 Y [.int .i64 r.t] 3 ∧ Y ≠ b) := hd ⟨by rw [hw3, hY]; exact Blk.new w2 [.int .i64 r.t] _, by have := HW2.out.lt; omega⟩
   have C3 : Hid (Chg [] w2 w3) := hd (by rw [hw3]; exact (Chg.refl _ _).alloc _)
   have HC3 : Hid (Chg [b] w1 w3) := hd (HC2.out.trans C3.out (by simp))
   have HW3 := hd (HW2.out.quiet C3.out)
   refine hK.out _ _ HC3.out (fun hHeld => ?_)
   clear hK K hw3 hY
   have z := st0_34.out w3 Y X4 HW3 HC3 HY (hd ⟨C3.out.blk HX4.out.1 (by simp), HX4.out.2⟩)
   rw [← HLIT.out, hA.out] at z
   try simp only [qq]
   exact wpAnyH_act (by kernel_rfl) z)
set_option maxHeartbeats 40000000 in
set_option maxRecDepth 100000 in
theorem rows0_ (C : RowC w0 b w1 r) (hO : Hid (RowO O)) (HPQ : Hid (∀ c a d x w, Q0 (.panic c) (a.put d x) w → Q0 (.panic c) a w)) (hA : Hid (A0 = RowA b M r y)) (st1_ : Hid (RowS1_ T b deep w1 bad out v r O Q0 A0)) (st0_1 : Hid (RowS0_1 T b deep w1 bad out v r O Q0 A0)) (st0_2 : Hid (RowS0_2 T b deep w1 bad out v r O Q0 A0)) (st0_3 : Hid (RowS0_3 T b deep w1 bad out v r O Q0 A0)) (st0_4 : Hid (RowS0_4 T b deep w1 bad out v r O Q0 A0)) : Hid (RowS0_ T b deep w1 bad out v r O Q0 A0) := hd (by
 have HL := C.HL
 have HB0 := C.HB0
 have HQ1 := C.HQ1
 have HRI := C.HRI
 have HRN := C.HRN
 clear C
 unfold RowS0_
 have hlit := hO.out
 unfold RowO at hlit
 simp only [Tryz.f61, findR, Option.getD, if_true, if_false, Nat.reduceEqDiff] at hlit
 injection hlit with hlit
 have HLIT := hd hlit
 clear hlit hO
 intro w2 HW2 HC2
 rw [← HLIT.out, hA.out]
 unfold RowA
 try simp only [qq]
 refine wpAnyH_ready (rs := [5, 15, 24, 33, 42]) (by kernel_rfl) (by simp) (AllReadyH.cons rfl (fun K hK => ?_) (AllReadyH.cons rfl (fun K hK => ?_) (AllReadyH.cons rfl (fun K hK => ?_) (AllReadyH.cons rfl (fun K hK => ?_) (AllReadyH.cons rfl (fun K hK => ?_) AllReadyH.nil)))))
 · go_simp
   refine name_r HW2 r.name (fun w3 h3 h4 => ?_)
   have HW3 := hd h3
   have HC3 : Hid (Chg [b] w1 w3) := hd (HC2.out.trans h4 (fun q hq => .inl hq))
   have H34 := hd h4
   refine hK.out _ _ HC3.out (fun hHeld => ?_)
   clear hK K h3 h4
   try simp only [qq]
   have g1 : ¬ 9223372036854775807 < 4 + r.name.length := by have := HRN.out; omega
   have g2 : ¬ 9223372036854775807 < 4 + r.name.length + 3 := by have := HRN.out; omega
   refine tk 6 ?vn6 ?hyn6 ?rsn6 (hQ := fun _ _ _ h => HPQ.out _ _ _ _ _ h)
   case hyn6 => (intro w9 hSw; go_simp; try with_reducible rfl)
   try simp only [qq]
   rw [show (⟨#[114, 111, 119, 32]⟩ : ByteArray) ++ ⟨r.name.toArray⟩ = ⟨(Pr.tRow ++ r.name).toArray⟩ from str2 _ _]
   have gz : (⟨(Pr.tRow ++ r.name).toArray⟩ : ByteArray).size = 4 + r.name.length := by rw [size_of9, List.length_append]; rfl
   refine tk 7 ?vm7 ?hym7 ?rsm7 (hQ := fun _ _ _ h => HPQ.out _ _ _ _ _ h)
   case hym7 => (intro w9 hSw; go_simp; try with_reducible rfl)
   try simp only [qq]
   rw [show (⟨(Pr.tRow ++ r.name).toArray⟩ : ByteArray) ++ ⟨#[32, 97, 116]⟩ = ⟨(Pr.tRow ++ r.name ++ Pr.tAt).toArray⟩ from str2 _ _]
   have z := st1_.out w3 (.string ⟨(r.name).toArray⟩) (.string ⟨(Pr.tRow ++ r.name).toArray⟩) (Pr.tRow ++ r.name ++ Pr.tAt) HW3 HC3 (hd ⟨rfl, by have := HRN.out; rw [List.length_append, List.length_append]; show 4 + _ + 3 ≤ _; omega⟩)
   rw [← HLIT.out, hA.out] at z
   try simp only [qq]
   exact wpAnyH_act (by kernel_rfl) z
 · go_simp
   obtain ⟨w3, hw3⟩ : ∃ W, W = w2.alloc (.cells #[.int .i64 r.x, .int .i64 r.y] 3) := ⟨_, rfl⟩
   rw [← hw3]
   obtain ⟨Y, hY⟩ : ∃ X, X = w2.heap.size := ⟨_, rfl⟩
   rw [← hY]
   have HY : Hid (Blk w3 Y [.int .i64 r.x, .int .i64 r.y] 3 ∧ Y ≠ b) := hd ⟨by rw [hw3, hY]; exact Blk.new w2 [.int .i64 r.x, .int .i64 r.y] _, by have := HW2.out.lt; omega⟩
   have C3 : Hid (Chg [] w2 w3) := hd (by rw [hw3]; exact (Chg.refl _ _).alloc _)
   have HC3 : Hid (Chg [b] w1 w3) := hd (HC2.out.trans C3.out (by simp))
   have HW3 := hd (HW2.out.quiet C3.out)
   refine hK.out _ _ HC3.out (fun hHeld => ?_)
   clear hK K hw3 hY
   have z := st0_1.out w3 Y HW3 HC3 HY
   rw [← HLIT.out, hA.out] at z
   try simp only [qq]
   exact wpAnyH_act (by kernel_rfl) z
 · go_simp
   obtain ⟨w3, hw3⟩ : ∃ W, W = w2.alloc (.cells #[.int .i64 r.f] 3) := ⟨_, rfl⟩
   rw [← hw3]
   obtain ⟨Y, hY⟩ : ∃ X, X = w2.heap.size := ⟨_, rfl⟩
   rw [← hY]
   have HY : Hid (Blk w3 Y [.int .i64 r.f] 3 ∧ Y ≠ b) := hd ⟨by rw [hw3, hY]; exact Blk.new w2 [.int .i64 r.f] _, by have := HW2.out.lt; omega⟩
   have C3 : Hid (Chg [] w2 w3) := hd (by rw [hw3]; exact (Chg.refl _ _).alloc _)
   have HC3 : Hid (Chg [b] w1 w3) := hd (HC2.out.trans C3.out (by simp))
   have HW3 := hd (HW2.out.quiet C3.out)
   refine hK.out _ _ HC3.out (fun hHeld => ?_)
   clear hK K hw3 hY
   have z := st0_2.out w3 Y HW3 HC3 HY
   rw [← HLIT.out, hA.out] at z
   try simp only [qq]
   exact wpAnyH_act (by kernel_rfl) z
 · go_simp
   obtain ⟨w3, hw3⟩ : ∃ W, W = w2.alloc (.cells #[.int .i64 r.t] 3) := ⟨_, rfl⟩
   rw [← hw3]
   obtain ⟨Y, hY⟩ : ∃ X, X = w2.heap.size := ⟨_, rfl⟩
   rw [← hY]
   have HY : Hid (Blk w3 Y [.int .i64 r.t] 3 ∧ Y ≠ b) := hd ⟨by rw [hw3, hY]; exact Blk.new w2 [.int .i64 r.t] _, by have := HW2.out.lt; omega⟩
   have C3 : Hid (Chg [] w2 w3) := hd (by rw [hw3]; exact (Chg.refl _ _).alloc _)
   have HC3 : Hid (Chg [b] w1 w3) := hd (HC2.out.trans C3.out (by simp))
   have HW3 := hd (HW2.out.quiet C3.out)
   refine hK.out _ _ HC3.out (fun hHeld => ?_)
   clear hK K hw3 hY
   have z := st0_3.out w3 Y HW3 HC3 HY
   rw [← HLIT.out, hA.out] at z
   try simp only [qq]
   exact wpAnyH_act (by kernel_rfl) z
 · go_simp
   obtain ⟨w3, hw3⟩ : ∃ W, W = w2.alloc (.cells #[.int .i64 r.step] 3) := ⟨_, rfl⟩
   rw [← hw3]
   obtain ⟨Y, hY⟩ : ∃ X, X = w2.heap.size := ⟨_, rfl⟩
   rw [← hY]
   have HY : Hid (Blk w3 Y [.int .i64 r.step] 3 ∧ Y ≠ b) := hd ⟨by rw [hw3, hY]; exact Blk.new w2 [.int .i64 r.step] _, by have := HW2.out.lt; omega⟩
   have C3 : Hid (Chg [] w2 w3) := hd (by rw [hw3]; exact (Chg.refl _ _).alloc _)
   have HC3 : Hid (Chg [b] w1 w3) := hd (HC2.out.trans C3.out (by simp))
   have HW3 := hd (HW2.out.quiet C3.out)
   refine hK.out _ _ HC3.out (fun hHeld => ?_)
   clear hK K hw3 hY
   have z := st0_4.out w3 Y HW3 HC3 HY
   rw [← HLIT.out, hA.out] at z
   try simp only [qq]
   exact wpAnyH_act (by kernel_rfl) z)
end Go.Proofs.YtgbooiaedbpenaaGreatDoor
