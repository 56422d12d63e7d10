/-
  Printer, layer 11: rows, the other states of its first region.
-/
import Derived.Test.YtgbooiaedbpenaaDoorPrRa
namespace Go.Proofs.YtgbooiaedbpenaaDoor
set_option linter.unusedVariables false
set_option linter.unusedSimpArgs false
open Go Go.RowKit Go.Shelf
attribute [local irreducible] Go.wpStill
set_option maxHeartbeats 40000000 in
set_option maxRecDepth 100000 in
theorem rows1_1234 {T : TypeId} {b deep : Nat} {w0 w1 : World} {bad : Bool} {out : Bytes} {v : Value} {r : Pr.Rw} {O : Array Oper} {Q0 : Exit → Act → World → Prop} {A0 : Act} (C : RowC w0 b w1 r) (hO : Hid (RowO O)) (HPQ : Hid (∀ c a d x w, Q0 (.panic c) (a.put d x) w → Q0 (.panic c) a w)) {M : Nat} {y1 y2 y3 y4 y5 y6 y7 y13 y14 y15 y23 y24 y25 y26 y32 y33 y34 y35 y41 y42 y43 y44 y50 y51 y52 y53 y54 y55 y56 y57 y58 y59 y60 y61 y62 y63 y64 y65 y66 y67 y68 y69 y70 y71 y72 y73 y74 y75 y76 y77 y78 y79 y80 y81 y82 y83 y84 y85 y86 y87 y88 y89 y90 y91 y92 y93 y94 y95 y96 y97 y98 y99 y100 y101 y102 y103 y104 y105 y106 y107 y108 y109 y110 y111 y112 y113 y114 y115 y116 : Value} (hA : Hid (A0 = RowA b M r y1 y2 y3 y4 y5 y6 y7 y13 y14 y15 y23 y24 y25 y26 y32 y33 y34 y35 y41 y42 y43 y44 y50 y51 y52 y53 y54 y55 y56 y57 y58 y59 y60 y61 y62 y63 y64 y65 y66 y67 y68 y69 y70 y71 y72 y73 y74 y75 y76 y77 y78 y79 y80 y81 y82 y83 y84 y85 y86 y87 y88 y89 y90 y91 y92 y93 y94 y95 y96 y97 y98 y99 y100 y101 y102 y103 y104 y105 y106 y107 y108 y109 y110 y111 y112 y113 y114 y115 y116)) (st2_1234 : Hid (RowS2_1234 T b deep w1 bad out v r O Q0 A0)) : Hid (RowS1_1234 T b deep w1 bad out v r O Q0 A0) := hd (by
  have HL := C.HL
  have HB0 := C.HB0
  have HQ1 := C.HQ1
  have HRI := C.HRI
  have HRN := C.HRN
  clear C
  unfold RowS1_1234
  have hlit := hO.out
  unfold RowO at hlit
  simp only [Tryd.f43, findR, Option.getD, if_true, if_false, Nat.reduceEqDiff] at hlit
  injection hlit with hlit
  have HLIT := hd hlit
  clear hlit hO
  intro w2 d13 d14 X1 X2 X3 X4 a HW2 HC2 HA HX1 HX2 HX3 HX4
  rw [← HLIT.out, hA.out]
  unfold RowA
  try simp only [Act.put, List.setIfInBounds_toArray, List.set_cons_zero, List.set_cons_succ, List.getElem_toArray, List.getElem_cons_succ, List.getElem_cons_zero]
  refine wpAnyH_ready (rs := [16]) (by kernel_rfl) (by simp) (AllReadyH.cons rfl (fun K hK => ?_) AllReadyH.nil)
  · go_simp
    refine numbers_r HL HB0 (hd ((HQ1.out.since HC2.out HB0.out))) HW2 [r.x, r.y] 2 ⟨rfl, by decide⟩ (by intro q hq; simp only [List.mem_cons, List.not_mem_nil, or_false] at hq; rcases hq with rfl | rfl; exact HRI.out.1; exact HRI.out.2.1) HX1.out.1 HX1.out.2 (fun w3 h3 h4 => ?_)
    have HW3 := hd h3
    have HC3 : Hid (Chg [b] w1 w3) := hd (HC2.out.trans h4 (fun q hq => .inl hq))
    have H34 := hd h4
    refine hK.out _ _ HC3.out (fun hHeld => ?_)
    clear hK K h3 h4
    try simp only [Act.put, List.setIfInBounds_toArray, List.set_cons_zero, List.set_cons_succ, List.getElem_toArray, List.getElem_cons_succ, List.getElem_cons_zero]
    have gn : (Pr.nums [r.x, r.y]).length ≤ 44 := Pr.nums_len [r.x, r.y] (by intro q hq; simp only [List.mem_cons, List.not_mem_nil, or_false] at hq; rcases hq with rfl | rfl; exact HRI.out.1; exact HRI.out.2.1)
    obtain ⟨nn, hnn⟩ : ∃ nn, nn = Pr.nums [r.x, r.y] := ⟨_, rfl⟩
    rw [← hnn] at gn
    rw [← hnn]
    have HNN := hd hnn
    clear hnn
    have gl := HA.out.2
    have g1 : ¬ 9223372036854775807 < a.length + nn.length := by omega
    refine wpAnyH_take (i := 17) (v := ?vn123417) rfl (by kernel_rfl) (by kernel_rfl) (by kernel_rfl) (fun _ _ _ h => HPQ.out _ _ _ _ _ h) (Or.inl ⟨by kernel_rfl, ?hyn123417⟩) (by assumption) ?rsn123417
    case hyn123417 => (intro w9 hSw; skip; go_simp; try with_reducible rfl)
    try simp only [Act.put, List.setIfInBounds_toArray, List.set_cons_zero, List.set_cons_succ, List.getElem_toArray, List.getElem_cons_succ, List.getElem_cons_zero]
    rw [str2]
    have gz : (⟨(a ++ nn).toArray⟩ : ByteArray).size = a.length + nn.length := by rw [size_of9, List.length_append]
    have g2 : ¬ 9223372036854775807 < a.length + nn.length + 6 := by omega
    refine wpAnyH_take (i := 18) (v := ?vm123418) rfl (by kernel_rfl) (by kernel_rfl) (by kernel_rfl) (fun _ _ _ h => HPQ.out _ _ _ _ _ h) (Or.inl ⟨by kernel_rfl, ?hym123418⟩) (by assumption) ?rsm123418
    case hym123418 => (intro w9 hSw; skip; go_simp; try with_reducible rfl)
    try simp only [Act.put, List.setIfInBounds_toArray, List.set_cons_zero, List.set_cons_succ, List.getElem_toArray, List.getElem_cons_succ, List.getElem_cons_zero]
    rw [show (⟨(a ++ nn).toArray⟩ : ByteArray) ++ ⟨#[32, 115, 101, 97, 116, 115]⟩ = ⟨(a ++ nn ++ Pr.tSeats).toArray⟩ from str2 _ _]
    have z := st2_1234.out w3 d13 d14 (.string ⟨a.toArray⟩) (.string ⟨(nn).toArray⟩) (.string ⟨(a ++ nn).toArray⟩) X1 X2 X3 X4 (a ++ nn ++ Pr.tSeats) HW3 HC3 (hd ⟨by rw [HA.out.1, HNN.out], by rw [List.length_append, List.length_append]; show _ + 6 ≤ _; omega⟩) (hd ⟨H34.out.blk HX2.out.1 (by simp [HX2.out.2]), HX2.out.2⟩) (hd ⟨H34.out.blk HX3.out.1 (by simp [HX3.out.2]), HX3.out.2⟩) (hd ⟨H34.out.blk HX4.out.1 (by simp [HX4.out.2]), HX4.out.2⟩)
    rw [← HLIT.out, hA.out] at z
    try simp only [Act.put, List.setIfInBounds_toArray, List.set_cons_zero, List.set_cons_succ, List.getElem_toArray, List.getElem_cons_succ, List.getElem_cons_zero]
    exact wpAnyH_act (by kernel_rfl) z)
set_option maxHeartbeats 40000000 in
set_option maxRecDepth 100000 in
theorem rows1_123 {T : TypeId} {b deep : Nat} {w0 w1 : World} {bad : Bool} {out : Bytes} {v : Value} {r : Pr.Rw} {O : Array Oper} {Q0 : Exit → Act → World → Prop} {A0 : Act} (C : RowC w0 b w1 r) (hO : Hid (RowO O)) (HPQ : Hid (∀ c a d x w, Q0 (.panic c) (a.put d x) w → Q0 (.panic c) a w)) {M : Nat} {y1 y2 y3 y4 y5 y6 y7 y13 y14 y15 y23 y24 y25 y26 y32 y33 y34 y35 y41 y42 y43 y44 y50 y51 y52 y53 y54 y55 y56 y57 y58 y59 y60 y61 y62 y63 y64 y65 y66 y67 y68 y69 y70 y71 y72 y73 y74 y75 y76 y77 y78 y79 y80 y81 y82 y83 y84 y85 y86 y87 y88 y89 y90 y91 y92 y93 y94 y95 y96 y97 y98 y99 y100 y101 y102 y103 y104 y105 y106 y107 y108 y109 y110 y111 y112 y113 y114 y115 y116 : Value} (hA : Hid (A0 = RowA b M r y1 y2 y3 y4 y5 y6 y7 y13 y14 y15 y23 y24 y25 y26 y32 y33 y34 y35 y41 y42 y43 y44 y50 y51 y52 y53 y54 y55 y56 y57 y58 y59 y60 y61 y62 y63 y64 y65 y66 y67 y68 y69 y70 y71 y72 y73 y74 y75 y76 y77 y78 y79 y80 y81 y82 y83 y84 y85 y86 y87 y88 y89 y90 y91 y92 y93 y94 y95 y96 y97 y98 y99 y100 y101 y102 y103 y104 y105 y106 y107 y108 y109 y110 y111 y112 y113 y114 y115 y116)) (st2_123 : Hid (RowS2_123 T b deep w1 bad out v r O Q0 A0)) (st1_1234 : Hid (RowS1_1234 T b deep w1 bad out v r O Q0 A0)) : Hid (RowS1_123 T b deep w1 bad out v r O Q0 A0) := hd (by
  have HL := C.HL
  have HB0 := C.HB0
  have HQ1 := C.HQ1
  have HRI := C.HRI
  have HRN := C.HRN
  clear C
  unfold RowS1_123
  have hlit := hO.out
  unfold RowO at hlit
  simp only [Tryd.f43, findR, Option.getD, if_true, if_false, Nat.reduceEqDiff] at hlit
  injection hlit with hlit
  have HLIT := hd hlit
  clear hlit hO
  intro w2 d13 d14 X1 X2 X3 a HW2 HC2 HA HX1 HX2 HX3
  rw [← HLIT.out, hA.out]
  unfold RowA
  try simp only [Act.put, List.setIfInBounds_toArray, List.set_cons_zero, List.set_cons_succ, List.getElem_toArray, List.getElem_cons_succ, List.getElem_cons_zero]
  refine wpAnyH_ready (rs := [16, 42]) (by kernel_rfl) (by simp) (AllReadyH.cons rfl (fun K hK => ?_) (AllReadyH.cons rfl (fun K hK => ?_) AllReadyH.nil))
  · go_simp
    refine numbers_r HL HB0 (hd ((HQ1.out.since HC2.out HB0.out))) HW2 [r.x, r.y] 2 ⟨rfl, by decide⟩ (by intro q hq; simp only [List.mem_cons, List.not_mem_nil, or_false] at hq; rcases hq with rfl | rfl; exact HRI.out.1; exact HRI.out.2.1) HX1.out.1 HX1.out.2 (fun w3 h3 h4 => ?_)
    have HW3 := hd h3
    have HC3 : Hid (Chg [b] w1 w3) := hd (HC2.out.trans h4 (fun q hq => .inl hq))
    have H34 := hd h4
    refine hK.out _ _ HC3.out (fun hHeld => ?_)
    clear hK K h3 h4
    try simp only [Act.put, List.setIfInBounds_toArray, List.set_cons_zero, List.set_cons_succ, List.getElem_toArray, List.getElem_cons_succ, List.getElem_cons_zero]
    have gn : (Pr.nums [r.x, r.y]).length ≤ 44 := Pr.nums_len [r.x, r.y] (by intro q hq; simp only [List.mem_cons, List.not_mem_nil, or_false] at hq; rcases hq with rfl | rfl; exact HRI.out.1; exact HRI.out.2.1)
    obtain ⟨nn, hnn⟩ : ∃ nn, nn = Pr.nums [r.x, r.y] := ⟨_, rfl⟩
    rw [← hnn] at gn
    rw [← hnn]
    have HNN := hd hnn
    clear hnn
    have gl := HA.out.2
    have g1 : ¬ 9223372036854775807 < a.length + nn.length := by omega
    refine wpAnyH_take (i := 17) (v := ?vn12317) rfl (by kernel_rfl) (by kernel_rfl) (by kernel_rfl) (fun _ _ _ h => HPQ.out _ _ _ _ _ h) (Or.inl ⟨by kernel_rfl, ?hyn12317⟩) (by assumption) ?rsn12317
    case hyn12317 => (intro w9 hSw; skip; go_simp; try with_reducible rfl)
    try simp only [Act.put, List.setIfInBounds_toArray, List.set_cons_zero, List.set_cons_succ, List.getElem_toArray, List.getElem_cons_succ, List.getElem_cons_zero]
    rw [str2]
    have gz : (⟨(a ++ nn).toArray⟩ : ByteArray).size = a.length + nn.length := by rw [size_of9, List.length_append]
    have g2 : ¬ 9223372036854775807 < a.length + nn.length + 6 := by omega
    refine wpAnyH_take (i := 18) (v := ?vm12318) rfl (by kernel_rfl) (by kernel_rfl) (by kernel_rfl) (fun _ _ _ h => HPQ.out _ _ _ _ _ h) (Or.inl ⟨by kernel_rfl, ?hym12318⟩) (by assumption) ?rsm12318
    case hym12318 => (intro w9 hSw; skip; go_simp; try with_reducible rfl)
    try simp only [Act.put, List.setIfInBounds_toArray, List.set_cons_zero, List.set_cons_succ, List.getElem_toArray, List.getElem_cons_succ, List.getElem_cons_zero]
    rw [show (⟨(a ++ nn).toArray⟩ : ByteArray) ++ ⟨#[32, 115, 101, 97, 116, 115]⟩ = ⟨(a ++ nn ++ Pr.tSeats).toArray⟩ from str2 _ _]
    have z := st2_123.out w3 d13 d14 (.string ⟨a.toArray⟩) (.string ⟨(nn).toArray⟩) (.string ⟨(a ++ nn).toArray⟩) X1 X2 X3 (a ++ nn ++ Pr.tSeats) HW3 HC3 (hd ⟨by rw [HA.out.1, HNN.out], by rw [List.length_append, List.length_append]; show _ + 6 ≤ _; omega⟩) (hd ⟨H34.out.blk HX2.out.1 (by simp [HX2.out.2]), HX2.out.2⟩) (hd ⟨H34.out.blk HX3.out.1 (by simp [HX3.out.2]), HX3.out.2⟩)
    rw [← HLIT.out, hA.out] at z
    try simp only [Act.put, List.setIfInBounds_toArray, List.set_cons_zero, List.set_cons_succ, List.getElem_toArray, List.getElem_cons_succ, List.getElem_cons_zero]
    exact wpAnyH_act (by kernel_rfl) z
  · go_simp
    obtain ⟨w3, hw3⟩ : ∃ W, W = w2.alloc (.cells #[.int .i64 r.step] 3) := ⟨_, rfl⟩
    rw [← hw3]
    obtain ⟨Y, hY⟩ : ∃ X, X = w2.heap.size := ⟨_, rfl⟩
    rw [← hY]
    have HY : Hid (Blk w3 Y [.int .i64 r.step] 3 ∧ Y ≠ b) := hd ⟨by rw [hw3, hY]; exact Blk.new w2 [.int .i64 r.step] _, by have := HW2.out.lt; omega⟩
    have C3 : Hid (Chg [] w2 w3) := hd (by rw [hw3]; exact (Chg.refl _ _).alloc _)
    have HC3 : Hid (Chg [b] w1 w3) := hd (HC2.out.trans C3.out (by simp))
    have HW3 := hd (HW2.out.quiet C3.out)
    refine hK.out _ _ HC3.out (fun hHeld => ?_)
    clear hK K hw3 hY
    have z := st1_1234.out w3 d13 d14 X1 X2 X3 Y a HW3 HC3 HA (hd ⟨C3.out.blk HX1.out.1 (by simp), HX1.out.2⟩) (hd ⟨C3.out.blk HX2.out.1 (by simp), HX2.out.2⟩) (hd ⟨C3.out.blk HX3.out.1 (by simp), HX3.out.2⟩) HY
    rw [← HLIT.out, hA.out] at z
    try simp only [Act.put, List.setIfInBounds_toArray, List.set_cons_zero, List.set_cons_succ, List.getElem_toArray, List.getElem_cons_succ, List.getElem_cons_zero]
    exact wpAnyH_act (by kernel_rfl) z)
set_option maxHeartbeats 40000000 in
set_option maxRecDepth 100000 in
theorem rows1_124 {T : TypeId} {b deep : Nat} {w0 w1 : World} {bad : Bool} {out : Bytes} {v : Value} {r : Pr.Rw} {O : Array Oper} {Q0 : Exit → Act → World → Prop} {A0 : Act} (C : RowC w0 b w1 r) (hO : Hid (RowO O)) (HPQ : Hid (∀ c a d x w, Q0 (.panic c) (a.put d x) w → Q0 (.panic c) a w)) {M : Nat} {y1 y2 y3 y4 y5 y6 y7 y13 y14 y15 y23 y24 y25 y26 y32 y33 y34 y35 y41 y42 y43 y44 y50 y51 y52 y53 y54 y55 y56 y57 y58 y59 y60 y61 y62 y63 y64 y65 y66 y67 y68 y69 y70 y71 y72 y73 y74 y75 y76 y77 y78 y79 y80 y81 y82 y83 y84 y85 y86 y87 y88 y89 y90 y91 y92 y93 y94 y95 y96 y97 y98 y99 y100 y101 y102 y103 y104 y105 y106 y107 y108 y109 y110 y111 y112 y113 y114 y115 y116 : Value} (hA : Hid (A0 = RowA b M r y1 y2 y3 y4 y5 y6 y7 y13 y14 y15 y23 y24 y25 y26 y32 y33 y34 y35 y41 y42 y43 y44 y50 y51 y52 y53 y54 y55 y56 y57 y58 y59 y60 y61 y62 y63 y64 y65 y66 y67 y68 y69 y70 y71 y72 y73 y74 y75 y76 y77 y78 y79 y80 y81 y82 y83 y84 y85 y86 y87 y88 y89 y90 y91 y92 y93 y94 y95 y96 y97 y98 y99 y100 y101 y102 y103 y104 y105 y106 y107 y108 y109 y110 y111 y112 y113 y114 y115 y116)) (st2_124 : Hid (RowS2_124 T b deep w1 bad out v r O Q0 A0)) (st1_1234 : Hid (RowS1_1234 T b deep w1 bad out v r O Q0 A0)) : Hid (RowS1_124 T b deep w1 bad out v r O Q0 A0) := hd (by
  have HL := C.HL
  have HB0 := C.HB0
  have HQ1 := C.HQ1
  have HRI := C.HRI
  have HRN := C.HRN
  clear C
  unfold RowS1_124
  have hlit := hO.out
  unfold RowO at hlit
  simp only [Tryd.f43, findR, Option.getD, if_true, if_false, Nat.reduceEqDiff] at hlit
  injection hlit with hlit
  have HLIT := hd hlit
  clear hlit hO
  intro w2 d13 d14 X1 X2 X4 a HW2 HC2 HA HX1 HX2 HX4
  rw [← HLIT.out, hA.out]
  unfold RowA
  try simp only [Act.put, List.setIfInBounds_toArray, List.set_cons_zero, List.set_cons_succ, List.getElem_toArray, List.getElem_cons_succ, List.getElem_cons_zero]
  refine wpAnyH_ready (rs := [16, 33]) (by kernel_rfl) (by simp) (AllReadyH.cons rfl (fun K hK => ?_) (AllReadyH.cons rfl (fun K hK => ?_) AllReadyH.nil))
  · go_simp
    refine numbers_r HL HB0 (hd ((HQ1.out.since HC2.out HB0.out))) HW2 [r.x, r.y] 2 ⟨rfl, by decide⟩ (by intro q hq; simp only [List.mem_cons, List.not_mem_nil, or_false] at hq; rcases hq with rfl | rfl; exact HRI.out.1; exact HRI.out.2.1) HX1.out.1 HX1.out.2 (fun w3 h3 h4 => ?_)
    have HW3 := hd h3
    have HC3 : Hid (Chg [b] w1 w3) := hd (HC2.out.trans h4 (fun q hq => .inl hq))
    have H34 := hd h4
    refine hK.out _ _ HC3.out (fun hHeld => ?_)
    clear hK K h3 h4
    try simp only [Act.put, List.setIfInBounds_toArray, List.set_cons_zero, List.set_cons_succ, List.getElem_toArray, List.getElem_cons_succ, List.getElem_cons_zero]
    have gn : (Pr.nums [r.x, r.y]).length ≤ 44 := Pr.nums_len [r.x, r.y] (by intro q hq; simp only [List.mem_cons, List.not_mem_nil, or_false] at hq; rcases hq with rfl | rfl; exact HRI.out.1; exact HRI.out.2.1)
    obtain ⟨nn, hnn⟩ : ∃ nn, nn = Pr.nums [r.x, r.y] := ⟨_, rfl⟩
    rw [← hnn] at gn
    rw [← hnn]
    have HNN := hd hnn
    clear hnn
    have gl := HA.out.2
    have g1 : ¬ 9223372036854775807 < a.length + nn.length := by omega
    refine wpAnyH_take (i := 17) (v := ?vn12417) rfl (by kernel_rfl) (by kernel_rfl) (by kernel_rfl) (fun _ _ _ h => HPQ.out _ _ _ _ _ h) (Or.inl ⟨by kernel_rfl, ?hyn12417⟩) (by assumption) ?rsn12417
    case hyn12417 => (intro w9 hSw; skip; go_simp; try with_reducible rfl)
    try simp only [Act.put, List.setIfInBounds_toArray, List.set_cons_zero, List.set_cons_succ, List.getElem_toArray, List.getElem_cons_succ, List.getElem_cons_zero]
    rw [str2]
    have gz : (⟨(a ++ nn).toArray⟩ : ByteArray).size = a.length + nn.length := by rw [size_of9, List.length_append]
    have g2 : ¬ 9223372036854775807 < a.length + nn.length + 6 := by omega
    refine wpAnyH_take (i := 18) (v := ?vm12418) rfl (by kernel_rfl) (by kernel_rfl) (by kernel_rfl) (fun _ _ _ h => HPQ.out _ _ _ _ _ h) (Or.inl ⟨by kernel_rfl, ?hym12418⟩) (by assumption) ?rsm12418
    case hym12418 => (intro w9 hSw; skip; go_simp; try with_reducible rfl)
    try simp only [Act.put, List.setIfInBounds_toArray, List.set_cons_zero, List.set_cons_succ, List.getElem_toArray, List.getElem_cons_succ, List.getElem_cons_zero]
    rw [show (⟨(a ++ nn).toArray⟩ : ByteArray) ++ ⟨#[32, 115, 101, 97, 116, 115]⟩ = ⟨(a ++ nn ++ Pr.tSeats).toArray⟩ from str2 _ _]
    have z := st2_124.out w3 d13 d14 (.string ⟨a.toArray⟩) (.string ⟨(nn).toArray⟩) (.string ⟨(a ++ nn).toArray⟩) X1 X2 X4 (a ++ nn ++ Pr.tSeats) HW3 HC3 (hd ⟨by rw [HA.out.1, HNN.out], by rw [List.length_append, List.length_append]; show _ + 6 ≤ _; omega⟩) (hd ⟨H34.out.blk HX2.out.1 (by simp [HX2.out.2]), HX2.out.2⟩) (hd ⟨H34.out.blk HX4.out.1 (by simp [HX4.out.2]), HX4.out.2⟩)
    rw [← HLIT.out, hA.out] at z
    try simp only [Act.put, List.setIfInBounds_toArray, List.set_cons_zero, List.set_cons_succ, List.getElem_toArray, List.getElem_cons_succ, List.getElem_cons_zero]
    exact wpAnyH_act (by kernel_rfl) z
  · go_simp
    obtain ⟨w3, hw3⟩ : ∃ W, W = w2.alloc (.cells #[.int .i64 r.t] 3) := ⟨_, rfl⟩
    rw [← hw3]
    obtain ⟨Y, hY⟩ : ∃ X, X = w2.heap.size := ⟨_, rfl⟩
    rw [← hY]
    have HY : Hid (Blk w3 Y [.int .i64 r.t] 3 ∧ Y ≠ b) := hd ⟨by rw [hw3, hY]; exact Blk.new w2 [.int .i64 r.t] _, by have := HW2.out.lt; omega⟩
    have C3 : Hid (Chg [] w2 w3) := hd (by rw [hw3]; exact (Chg.refl _ _).alloc _)
    have HC3 : Hid (Chg [b] w1 w3) := hd (HC2.out.trans C3.out (by simp))
    have HW3 := hd (HW2.out.quiet C3.out)
    refine hK.out _ _ HC3.out (fun hHeld => ?_)
    clear hK K hw3 hY
    have z := st1_1234.out w3 d13 d14 X1 X2 Y X4 a HW3 HC3 HA (hd ⟨C3.out.blk HX1.out.1 (by simp), HX1.out.2⟩) (hd ⟨C3.out.blk HX2.out.1 (by simp), HX2.out.2⟩) HY (hd ⟨C3.out.blk HX4.out.1 (by simp), HX4.out.2⟩)
    rw [← HLIT.out, hA.out] at z
    try simp only [Act.put, List.setIfInBounds_toArray, List.set_cons_zero, List.set_cons_succ, List.getElem_toArray, List.getElem_cons_succ, List.getElem_cons_zero]
    exact wpAnyH_act (by kernel_rfl) z)
set_option maxHeartbeats 40000000 in
set_option maxRecDepth 100000 in
theorem rows1_134 {T : TypeId} {b deep : Nat} {w0 w1 : World} {bad : Bool} {out : Bytes} {v : Value} {r : Pr.Rw} {O : Array Oper} {Q0 : Exit → Act → World → Prop} {A0 : Act} (C : RowC w0 b w1 r) (hO : Hid (RowO O)) (HPQ : Hid (∀ c a d x w, Q0 (.panic c) (a.put d x) w → Q0 (.panic c) a w)) {M : Nat} {y1 y2 y3 y4 y5 y6 y7 y13 y14 y15 y23 y24 y25 y26 y32 y33 y34 y35 y41 y42 y43 y44 y50 y51 y52 y53 y54 y55 y56 y57 y58 y59 y60 y61 y62 y63 y64 y65 y66 y67 y68 y69 y70 y71 y72 y73 y74 y75 y76 y77 y78 y79 y80 y81 y82 y83 y84 y85 y86 y87 y88 y89 y90 y91 y92 y93 y94 y95 y96 y97 y98 y99 y100 y101 y102 y103 y104 y105 y106 y107 y108 y109 y110 y111 y112 y113 y114 y115 y116 : Value} (hA : Hid (A0 = RowA b M r y1 y2 y3 y4 y5 y6 y7 y13 y14 y15 y23 y24 y25 y26 y32 y33 y34 y35 y41 y42 y43 y44 y50 y51 y52 y53 y54 y55 y56 y57 y58 y59 y60 y61 y62 y63 y64 y65 y66 y67 y68 y69 y70 y71 y72 y73 y74 y75 y76 y77 y78 y79 y80 y81 y82 y83 y84 y85 y86 y87 y88 y89 y90 y91 y92 y93 y94 y95 y96 y97 y98 y99 y100 y101 y102 y103 y104 y105 y106 y107 y108 y109 y110 y111 y112 y113 y114 y115 y116)) (st2_134 : Hid (RowS2_134 T b deep w1 bad out v r O Q0 A0)) (st1_1234 : Hid (RowS1_1234 T b deep w1 bad out v r O Q0 A0)) : Hid (RowS1_134 T b deep w1 bad out v r O Q0 A0) := hd (by
  have HL := C.HL
  have HB0 := C.HB0
  have HQ1 := C.HQ1
  have HRI := C.HRI
  have HRN := C.HRN
  clear C
  unfold RowS1_134
  have hlit := hO.out
  unfold RowO at hlit
  simp only [Tryd.f43, findR, Option.getD, if_true, if_false, Nat.reduceEqDiff] at hlit
  injection hlit with hlit
  have HLIT := hd hlit
  clear hlit hO
  intro w2 d13 d14 X1 X3 X4 a HW2 HC2 HA HX1 HX3 HX4
  rw [← HLIT.out, hA.out]
  unfold RowA
  try simp only [Act.put, List.setIfInBounds_toArray, List.set_cons_zero, List.set_cons_succ, List.getElem_toArray, List.getElem_cons_succ, List.getElem_cons_zero]
  refine wpAnyH_ready (rs := [16, 24]) (by kernel_rfl) (by simp) (AllReadyH.cons rfl (fun K hK => ?_) (AllReadyH.cons rfl (fun K hK => ?_) AllReadyH.nil))
  · go_simp
    refine numbers_r HL HB0 (hd ((HQ1.out.since HC2.out HB0.out))) HW2 [r.x, r.y] 2 ⟨rfl, by decide⟩ (by intro q hq; simp only [List.mem_cons, List.not_mem_nil, or_false] at hq; rcases hq with rfl | rfl; exact HRI.out.1; exact HRI.out.2.1) HX1.out.1 HX1.out.2 (fun w3 h3 h4 => ?_)
    have HW3 := hd h3
    have HC3 : Hid (Chg [b] w1 w3) := hd (HC2.out.trans h4 (fun q hq => .inl hq))
    have H34 := hd h4
    refine hK.out _ _ HC3.out (fun hHeld => ?_)
    clear hK K h3 h4
    try simp only [Act.put, List.setIfInBounds_toArray, List.set_cons_zero, List.set_cons_succ, List.getElem_toArray, List.getElem_cons_succ, List.getElem_cons_zero]
    have gn : (Pr.nums [r.x, r.y]).length ≤ 44 := Pr.nums_len [r.x, r.y] (by intro q hq; simp only [List.mem_cons, List.not_mem_nil, or_false] at hq; rcases hq with rfl | rfl; exact HRI.out.1; exact HRI.out.2.1)
    obtain ⟨nn, hnn⟩ : ∃ nn, nn = Pr.nums [r.x, r.y] := ⟨_, rfl⟩
    rw [← hnn] at gn
    rw [← hnn]
    have HNN := hd hnn
    clear hnn
    have gl := HA.out.2
    have g1 : ¬ 9223372036854775807 < a.length + nn.length := by omega
    refine wpAnyH_take (i := 17) (v := ?vn13417) rfl (by kernel_rfl) (by kernel_rfl) (by kernel_rfl) (fun _ _ _ h => HPQ.out _ _ _ _ _ h) (Or.inl ⟨by kernel_rfl, ?hyn13417⟩) (by assumption) ?rsn13417
    case hyn13417 => (intro w9 hSw; skip; go_simp; try with_reducible rfl)
    try simp only [Act.put, List.setIfInBounds_toArray, List.set_cons_zero, List.set_cons_succ, List.getElem_toArray, List.getElem_cons_succ, List.getElem_cons_zero]
    rw [str2]
    have gz : (⟨(a ++ nn).toArray⟩ : ByteArray).size = a.length + nn.length := by rw [size_of9, List.length_append]
    have g2 : ¬ 9223372036854775807 < a.length + nn.length + 6 := by omega
    refine wpAnyH_take (i := 18) (v := ?vm13418) rfl (by kernel_rfl) (by kernel_rfl) (by kernel_rfl) (fun _ _ _ h => HPQ.out _ _ _ _ _ h) (Or.inl ⟨by kernel_rfl, ?hym13418⟩) (by assumption) ?rsm13418
    case hym13418 => (intro w9 hSw; skip; go_simp; try with_reducible rfl)
    try simp only [Act.put, List.setIfInBounds_toArray, List.set_cons_zero, List.set_cons_succ, List.getElem_toArray, List.getElem_cons_succ, List.getElem_cons_zero]
    rw [show (⟨(a ++ nn).toArray⟩ : ByteArray) ++ ⟨#[32, 115, 101, 97, 116, 115]⟩ = ⟨(a ++ nn ++ Pr.tSeats).toArray⟩ from str2 _ _]
    have z := st2_134.out w3 d13 d14 (.string ⟨a.toArray⟩) (.string ⟨(nn).toArray⟩) (.string ⟨(a ++ nn).toArray⟩) X1 X3 X4 (a ++ nn ++ Pr.tSeats) HW3 HC3 (hd ⟨by rw [HA.out.1, HNN.out], by rw [List.length_append, List.length_append]; show _ + 6 ≤ _; omega⟩) (hd ⟨H34.out.blk HX3.out.1 (by simp [HX3.out.2]), HX3.out.2⟩) (hd ⟨H34.out.blk HX4.out.1 (by simp [HX4.out.2]), HX4.out.2⟩)
    rw [← HLIT.out, hA.out] at z
    try simp only [Act.put, List.setIfInBounds_toArray, List.set_cons_zero, List.set_cons_succ, List.getElem_toArray, List.getElem_cons_succ, List.getElem_cons_zero]
    exact wpAnyH_act (by kernel_rfl) z
  · go_simp
    obtain ⟨w3, hw3⟩ : ∃ W, W = w2.alloc (.cells #[.int .i64 r.f] 3) := ⟨_, rfl⟩
    rw [← hw3]
    obtain ⟨Y, hY⟩ : ∃ X, X = w2.heap.size := ⟨_, rfl⟩
    rw [← hY]
    have HY : Hid (Blk w3 Y [.int .i64 r.f] 3 ∧ Y ≠ b) := hd ⟨by rw [hw3, hY]; exact Blk.new w2 [.int .i64 r.f] _, by have := HW2.out.lt; omega⟩
    have C3 : Hid (Chg [] w2 w3) := hd (by rw [hw3]; exact (Chg.refl _ _).alloc _)
    have HC3 : Hid (Chg [b] w1 w3) := hd (HC2.out.trans C3.out (by simp))
    have HW3 := hd (HW2.out.quiet C3.out)
    refine hK.out _ _ HC3.out (fun hHeld => ?_)
    clear hK K hw3 hY
    have z := st1_1234.out w3 d13 d14 X1 Y X3 X4 a HW3 HC3 HA (hd ⟨C3.out.blk HX1.out.1 (by simp), HX1.out.2⟩) HY (hd ⟨C3.out.blk HX3.out.1 (by simp), HX3.out.2⟩) (hd ⟨C3.out.blk HX4.out.1 (by simp), HX4.out.2⟩)
    rw [← HLIT.out, hA.out] at z
    try simp only [Act.put, List.setIfInBounds_toArray, List.set_cons_zero, List.set_cons_succ, List.getElem_toArray, List.getElem_cons_succ, List.getElem_cons_zero]
    exact wpAnyH_act (by kernel_rfl) z)
set_option maxHeartbeats 40000000 in
set_option maxRecDepth 100000 in
theorem rows1_234 {T : TypeId} {b deep : Nat} {w0 w1 : World} {bad : Bool} {out : Bytes} {v : Value} {r : Pr.Rw} {O : Array Oper} {Q0 : Exit → Act → World → Prop} {A0 : Act} (C : RowC w0 b w1 r) (hO : Hid (RowO O)) (HPQ : Hid (∀ c a d x w, Q0 (.panic c) (a.put d x) w → Q0 (.panic c) a w)) {M : Nat} {y1 y2 y3 y4 y5 y6 y7 y13 y14 y15 y23 y24 y25 y26 y32 y33 y34 y35 y41 y42 y43 y44 y50 y51 y52 y53 y54 y55 y56 y57 y58 y59 y60 y61 y62 y63 y64 y65 y66 y67 y68 y69 y70 y71 y72 y73 y74 y75 y76 y77 y78 y79 y80 y81 y82 y83 y84 y85 y86 y87 y88 y89 y90 y91 y92 y93 y94 y95 y96 y97 y98 y99 y100 y101 y102 y103 y104 y105 y106 y107 y108 y109 y110 y111 y112 y113 y114 y115 y116 : Value} (hA : Hid (A0 = RowA b M r y1 y2 y3 y4 y5 y6 y7 y13 y14 y15 y23 y24 y25 y26 y32 y33 y34 y35 y41 y42 y43 y44 y50 y51 y52 y53 y54 y55 y56 y57 y58 y59 y60 y61 y62 y63 y64 y65 y66 y67 y68 y69 y70 y71 y72 y73 y74 y75 y76 y77 y78 y79 y80 y81 y82 y83 y84 y85 y86 y87 y88 y89 y90 y91 y92 y93 y94 y95 y96 y97 y98 y99 y100 y101 y102 y103 y104 y105 y106 y107 y108 y109 y110 y111 y112 y113 y114 y115 y116)) (st1_1234 : Hid (RowS1_1234 T b deep w1 bad out v r O Q0 A0)) : Hid (RowS1_234 T b deep w1 bad out v r O Q0 A0) := hd (by
  have HL := C.HL
  have HB0 := C.HB0
  have HQ1 := C.HQ1
  have HRI := C.HRI
  have HRN := C.HRN
  clear C
  unfold RowS1_234
  have hlit := hO.out
  unfold RowO at hlit
  simp only [Tryd.f43, findR, Option.getD, if_true, if_false, Nat.reduceEqDiff] at hlit
  injection hlit with hlit
  have HLIT := hd hlit
  clear hlit hO
  intro w2 d13 d14 X2 X3 X4 a HW2 HC2 HA HX2 HX3 HX4
  rw [← HLIT.out, hA.out]
  unfold RowA
  try simp only [Act.put, List.setIfInBounds_toArray, List.set_cons_zero, List.set_cons_succ, List.getElem_toArray, List.getElem_cons_succ, List.getElem_cons_zero]
  refine wpAnyH_ready (rs := [15]) (by kernel_rfl) (by simp) (AllReadyH.cons rfl (fun K hK => ?_) AllReadyH.nil)
  · go_simp
    obtain ⟨w3, hw3⟩ : ∃ W, W = w2.alloc (.cells #[.int .i64 r.x, .int .i64 r.y] 3) := ⟨_, rfl⟩
    rw [← hw3]
    obtain ⟨Y, hY⟩ : ∃ X, X = w2.heap.size := ⟨_, rfl⟩
    rw [← hY]
    have HY : Hid (Blk w3 Y [.int .i64 r.x, .int .i64 r.y] 3 ∧ Y ≠ b) := hd ⟨by rw [hw3, hY]; exact Blk.new w2 [.int .i64 r.x, .int .i64 r.y] _, by have := HW2.out.lt; omega⟩
    have C3 : Hid (Chg [] w2 w3) := hd (by rw [hw3]; exact (Chg.refl _ _).alloc _)
    have HC3 : Hid (Chg [b] w1 w3) := hd (HC2.out.trans C3.out (by simp))
    have HW3 := hd (HW2.out.quiet C3.out)
    refine hK.out _ _ HC3.out (fun hHeld => ?_)
    clear hK K hw3 hY
    have z := st1_1234.out w3 d13 d14 Y X2 X3 X4 a HW3 HC3 HA HY (hd ⟨C3.out.blk HX2.out.1 (by simp), HX2.out.2⟩) (hd ⟨C3.out.blk HX3.out.1 (by simp), HX3.out.2⟩) (hd ⟨C3.out.blk HX4.out.1 (by simp), HX4.out.2⟩)
    rw [← HLIT.out, hA.out] at z
    try simp only [Act.put, List.setIfInBounds_toArray, List.set_cons_zero, List.set_cons_succ, List.getElem_toArray, List.getElem_cons_succ, List.getElem_cons_zero]
    exact wpAnyH_act (by kernel_rfl) z)
set_option maxHeartbeats 40000000 in
set_option maxRecDepth 100000 in
theorem rows1_12 {T : TypeId} {b deep : Nat} {w0 w1 : World} {bad : Bool} {out : Bytes} {v : Value} {r : Pr.Rw} {O : Array Oper} {Q0 : Exit → Act → World → Prop} {A0 : Act} (C : RowC w0 b w1 r) (hO : Hid (RowO O)) (HPQ : Hid (∀ c a d x w, Q0 (.panic c) (a.put d x) w → Q0 (.panic c) a w)) {M : Nat} {y1 y2 y3 y4 y5 y6 y7 y13 y14 y15 y23 y24 y25 y26 y32 y33 y34 y35 y41 y42 y43 y44 y50 y51 y52 y53 y54 y55 y56 y57 y58 y59 y60 y61 y62 y63 y64 y65 y66 y67 y68 y69 y70 y71 y72 y73 y74 y75 y76 y77 y78 y79 y80 y81 y82 y83 y84 y85 y86 y87 y88 y89 y90 y91 y92 y93 y94 y95 y96 y97 y98 y99 y100 y101 y102 y103 y104 y105 y106 y107 y108 y109 y110 y111 y112 y113 y114 y115 y116 : Value} (hA : Hid (A0 = RowA b M r y1 y2 y3 y4 y5 y6 y7 y13 y14 y15 y23 y24 y25 y26 y32 y33 y34 y35 y41 y42 y43 y44 y50 y51 y52 y53 y54 y55 y56 y57 y58 y59 y60 y61 y62 y63 y64 y65 y66 y67 y68 y69 y70 y71 y72 y73 y74 y75 y76 y77 y78 y79 y80 y81 y82 y83 y84 y85 y86 y87 y88 y89 y90 y91 y92 y93 y94 y95 y96 y97 y98 y99 y100 y101 y102 y103 y104 y105 y106 y107 y108 y109 y110 y111 y112 y113 y114 y115 y116)) (st2_12 : Hid (RowS2_12 T b deep w1 bad out v r O Q0 A0)) (st1_123 : Hid (RowS1_123 T b deep w1 bad out v r O Q0 A0)) (st1_124 : Hid (RowS1_124 T b deep w1 bad out v r O Q0 A0)) : Hid (RowS1_12 T b deep w1 bad out v r O Q0 A0) := hd (by
  have HL := C.HL
  have HB0 := C.HB0
  have HQ1 := C.HQ1
  have HRI := C.HRI
  have HRN := C.HRN
  clear C
  unfold RowS1_12
  have hlit := hO.out
  unfold RowO at hlit
  simp only [Tryd.f43, findR, Option.getD, if_true, if_false, Nat.reduceEqDiff] at hlit
  injection hlit with hlit
  have HLIT := hd hlit
  clear hlit hO
  intro w2 d13 d14 X1 X2 a HW2 HC2 HA HX1 HX2
  rw [← HLIT.out, hA.out]
  unfold RowA
  try simp only [Act.put, List.setIfInBounds_toArray, List.set_cons_zero, List.set_cons_succ, List.getElem_toArray, List.getElem_cons_succ, List.getElem_cons_zero]
  refine wpAnyH_ready (rs := [16, 33, 42]) (by kernel_rfl) (by simp) (AllReadyH.cons rfl (fun K hK => ?_) (AllReadyH.cons rfl (fun K hK => ?_) (AllReadyH.cons rfl (fun K hK => ?_) AllReadyH.nil)))
  · go_simp
    refine numbers_r HL HB0 (hd ((HQ1.out.since HC2.out HB0.out))) HW2 [r.x, r.y] 2 ⟨rfl, by decide⟩ (by intro q hq; simp only [List.mem_cons, List.not_mem_nil, or_false] at hq; rcases hq with rfl | rfl; exact HRI.out.1; exact HRI.out.2.1) HX1.out.1 HX1.out.2 (fun w3 h3 h4 => ?_)
    have HW3 := hd h3
    have HC3 : Hid (Chg [b] w1 w3) := hd (HC2.out.trans h4 (fun q hq => .inl hq))
    have H34 := hd h4
    refine hK.out _ _ HC3.out (fun hHeld => ?_)
    clear hK K h3 h4
    try simp only [Act.put, List.setIfInBounds_toArray, List.set_cons_zero, List.set_cons_succ, List.getElem_toArray, List.getElem_cons_succ, List.getElem_cons_zero]
    have gn : (Pr.nums [r.x, r.y]).length ≤ 44 := Pr.nums_len [r.x, r.y] (by intro q hq; simp only [List.mem_cons, List.not_mem_nil, or_false] at hq; rcases hq with rfl | rfl; exact HRI.out.1; exact HRI.out.2.1)
    obtain ⟨nn, hnn⟩ : ∃ nn, nn = Pr.nums [r.x, r.y] := ⟨_, rfl⟩
    rw [← hnn] at gn
    rw [← hnn]
    have HNN := hd hnn
    clear hnn
    have gl := HA.out.2
    have g1 : ¬ 9223372036854775807 < a.length + nn.length := by omega
    refine wpAnyH_take (i := 17) (v := ?vn1217) rfl (by kernel_rfl) (by kernel_rfl) (by kernel_rfl) (fun _ _ _ h => HPQ.out _ _ _ _ _ h) (Or.inl ⟨by kernel_rfl, ?hyn1217⟩) (by assumption) ?rsn1217
    case hyn1217 => (intro w9 hSw; skip; go_simp; try with_reducible rfl)
    try simp only [Act.put, List.setIfInBounds_toArray, List.set_cons_zero, List.set_cons_succ, List.getElem_toArray, List.getElem_cons_succ, List.getElem_cons_zero]
    rw [str2]
    have gz : (⟨(a ++ nn).toArray⟩ : ByteArray).size = a.length + nn.length := by rw [size_of9, List.length_append]
    have g2 : ¬ 9223372036854775807 < a.length + nn.length + 6 := by omega
    refine wpAnyH_take (i := 18) (v := ?vm1218) rfl (by kernel_rfl) (by kernel_rfl) (by kernel_rfl) (fun _ _ _ h => HPQ.out _ _ _ _ _ h) (Or.inl ⟨by kernel_rfl, ?hym1218⟩) (by assumption) ?rsm1218
    case hym1218 => (intro w9 hSw; skip; go_simp; try with_reducible rfl)
    try simp only [Act.put, List.setIfInBounds_toArray, List.set_cons_zero, List.set_cons_succ, List.getElem_toArray, List.getElem_cons_succ, List.getElem_cons_zero]
    rw [show (⟨(a ++ nn).toArray⟩ : ByteArray) ++ ⟨#[32, 115, 101, 97, 116, 115]⟩ = ⟨(a ++ nn ++ Pr.tSeats).toArray⟩ from str2 _ _]
    have z := st2_12.out w3 d13 d14 (.string ⟨a.toArray⟩) (.string ⟨(nn).toArray⟩) (.string ⟨(a ++ nn).toArray⟩) X1 X2 (a ++ nn ++ Pr.tSeats) HW3 HC3 (hd ⟨by rw [HA.out.1, HNN.out], by rw [List.length_append, List.length_append]; show _ + 6 ≤ _; omega⟩) (hd ⟨H34.out.blk HX2.out.1 (by simp [HX2.out.2]), HX2.out.2⟩)
    rw [← HLIT.out, hA.out] at z
    try simp only [Act.put, List.setIfInBounds_toArray, List.set_cons_zero, List.set_cons_succ, List.getElem_toArray, List.getElem_cons_succ, List.getElem_cons_zero]
    exact wpAnyH_act (by kernel_rfl) z
  · go_simp
    obtain ⟨w3, hw3⟩ : ∃ W, W = w2.alloc (.cells #[.int .i64 r.t] 3) := ⟨_, rfl⟩
    rw [← hw3]
    obtain ⟨Y, hY⟩ : ∃ X, X = w2.heap.size := ⟨_, rfl⟩
    rw [← hY]
    have HY : Hid (Blk w3 Y [.int .i64 r.t] 3 ∧ Y ≠ b) := hd ⟨by rw [hw3, hY]; exact Blk.new w2 [.int .i64 r.t] _, by have := HW2.out.lt; omega⟩
    have C3 : Hid (Chg [] w2 w3) := hd (by rw [hw3]; exact (Chg.refl _ _).alloc _)
    have HC3 : Hid (Chg [b] w1 w3) := hd (HC2.out.trans C3.out (by simp))
    have HW3 := hd (HW2.out.quiet C3.out)
    refine hK.out _ _ HC3.out (fun hHeld => ?_)
    clear hK K hw3 hY
    have z := st1_123.out w3 d13 d14 X1 X2 Y a HW3 HC3 HA (hd ⟨C3.out.blk HX1.out.1 (by simp), HX1.out.2⟩) (hd ⟨C3.out.blk HX2.out.1 (by simp), HX2.out.2⟩) HY
    rw [← HLIT.out, hA.out] at z
    try simp only [Act.put, List.setIfInBounds_toArray, List.set_cons_zero, List.set_cons_succ, List.getElem_toArray, List.getElem_cons_succ, List.getElem_cons_zero]
    exact wpAnyH_act (by kernel_rfl) z
  · go_simp
    obtain ⟨w3, hw3⟩ : ∃ W, W = w2.alloc (.cells #[.int .i64 r.step] 3) := ⟨_, rfl⟩
    rw [← hw3]
    obtain ⟨Y, hY⟩ : ∃ X, X = w2.heap.size := ⟨_, rfl⟩
    rw [← hY]
    have HY : Hid (Blk w3 Y [.int .i64 r.step] 3 ∧ Y ≠ b) := hd ⟨by rw [hw3, hY]; exact Blk.new w2 [.int .i64 r.step] _, by have := HW2.out.lt; omega⟩
    have C3 : Hid (Chg [] w2 w3) := hd (by rw [hw3]; exact (Chg.refl _ _).alloc _)
    have HC3 : Hid (Chg [b] w1 w3) := hd (HC2.out.trans C3.out (by simp))
    have HW3 := hd (HW2.out.quiet C3.out)
    refine hK.out _ _ HC3.out (fun hHeld => ?_)
    clear hK K hw3 hY
    have z := st1_124.out w3 d13 d14 X1 X2 Y a HW3 HC3 HA (hd ⟨C3.out.blk HX1.out.1 (by simp), HX1.out.2⟩) (hd ⟨C3.out.blk HX2.out.1 (by simp), HX2.out.2⟩) HY
    rw [← HLIT.out, hA.out] at z
    try simp only [Act.put, List.setIfInBounds_toArray, List.set_cons_zero, List.set_cons_succ, List.getElem_toArray, List.getElem_cons_succ, List.getElem_cons_zero]
    exact wpAnyH_act (by kernel_rfl) z)
set_option maxHeartbeats 40000000 in
set_option maxRecDepth 100000 in
theorem rows1_13 {T : TypeId} {b deep : Nat} {w0 w1 : World} {bad : Bool} {out : Bytes} {v : Value} {r : Pr.Rw} {O : Array Oper} {Q0 : Exit → Act → World → Prop} {A0 : Act} (C : RowC w0 b w1 r) (hO : Hid (RowO O)) (HPQ : Hid (∀ c a d x w, Q0 (.panic c) (a.put d x) w → Q0 (.panic c) a w)) {M : Nat} {y1 y2 y3 y4 y5 y6 y7 y13 y14 y15 y23 y24 y25 y26 y32 y33 y34 y35 y41 y42 y43 y44 y50 y51 y52 y53 y54 y55 y56 y57 y58 y59 y60 y61 y62 y63 y64 y65 y66 y67 y68 y69 y70 y71 y72 y73 y74 y75 y76 y77 y78 y79 y80 y81 y82 y83 y84 y85 y86 y87 y88 y89 y90 y91 y92 y93 y94 y95 y96 y97 y98 y99 y100 y101 y102 y103 y104 y105 y106 y107 y108 y109 y110 y111 y112 y113 y114 y115 y116 : Value} (hA : Hid (A0 = RowA b M r y1 y2 y3 y4 y5 y6 y7 y13 y14 y15 y23 y24 y25 y26 y32 y33 y34 y35 y41 y42 y43 y44 y50 y51 y52 y53 y54 y55 y56 y57 y58 y59 y60 y61 y62 y63 y64 y65 y66 y67 y68 y69 y70 y71 y72 y73 y74 y75 y76 y77 y78 y79 y80 y81 y82 y83 y84 y85 y86 y87 y88 y89 y90 y91 y92 y93 y94 y95 y96 y97 y98 y99 y100 y101 y102 y103 y104 y105 y106 y107 y108 y109 y110 y111 y112 y113 y114 y115 y116)) (st2_13 : Hid (RowS2_13 T b deep w1 bad out v r O Q0 A0)) (st1_123 : Hid (RowS1_123 T b deep w1 bad out v r O Q0 A0)) (st1_134 : Hid (RowS1_134 T b deep w1 bad out v r O Q0 A0)) : Hid (RowS1_13 T b deep w1 bad out v r O Q0 A0) := hd (by
  have HL := C.HL
  have HB0 := C.HB0
  have HQ1 := C.HQ1
  have HRI := C.HRI
  have HRN := C.HRN
  clear C
  unfold RowS1_13
  have hlit := hO.out
  unfold RowO at hlit
  simp only [Tryd.f43, findR, Option.getD, if_true, if_false, Nat.reduceEqDiff] at hlit
  injection hlit with hlit
  have HLIT := hd hlit
  clear hlit hO
  intro w2 d13 d14 X1 X3 a HW2 HC2 HA HX1 HX3
  rw [← HLIT.out, hA.out]
  unfold RowA
  try simp only [Act.put, List.setIfInBounds_toArray, List.set_cons_zero, List.set_cons_succ, List.getElem_toArray, List.getElem_cons_succ, List.getElem_cons_zero]
  refine wpAnyH_ready (rs := [16, 24, 42]) (by kernel_rfl) (by simp) (AllReadyH.cons rfl (fun K hK => ?_) (AllReadyH.cons rfl (fun K hK => ?_) (AllReadyH.cons rfl (fun K hK => ?_) AllReadyH.nil)))
  · go_simp
    refine numbers_r HL HB0 (hd ((HQ1.out.since HC2.out HB0.out))) HW2 [r.x, r.y] 2 ⟨rfl, by decide⟩ (by intro q hq; simp only [List.mem_cons, List.not_mem_nil, or_false] at hq; rcases hq with rfl | rfl; exact HRI.out.1; exact HRI.out.2.1) HX1.out.1 HX1.out.2 (fun w3 h3 h4 => ?_)
    have HW3 := hd h3
    have HC3 : Hid (Chg [b] w1 w3) := hd (HC2.out.trans h4 (fun q hq => .inl hq))
    have H34 := hd h4
    refine hK.out _ _ HC3.out (fun hHeld => ?_)
    clear hK K h3 h4
    try simp only [Act.put, List.setIfInBounds_toArray, List.set_cons_zero, List.set_cons_succ, List.getElem_toArray, List.getElem_cons_succ, List.getElem_cons_zero]
    have gn : (Pr.nums [r.x, r.y]).length ≤ 44 := Pr.nums_len [r.x, r.y] (by intro q hq; simp only [List.mem_cons, List.not_mem_nil, or_false] at hq; rcases hq with rfl | rfl; exact HRI.out.1; exact HRI.out.2.1)
    obtain ⟨nn, hnn⟩ : ∃ nn, nn = Pr.nums [r.x, r.y] := ⟨_, rfl⟩
    rw [← hnn] at gn
    rw [← hnn]
    have HNN := hd hnn
    clear hnn
    have gl := HA.out.2
    have g1 : ¬ 9223372036854775807 < a.length + nn.length := by omega
    refine wpAnyH_take (i := 17) (v := ?vn1317) rfl (by kernel_rfl) (by kernel_rfl) (by kernel_rfl) (fun _ _ _ h => HPQ.out _ _ _ _ _ h) (Or.inl ⟨by kernel_rfl, ?hyn1317⟩) (by assumption) ?rsn1317
    case hyn1317 => (intro w9 hSw; skip; go_simp; try with_reducible rfl)
    try simp only [Act.put, List.setIfInBounds_toArray, List.set_cons_zero, List.set_cons_succ, List.getElem_toArray, List.getElem_cons_succ, List.getElem_cons_zero]
    rw [str2]
    have gz : (⟨(a ++ nn).toArray⟩ : ByteArray).size = a.length + nn.length := by rw [size_of9, List.length_append]
    have g2 : ¬ 9223372036854775807 < a.length + nn.length + 6 := by omega
    refine wpAnyH_take (i := 18) (v := ?vm1318) rfl (by kernel_rfl) (by kernel_rfl) (by kernel_rfl) (fun _ _ _ h => HPQ.out _ _ _ _ _ h) (Or.inl ⟨by kernel_rfl, ?hym1318⟩) (by assumption) ?rsm1318
    case hym1318 => (intro w9 hSw; skip; go_simp; try with_reducible rfl)
    try simp only [Act.put, List.setIfInBounds_toArray, List.set_cons_zero, List.set_cons_succ, List.getElem_toArray, List.getElem_cons_succ, List.getElem_cons_zero]
    rw [show (⟨(a ++ nn).toArray⟩ : ByteArray) ++ ⟨#[32, 115, 101, 97, 116, 115]⟩ = ⟨(a ++ nn ++ Pr.tSeats).toArray⟩ from str2 _ _]
    have z := st2_13.out w3 d13 d14 (.string ⟨a.toArray⟩) (.string ⟨(nn).toArray⟩) (.string ⟨(a ++ nn).toArray⟩) X1 X3 (a ++ nn ++ Pr.tSeats) HW3 HC3 (hd ⟨by rw [HA.out.1, HNN.out], by rw [List.length_append, List.length_append]; show _ + 6 ≤ _; omega⟩) (hd ⟨H34.out.blk HX3.out.1 (by simp [HX3.out.2]), HX3.out.2⟩)
    rw [← HLIT.out, hA.out] at z
    try simp only [Act.put, List.setIfInBounds_toArray, List.set_cons_zero, List.set_cons_succ, List.getElem_toArray, List.getElem_cons_succ, List.getElem_cons_zero]
    exact wpAnyH_act (by kernel_rfl) z
  · go_simp
    obtain ⟨w3, hw3⟩ : ∃ W, W = w2.alloc (.cells #[.int .i64 r.f] 3) := ⟨_, rfl⟩
    rw [← hw3]
    obtain ⟨Y, hY⟩ : ∃ X, X = w2.heap.size := ⟨_, rfl⟩
    rw [← hY]
    have HY : Hid (Blk w3 Y [.int .i64 r.f] 3 ∧ Y ≠ b) := hd ⟨by rw [hw3, hY]; exact Blk.new w2 [.int .i64 r.f] _, by have := HW2.out.lt; omega⟩
    have C3 : Hid (Chg [] w2 w3) := hd (by rw [hw3]; exact (Chg.refl _ _).alloc _)
    have HC3 : Hid (Chg [b] w1 w3) := hd (HC2.out.trans C3.out (by simp))
    have HW3 := hd (HW2.out.quiet C3.out)
    refine hK.out _ _ HC3.out (fun hHeld => ?_)
    clear hK K hw3 hY
    have z := st1_123.out w3 d13 d14 X1 Y X3 a HW3 HC3 HA (hd ⟨C3.out.blk HX1.out.1 (by simp), HX1.out.2⟩) HY (hd ⟨C3.out.blk HX3.out.1 (by simp), HX3.out.2⟩)
    rw [← HLIT.out, hA.out] at z
    try simp only [Act.put, List.setIfInBounds_toArray, List.set_cons_zero, List.set_cons_succ, List.getElem_toArray, List.getElem_cons_succ, List.getElem_cons_zero]
    exact wpAnyH_act (by kernel_rfl) z
  · go_simp
    obtain ⟨w3, hw3⟩ : ∃ W, W = w2.alloc (.cells #[.int .i64 r.step] 3) := ⟨_, rfl⟩
    rw [← hw3]
    obtain ⟨Y, hY⟩ : ∃ X, X = w2.heap.size := ⟨_, rfl⟩
    rw [← hY]
    have HY : Hid (Blk w3 Y [.int .i64 r.step] 3 ∧ Y ≠ b) := hd ⟨by rw [hw3, hY]; exact Blk.new w2 [.int .i64 r.step] _, by have := HW2.out.lt; omega⟩
    have C3 : Hid (Chg [] w2 w3) := hd (by rw [hw3]; exact (Chg.refl _ _).alloc _)
    have HC3 : Hid (Chg [b] w1 w3) := hd (HC2.out.trans C3.out (by simp))
    have HW3 := hd (HW2.out.quiet C3.out)
    refine hK.out _ _ HC3.out (fun hHeld => ?_)
    clear hK K hw3 hY
    have z := st1_134.out w3 d13 d14 X1 X3 Y a HW3 HC3 HA (hd ⟨C3.out.blk HX1.out.1 (by simp), HX1.out.2⟩) (hd ⟨C3.out.blk HX3.out.1 (by simp), HX3.out.2⟩) HY
    rw [← HLIT.out, hA.out] at z
    try simp only [Act.put, List.setIfInBounds_toArray, List.set_cons_zero, List.set_cons_succ, List.getElem_toArray, List.getElem_cons_succ, List.getElem_cons_zero]
    exact wpAnyH_act (by kernel_rfl) z)
set_option maxHeartbeats 40000000 in
set_option maxRecDepth 100000 in
theorem rows1_14 {T : TypeId} {b deep : Nat} {w0 w1 : World} {bad : Bool} {out : Bytes} {v : Value} {r : Pr.Rw} {O : Array Oper} {Q0 : Exit → Act → World → Prop} {A0 : Act} (C : RowC w0 b w1 r) (hO : Hid (RowO O)) (HPQ : Hid (∀ c a d x w, Q0 (.panic c) (a.put d x) w → Q0 (.panic c) a w)) {M : Nat} {y1 y2 y3 y4 y5 y6 y7 y13 y14 y15 y23 y24 y25 y26 y32 y33 y34 y35 y41 y42 y43 y44 y50 y51 y52 y53 y54 y55 y56 y57 y58 y59 y60 y61 y62 y63 y64 y65 y66 y67 y68 y69 y70 y71 y72 y73 y74 y75 y76 y77 y78 y79 y80 y81 y82 y83 y84 y85 y86 y87 y88 y89 y90 y91 y92 y93 y94 y95 y96 y97 y98 y99 y100 y101 y102 y103 y104 y105 y106 y107 y108 y109 y110 y111 y112 y113 y114 y115 y116 : Value} (hA : Hid (A0 = RowA b M r y1 y2 y3 y4 y5 y6 y7 y13 y14 y15 y23 y24 y25 y26 y32 y33 y34 y35 y41 y42 y43 y44 y50 y51 y52 y53 y54 y55 y56 y57 y58 y59 y60 y61 y62 y63 y64 y65 y66 y67 y68 y69 y70 y71 y72 y73 y74 y75 y76 y77 y78 y79 y80 y81 y82 y83 y84 y85 y86 y87 y88 y89 y90 y91 y92 y93 y94 y95 y96 y97 y98 y99 y100 y101 y102 y103 y104 y105 y106 y107 y108 y109 y110 y111 y112 y113 y114 y115 y116)) (st2_14 : Hid (RowS2_14 T b deep w1 bad out v r O Q0 A0)) (st1_124 : Hid (RowS1_124 T b deep w1 bad out v r O Q0 A0)) (st1_134 : Hid (RowS1_134 T b deep w1 bad out v r O Q0 A0)) : Hid (RowS1_14 T b deep w1 bad out v r O Q0 A0) := hd (by
  have HL := C.HL
  have HB0 := C.HB0
  have HQ1 := C.HQ1
  have HRI := C.HRI
  have HRN := C.HRN
  clear C
  unfold RowS1_14
  have hlit := hO.out
  unfold RowO at hlit
  simp only [Tryd.f43, findR, Option.getD, if_true, if_false, Nat.reduceEqDiff] at hlit
  injection hlit with hlit
  have HLIT := hd hlit
  clear hlit hO
  intro w2 d13 d14 X1 X4 a HW2 HC2 HA HX1 HX4
  rw [← HLIT.out, hA.out]
  unfold RowA
  try simp only [Act.put, List.setIfInBounds_toArray, List.set_cons_zero, List.set_cons_succ, List.getElem_toArray, List.getElem_cons_succ, List.getElem_cons_zero]
  refine wpAnyH_ready (rs := [16, 24, 33]) (by kernel_rfl) (by simp) (AllReadyH.cons rfl (fun K hK => ?_) (AllReadyH.cons rfl (fun K hK => ?_) (AllReadyH.cons rfl (fun K hK => ?_) AllReadyH.nil)))
  · go_simp
    refine numbers_r HL HB0 (hd ((HQ1.out.since HC2.out HB0.out))) HW2 [r.x, r.y] 2 ⟨rfl, by decide⟩ (by intro q hq; simp only [List.mem_cons, List.not_mem_nil, or_false] at hq; rcases hq with rfl | rfl; exact HRI.out.1; exact HRI.out.2.1) HX1.out.1 HX1.out.2 (fun w3 h3 h4 => ?_)
    have HW3 := hd h3
    have HC3 : Hid (Chg [b] w1 w3) := hd (HC2.out.trans h4 (fun q hq => .inl hq))
    have H34 := hd h4
    refine hK.out _ _ HC3.out (fun hHeld => ?_)
    clear hK K h3 h4
    try simp only [Act.put, List.setIfInBounds_toArray, List.set_cons_zero, List.set_cons_succ, List.getElem_toArray, List.getElem_cons_succ, List.getElem_cons_zero]
    have gn : (Pr.nums [r.x, r.y]).length ≤ 44 := Pr.nums_len [r.x, r.y] (by intro q hq; simp only [List.mem_cons, List.not_mem_nil, or_false] at hq; rcases hq with rfl | rfl; exact HRI.out.1; exact HRI.out.2.1)
    obtain ⟨nn, hnn⟩ : ∃ nn, nn = Pr.nums [r.x, r.y] := ⟨_, rfl⟩
    rw [← hnn] at gn
    rw [← hnn]
    have HNN := hd hnn
    clear hnn
    have gl := HA.out.2
    have g1 : ¬ 9223372036854775807 < a.length + nn.length := by omega
    refine wpAnyH_take (i := 17) (v := ?vn1417) rfl (by kernel_rfl) (by kernel_rfl) (by kernel_rfl) (fun _ _ _ h => HPQ.out _ _ _ _ _ h) (Or.inl ⟨by kernel_rfl, ?hyn1417⟩) (by assumption) ?rsn1417
    case hyn1417 => (intro w9 hSw; skip; go_simp; try with_reducible rfl)
    try simp only [Act.put, List.setIfInBounds_toArray, List.set_cons_zero, List.set_cons_succ, List.getElem_toArray, List.getElem_cons_succ, List.getElem_cons_zero]
    rw [str2]
    have gz : (⟨(a ++ nn).toArray⟩ : ByteArray).size = a.length + nn.length := by rw [size_of9, List.length_append]
    have g2 : ¬ 9223372036854775807 < a.length + nn.length + 6 := by omega
    refine wpAnyH_take (i := 18) (v := ?vm1418) rfl (by kernel_rfl) (by kernel_rfl) (by kernel_rfl) (fun _ _ _ h => HPQ.out _ _ _ _ _ h) (Or.inl ⟨by kernel_rfl, ?hym1418⟩) (by assumption) ?rsm1418
    case hym1418 => (intro w9 hSw; skip; go_simp; try with_reducible rfl)
    try simp only [Act.put, List.setIfInBounds_toArray, List.set_cons_zero, List.set_cons_succ, List.getElem_toArray, List.getElem_cons_succ, List.getElem_cons_zero]
    rw [show (⟨(a ++ nn).toArray⟩ : ByteArray) ++ ⟨#[32, 115, 101, 97, 116, 115]⟩ = ⟨(a ++ nn ++ Pr.tSeats).toArray⟩ from str2 _ _]
    have z := st2_14.out w3 d13 d14 (.string ⟨a.toArray⟩) (.string ⟨(nn).toArray⟩) (.string ⟨(a ++ nn).toArray⟩) X1 X4 (a ++ nn ++ Pr.tSeats) HW3 HC3 (hd ⟨by rw [HA.out.1, HNN.out], by rw [List.length_append, List.length_append]; show _ + 6 ≤ _; omega⟩) (hd ⟨H34.out.blk HX4.out.1 (by simp [HX4.out.2]), HX4.out.2⟩)
    rw [← HLIT.out, hA.out] at z
    try simp only [Act.put, List.setIfInBounds_toArray, List.set_cons_zero, List.set_cons_succ, List.getElem_toArray, List.getElem_cons_succ, List.getElem_cons_zero]
    exact wpAnyH_act (by kernel_rfl) z
  · go_simp
    obtain ⟨w3, hw3⟩ : ∃ W, W = w2.alloc (.cells #[.int .i64 r.f] 3) := ⟨_, rfl⟩
    rw [← hw3]
    obtain ⟨Y, hY⟩ : ∃ X, X = w2.heap.size := ⟨_, rfl⟩
    rw [← hY]
    have HY : Hid (Blk w3 Y [.int .i64 r.f] 3 ∧ Y ≠ b) := hd ⟨by rw [hw3, hY]; exact Blk.new w2 [.int .i64 r.f] _, by have := HW2.out.lt; omega⟩
    have C3 : Hid (Chg [] w2 w3) := hd (by rw [hw3]; exact (Chg.refl _ _).alloc _)
    have HC3 : Hid (Chg [b] w1 w3) := hd (HC2.out.trans C3.out (by simp))
    have HW3 := hd (HW2.out.quiet C3.out)
    refine hK.out _ _ HC3.out (fun hHeld => ?_)
    clear hK K hw3 hY
    have z := st1_124.out w3 d13 d14 X1 Y X4 a HW3 HC3 HA (hd ⟨C3.out.blk HX1.out.1 (by simp), HX1.out.2⟩) HY (hd ⟨C3.out.blk HX4.out.1 (by simp), HX4.out.2⟩)
    rw [← HLIT.out, hA.out] at z
    try simp only [Act.put, List.setIfInBounds_toArray, List.set_cons_zero, List.set_cons_succ, List.getElem_toArray, List.getElem_cons_succ, List.getElem_cons_zero]
    exact wpAnyH_act (by kernel_rfl) z
  · go_simp
    obtain ⟨w3, hw3⟩ : ∃ W, W = w2.alloc (.cells #[.int .i64 r.t] 3) := ⟨_, rfl⟩
    rw [← hw3]
    obtain ⟨Y, hY⟩ : ∃ X, X = w2.heap.size := ⟨_, rfl⟩
    rw [← hY]
    have HY : Hid (Blk w3 Y [.int .i64 r.t] 3 ∧ Y ≠ b) := hd ⟨by rw [hw3, hY]; exact Blk.new w2 [.int .i64 r.t] _, by have := HW2.out.lt; omega⟩
    have C3 : Hid (Chg [] w2 w3) := hd (by rw [hw3]; exact (Chg.refl _ _).alloc _)
    have HC3 : Hid (Chg [b] w1 w3) := hd (HC2.out.trans C3.out (by simp))
    have HW3 := hd (HW2.out.quiet C3.out)
    refine hK.out _ _ HC3.out (fun hHeld => ?_)
    clear hK K hw3 hY
    have z := st1_134.out w3 d13 d14 X1 Y X4 a HW3 HC3 HA (hd ⟨C3.out.blk HX1.out.1 (by simp), HX1.out.2⟩) HY (hd ⟨C3.out.blk HX4.out.1 (by simp), HX4.out.2⟩)
    rw [← HLIT.out, hA.out] at z
    try simp only [Act.put, List.setIfInBounds_toArray, List.set_cons_zero, List.set_cons_succ, List.getElem_toArray, List.getElem_cons_succ, List.getElem_cons_zero]
    exact wpAnyH_act (by kernel_rfl) z)
set_option maxHeartbeats 40000000 in
set_option maxRecDepth 100000 in
theorem rows1_23 {T : TypeId} {b deep : Nat} {w0 w1 : World} {bad : Bool} {out : Bytes} {v : Value} {r : Pr.Rw} {O : Array Oper} {Q0 : Exit → Act → World → Prop} {A0 : Act} (C : RowC w0 b w1 r) (hO : Hid (RowO O)) (HPQ : Hid (∀ c a d x w, Q0 (.panic c) (a.put d x) w → Q0 (.panic c) a w)) {M : Nat} {y1 y2 y3 y4 y5 y6 y7 y13 y14 y15 y23 y24 y25 y26 y32 y33 y34 y35 y41 y42 y43 y44 y50 y51 y52 y53 y54 y55 y56 y57 y58 y59 y60 y61 y62 y63 y64 y65 y66 y67 y68 y69 y70 y71 y72 y73 y74 y75 y76 y77 y78 y79 y80 y81 y82 y83 y84 y85 y86 y87 y88 y89 y90 y91 y92 y93 y94 y95 y96 y97 y98 y99 y100 y101 y102 y103 y104 y105 y106 y107 y108 y109 y110 y111 y112 y113 y114 y115 y116 : Value} (hA : Hid (A0 = RowA b M r y1 y2 y3 y4 y5 y6 y7 y13 y14 y15 y23 y24 y25 y26 y32 y33 y34 y35 y41 y42 y43 y44 y50 y51 y52 y53 y54 y55 y56 y57 y58 y59 y60 y61 y62 y63 y64 y65 y66 y67 y68 y69 y70 y71 y72 y73 y74 y75 y76 y77 y78 y79 y80 y81 y82 y83 y84 y85 y86 y87 y88 y89 y90 y91 y92 y93 y94 y95 y96 y97 y98 y99 y100 y101 y102 y103 y104 y105 y106 y107 y108 y109 y110 y111 y112 y113 y114 y115 y116)) (st1_123 : Hid (RowS1_123 T b deep w1 bad out v r O Q0 A0)) (st1_234 : Hid (RowS1_234 T b deep w1 bad out v r O Q0 A0)) : Hid (RowS1_23 T b deep w1 bad out v r O Q0 A0) := hd (by
  have HL := C.HL
  have HB0 := C.HB0
  have HQ1 := C.HQ1
  have HRI := C.HRI
  have HRN := C.HRN
  clear C
  unfold RowS1_23
  have hlit := hO.out
  unfold RowO at hlit
  simp only [Tryd.f43, findR, Option.getD, if_true, if_false, Nat.reduceEqDiff] at hlit
  injection hlit with hlit
  have HLIT := hd hlit
  clear hlit hO
  intro w2 d13 d14 X2 X3 a HW2 HC2 HA HX2 HX3
  rw [← HLIT.out, hA.out]
  unfold RowA
  try simp only [Act.put, List.setIfInBounds_toArray, List.set_cons_zero, List.set_cons_succ, List.getElem_toArray, List.getElem_cons_succ, List.getElem_cons_zero]
  refine wpAnyH_ready (rs := [15, 42]) (by kernel_rfl) (by simp) (AllReadyH.cons rfl (fun K hK => ?_) (AllReadyH.cons rfl (fun K hK => ?_) AllReadyH.nil))
  · go_simp
    obtain ⟨w3, hw3⟩ : ∃ W, W = w2.alloc (.cells #[.int .i64 r.x, .int .i64 r.y] 3) := ⟨_, rfl⟩
    rw [← hw3]
    obtain ⟨Y, hY⟩ : ∃ X, X = w2.heap.size := ⟨_, rfl⟩
    rw [← hY]
    have HY : Hid (Blk w3 Y [.int .i64 r.x, .int .i64 r.y] 3 ∧ Y ≠ b) := hd ⟨by rw [hw3, hY]; exact Blk.new w2 [.int .i64 r.x, .int .i64 r.y] _, by have := HW2.out.lt; omega⟩
    have C3 : Hid (Chg [] w2 w3) := hd (by rw [hw3]; exact (Chg.refl _ _).alloc _)
    have HC3 : Hid (Chg [b] w1 w3) := hd (HC2.out.trans C3.out (by simp))
    have HW3 := hd (HW2.out.quiet C3.out)
    refine hK.out _ _ HC3.out (fun hHeld => ?_)
    clear hK K hw3 hY
    have z := st1_123.out w3 d13 d14 Y X2 X3 a HW3 HC3 HA HY (hd ⟨C3.out.blk HX2.out.1 (by simp), HX2.out.2⟩) (hd ⟨C3.out.blk HX3.out.1 (by simp), HX3.out.2⟩)
    rw [← HLIT.out, hA.out] at z
    try simp only [Act.put, List.setIfInBounds_toArray, List.set_cons_zero, List.set_cons_succ, List.getElem_toArray, List.getElem_cons_succ, List.getElem_cons_zero]
    exact wpAnyH_act (by kernel_rfl) z
  · go_simp
    obtain ⟨w3, hw3⟩ : ∃ W, W = w2.alloc (.cells #[.int .i64 r.step] 3) := ⟨_, rfl⟩
    rw [← hw3]
    obtain ⟨Y, hY⟩ : ∃ X, X = w2.heap.size := ⟨_, rfl⟩
    rw [← hY]
    have HY : Hid (Blk w3 Y [.int .i64 r.step] 3 ∧ Y ≠ b) := hd ⟨by rw [hw3, hY]; exact Blk.new w2 [.int .i64 r.step] _, by have := HW2.out.lt; omega⟩
    have C3 : Hid (Chg [] w2 w3) := hd (by rw [hw3]; exact (Chg.refl _ _).alloc _)
    have HC3 : Hid (Chg [b] w1 w3) := hd (HC2.out.trans C3.out (by simp))
    have HW3 := hd (HW2.out.quiet C3.out)
    refine hK.out _ _ HC3.out (fun hHeld => ?_)
    clear hK K hw3 hY
    have z := st1_234.out w3 d13 d14 X2 X3 Y a HW3 HC3 HA (hd ⟨C3.out.blk HX2.out.1 (by simp), HX2.out.2⟩) (hd ⟨C3.out.blk HX3.out.1 (by simp), HX3.out.2⟩) HY
    rw [← HLIT.out, hA.out] at z
    try simp only [Act.put, List.setIfInBounds_toArray, List.set_cons_zero, List.set_cons_succ, List.getElem_toArray, List.getElem_cons_succ, List.getElem_cons_zero]
    exact wpAnyH_act (by kernel_rfl) z)
set_option maxHeartbeats 40000000 in
set_option maxRecDepth 100000 in
theorem rows1_24 {T : TypeId} {b deep : Nat} {w0 w1 : World} {bad : Bool} {out : Bytes} {v : Value} {r : Pr.Rw} {O : Array Oper} {Q0 : Exit → Act → World → Prop} {A0 : Act} (C : RowC w0 b w1 r) (hO : Hid (RowO O)) (HPQ : Hid (∀ c a d x w, Q0 (.panic c) (a.put d x) w → Q0 (.panic c) a w)) {M : Nat} {y1 y2 y3 y4 y5 y6 y7 y13 y14 y15 y23 y24 y25 y26 y32 y33 y34 y35 y41 y42 y43 y44 y50 y51 y52 y53 y54 y55 y56 y57 y58 y59 y60 y61 y62 y63 y64 y65 y66 y67 y68 y69 y70 y71 y72 y73 y74 y75 y76 y77 y78 y79 y80 y81 y82 y83 y84 y85 y86 y87 y88 y89 y90 y91 y92 y93 y94 y95 y96 y97 y98 y99 y100 y101 y102 y103 y104 y105 y106 y107 y108 y109 y110 y111 y112 y113 y114 y115 y116 : Value} (hA : Hid (A0 = RowA b M r y1 y2 y3 y4 y5 y6 y7 y13 y14 y15 y23 y24 y25 y26 y32 y33 y34 y35 y41 y42 y43 y44 y50 y51 y52 y53 y54 y55 y56 y57 y58 y59 y60 y61 y62 y63 y64 y65 y66 y67 y68 y69 y70 y71 y72 y73 y74 y75 y76 y77 y78 y79 y80 y81 y82 y83 y84 y85 y86 y87 y88 y89 y90 y91 y92 y93 y94 y95 y96 y97 y98 y99 y100 y101 y102 y103 y104 y105 y106 y107 y108 y109 y110 y111 y112 y113 y114 y115 y116)) (st1_124 : Hid (RowS1_124 T b deep w1 bad out v r O Q0 A0)) (st1_234 : Hid (RowS1_234 T b deep w1 bad out v r O Q0 A0)) : Hid (RowS1_24 T b deep w1 bad out v r O Q0 A0) := hd (by
  have HL := C.HL
  have HB0 := C.HB0
  have HQ1 := C.HQ1
  have HRI := C.HRI
  have HRN := C.HRN
  clear C
  unfold RowS1_24
  have hlit := hO.out
  unfold RowO at hlit
  simp only [Tryd.f43, findR, Option.getD, if_true, if_false, Nat.reduceEqDiff] at hlit
  injection hlit with hlit
  have HLIT := hd hlit
  clear hlit hO
  intro w2 d13 d14 X2 X4 a HW2 HC2 HA HX2 HX4
  rw [← HLIT.out, hA.out]
  unfold RowA
  try simp only [Act.put, List.setIfInBounds_toArray, List.set_cons_zero, List.set_cons_succ, List.getElem_toArray, List.getElem_cons_succ, List.getElem_cons_zero]
  refine wpAnyH_ready (rs := [15, 33]) (by kernel_rfl) (by simp) (AllReadyH.cons rfl (fun K hK => ?_) (AllReadyH.cons rfl (fun K hK => ?_) AllReadyH.nil))
  · go_simp
    obtain ⟨w3, hw3⟩ : ∃ W, W = w2.alloc (.cells #[.int .i64 r.x, .int .i64 r.y] 3) := ⟨_, rfl⟩
    rw [← hw3]
    obtain ⟨Y, hY⟩ : ∃ X, X = w2.heap.size := ⟨_, rfl⟩
    rw [← hY]
    have HY : Hid (Blk w3 Y [.int .i64 r.x, .int .i64 r.y] 3 ∧ Y ≠ b) := hd ⟨by rw [hw3, hY]; exact Blk.new w2 [.int .i64 r.x, .int .i64 r.y] _, by have := HW2.out.lt; omega⟩
    have C3 : Hid (Chg [] w2 w3) := hd (by rw [hw3]; exact (Chg.refl _ _).alloc _)
    have HC3 : Hid (Chg [b] w1 w3) := hd (HC2.out.trans C3.out (by simp))
    have HW3 := hd (HW2.out.quiet C3.out)
    refine hK.out _ _ HC3.out (fun hHeld => ?_)
    clear hK K hw3 hY
    have z := st1_124.out w3 d13 d14 Y X2 X4 a HW3 HC3 HA HY (hd ⟨C3.out.blk HX2.out.1 (by simp), HX2.out.2⟩) (hd ⟨C3.out.blk HX4.out.1 (by simp), HX4.out.2⟩)
    rw [← HLIT.out, hA.out] at z
    try simp only [Act.put, List.setIfInBounds_toArray, List.set_cons_zero, List.set_cons_succ, List.getElem_toArray, List.getElem_cons_succ, List.getElem_cons_zero]
    exact wpAnyH_act (by kernel_rfl) z
  · go_simp
    obtain ⟨w3, hw3⟩ : ∃ W, W = w2.alloc (.cells #[.int .i64 r.t] 3) := ⟨_, rfl⟩
    rw [← hw3]
    obtain ⟨Y, hY⟩ : ∃ X, X = w2.heap.size := ⟨_, rfl⟩
    rw [← hY]
    have HY : Hid (Blk w3 Y [.int .i64 r.t] 3 ∧ Y ≠ b) := hd ⟨by rw [hw3, hY]; exact Blk.new w2 [.int .i64 r.t] _, by have := HW2.out.lt; omega⟩
    have C3 : Hid (Chg [] w2 w3) := hd (by rw [hw3]; exact (Chg.refl _ _).alloc _)
    have HC3 : Hid (Chg [b] w1 w3) := hd (HC2.out.trans C3.out (by simp))
    have HW3 := hd (HW2.out.quiet C3.out)
    refine hK.out _ _ HC3.out (fun hHeld => ?_)
    clear hK K hw3 hY
    have z := st1_234.out w3 d13 d14 X2 Y X4 a HW3 HC3 HA (hd ⟨C3.out.blk HX2.out.1 (by simp), HX2.out.2⟩) HY (hd ⟨C3.out.blk HX4.out.1 (by simp), HX4.out.2⟩)
    rw [← HLIT.out, hA.out] at z
    try simp only [Act.put, List.setIfInBounds_toArray, List.set_cons_zero, List.set_cons_succ, List.getElem_toArray, List.getElem_cons_succ, List.getElem_cons_zero]
    exact wpAnyH_act (by kernel_rfl) z)
set_option maxHeartbeats 40000000 in
set_option maxRecDepth 100000 in
theorem rows1_34 {T : TypeId} {b deep : Nat} {w0 w1 : World} {bad : Bool} {out : Bytes} {v : Value} {r : Pr.Rw} {O : Array Oper} {Q0 : Exit → Act → World → Prop} {A0 : Act} (C : RowC w0 b w1 r) (hO : Hid (RowO O)) (HPQ : Hid (∀ c a d x w, Q0 (.panic c) (a.put d x) w → Q0 (.panic c) a w)) {M : Nat} {y1 y2 y3 y4 y5 y6 y7 y13 y14 y15 y23 y24 y25 y26 y32 y33 y34 y35 y41 y42 y43 y44 y50 y51 y52 y53 y54 y55 y56 y57 y58 y59 y60 y61 y62 y63 y64 y65 y66 y67 y68 y69 y70 y71 y72 y73 y74 y75 y76 y77 y78 y79 y80 y81 y82 y83 y84 y85 y86 y87 y88 y89 y90 y91 y92 y93 y94 y95 y96 y97 y98 y99 y100 y101 y102 y103 y104 y105 y106 y107 y108 y109 y110 y111 y112 y113 y114 y115 y116 : Value} (hA : Hid (A0 = RowA b M r y1 y2 y3 y4 y5 y6 y7 y13 y14 y15 y23 y24 y25 y26 y32 y33 y34 y35 y41 y42 y43 y44 y50 y51 y52 y53 y54 y55 y56 y57 y58 y59 y60 y61 y62 y63 y64 y65 y66 y67 y68 y69 y70 y71 y72 y73 y74 y75 y76 y77 y78 y79 y80 y81 y82 y83 y84 y85 y86 y87 y88 y89 y90 y91 y92 y93 y94 y95 y96 y97 y98 y99 y100 y101 y102 y103 y104 y105 y106 y107 y108 y109 y110 y111 y112 y113 y114 y115 y116)) (st1_134 : Hid (RowS1_134 T b deep w1 bad out v r O Q0 A0)) (st1_234 : Hid (RowS1_234 T b deep w1 bad out v r O Q0 A0)) : Hid (RowS1_34 T b deep w1 bad out v r O Q0 A0) := hd (by
  have HL := C.HL
  have HB0 := C.HB0
  have HQ1 := C.HQ1
  have HRI := C.HRI
  have HRN := C.HRN
  clear C
  unfold RowS1_34
  have hlit := hO.out
  unfold RowO at hlit
  simp only [Tryd.f43, findR, Option.getD, if_true, if_false, Nat.reduceEqDiff] at hlit
  injection hlit with hlit
  have HLIT := hd hlit
  clear hlit hO
  intro w2 d13 d14 X3 X4 a HW2 HC2 HA HX3 HX4
  rw [← HLIT.out, hA.out]
  unfold RowA
  try simp only [Act.put, List.setIfInBounds_toArray, List.set_cons_zero, List.set_cons_succ, List.getElem_toArray, List.getElem_cons_succ, List.getElem_cons_zero]
  refine wpAnyH_ready (rs := [15, 24]) (by kernel_rfl) (by simp) (AllReadyH.cons rfl (fun K hK => ?_) (AllReadyH.cons rfl (fun K hK => ?_) AllReadyH.nil))
  · go_simp
    obtain ⟨w3, hw3⟩ : ∃ W, W = w2.alloc (.cells #[.int .i64 r.x, .int .i64 r.y] 3) := ⟨_, rfl⟩
    rw [← hw3]
    obtain ⟨Y, hY⟩ : ∃ X, X = w2.heap.size := ⟨_, rfl⟩
    rw [← hY]
    have HY : Hid (Blk w3 Y [.int .i64 r.x, .int .i64 r.y] 3 ∧ Y ≠ b) := hd ⟨by rw [hw3, hY]; exact Blk.new w2 [.int .i64 r.x, .int .i64 r.y] _, by have := HW2.out.lt; omega⟩
    have C3 : Hid (Chg [] w2 w3) := hd (by rw [hw3]; exact (Chg.refl _ _).alloc _)
    have HC3 : Hid (Chg [b] w1 w3) := hd (HC2.out.trans C3.out (by simp))
    have HW3 := hd (HW2.out.quiet C3.out)
    refine hK.out _ _ HC3.out (fun hHeld => ?_)
    clear hK K hw3 hY
    have z := st1_134.out w3 d13 d14 Y X3 X4 a HW3 HC3 HA HY (hd ⟨C3.out.blk HX3.out.1 (by simp), HX3.out.2⟩) (hd ⟨C3.out.blk HX4.out.1 (by simp), HX4.out.2⟩)
    rw [← HLIT.out, hA.out] at z
    try simp only [Act.put, List.setIfInBounds_toArray, List.set_cons_zero, List.set_cons_succ, List.getElem_toArray, List.getElem_cons_succ, List.getElem_cons_zero]
    exact wpAnyH_act (by kernel_rfl) z
  · go_simp
    obtain ⟨w3, hw3⟩ : ∃ W, W = w2.alloc (.cells #[.int .i64 r.f] 3) := ⟨_, rfl⟩
    rw [← hw3]
    obtain ⟨Y, hY⟩ : ∃ X, X = w2.heap.size := ⟨_, rfl⟩
    rw [← hY]
    have HY : Hid (Blk w3 Y [.int .i64 r.f] 3 ∧ Y ≠ b) := hd ⟨by rw [hw3, hY]; exact Blk.new w2 [.int .i64 r.f] _, by have := HW2.out.lt; omega⟩
    have C3 : Hid (Chg [] w2 w3) := hd (by rw [hw3]; exact (Chg.refl _ _).alloc _)
    have HC3 : Hid (Chg [b] w1 w3) := hd (HC2.out.trans C3.out (by simp))
    have HW3 := hd (HW2.out.quiet C3.out)
    refine hK.out _ _ HC3.out (fun hHeld => ?_)
    clear hK K hw3 hY
    have z := st1_234.out w3 d13 d14 Y X3 X4 a HW3 HC3 HA HY (hd ⟨C3.out.blk HX3.out.1 (by simp), HX3.out.2⟩) (hd ⟨C3.out.blk HX4.out.1 (by simp), HX4.out.2⟩)
    rw [← HLIT.out, hA.out] at z
    try simp only [Act.put, List.setIfInBounds_toArray, List.set_cons_zero, List.set_cons_succ, List.getElem_toArray, List.getElem_cons_succ, List.getElem_cons_zero]
    exact wpAnyH_act (by kernel_rfl) z)
set_option maxHeartbeats 40000000 in
set_option maxRecDepth 100000 in
theorem rows1_1 {T : TypeId} {b deep : Nat} {w0 w1 : World} {bad : Bool} {out : Bytes} {v : Value} {r : Pr.Rw} {O : Array Oper} {Q0 : Exit → Act → World → Prop} {A0 : Act} (C : RowC w0 b w1 r) (hO : Hid (RowO O)) (HPQ : Hid (∀ c a d x w, Q0 (.panic c) (a.put d x) w → Q0 (.panic c) a w)) {M : Nat} {y1 y2 y3 y4 y5 y6 y7 y13 y14 y15 y23 y24 y25 y26 y32 y33 y34 y35 y41 y42 y43 y44 y50 y51 y52 y53 y54 y55 y56 y57 y58 y59 y60 y61 y62 y63 y64 y65 y66 y67 y68 y69 y70 y71 y72 y73 y74 y75 y76 y77 y78 y79 y80 y81 y82 y83 y84 y85 y86 y87 y88 y89 y90 y91 y92 y93 y94 y95 y96 y97 y98 y99 y100 y101 y102 y103 y104 y105 y106 y107 y108 y109 y110 y111 y112 y113 y114 y115 y116 : Value} (hA : Hid (A0 = RowA b M r y1 y2 y3 y4 y5 y6 y7 y13 y14 y15 y23 y24 y25 y26 y32 y33 y34 y35 y41 y42 y43 y44 y50 y51 y52 y53 y54 y55 y56 y57 y58 y59 y60 y61 y62 y63 y64 y65 y66 y67 y68 y69 y70 y71 y72 y73 y74 y75 y76 y77 y78 y79 y80 y81 y82 y83 y84 y85 y86 y87 y88 y89 y90 y91 y92 y93 y94 y95 y96 y97 y98 y99 y100 y101 y102 y103 y104 y105 y106 y107 y108 y109 y110 y111 y112 y113 y114 y115 y116)) (st2_1 : Hid (RowS2_1 T b deep w1 bad out v r O Q0 A0)) (st1_12 : Hid (RowS1_12 T b deep w1 bad out v r O Q0 A0)) (st1_13 : Hid (RowS1_13 T b deep w1 bad out v r O Q0 A0)) (st1_14 : Hid (RowS1_14 T b deep w1 bad out v r O Q0 A0)) : Hid (RowS1_1 T b deep w1 bad out v r O Q0 A0) := hd (by
  have HL := C.HL
  have HB0 := C.HB0
  have HQ1 := C.HQ1
  have HRI := C.HRI
  have HRN := C.HRN
  clear C
  unfold RowS1_1
  have hlit := hO.out
  unfold RowO at hlit
  simp only [Tryd.f43, findR, Option.getD, if_true, if_false, Nat.reduceEqDiff] at hlit
  injection hlit with hlit
  have HLIT := hd hlit
  clear hlit hO
  intro w2 d13 d14 X1 a HW2 HC2 HA HX1
  rw [← HLIT.out, hA.out]
  unfold RowA
  try simp only [Act.put, List.setIfInBounds_toArray, List.set_cons_zero, List.set_cons_succ, List.getElem_toArray, List.getElem_cons_succ, List.getElem_cons_zero]
  refine wpAnyH_ready (rs := [16, 24, 33, 42]) (by kernel_rfl) (by simp) (AllReadyH.cons rfl (fun K hK => ?_) (AllReadyH.cons rfl (fun K hK => ?_) (AllReadyH.cons rfl (fun K hK => ?_) (AllReadyH.cons rfl (fun K hK => ?_) AllReadyH.nil))))
  · go_simp
    refine numbers_r HL HB0 (hd ((HQ1.out.since HC2.out HB0.out))) HW2 [r.x, r.y] 2 ⟨rfl, by decide⟩ (by intro q hq; simp only [List.mem_cons, List.not_mem_nil, or_false] at hq; rcases hq with rfl | rfl; exact HRI.out.1; exact HRI.out.2.1) HX1.out.1 HX1.out.2 (fun w3 h3 h4 => ?_)
    have HW3 := hd h3
    have HC3 : Hid (Chg [b] w1 w3) := hd (HC2.out.trans h4 (fun q hq => .inl hq))
    have H34 := hd h4
    refine hK.out _ _ HC3.out (fun hHeld => ?_)
    clear hK K h3 h4
    try simp only [Act.put, List.setIfInBounds_toArray, List.set_cons_zero, List.set_cons_succ, List.getElem_toArray, List.getElem_cons_succ, List.getElem_cons_zero]
    have gn : (Pr.nums [r.x, r.y]).length ≤ 44 := Pr.nums_len [r.x, r.y] (by intro q hq; simp only [List.mem_cons, List.not_mem_nil, or_false] at hq; rcases hq with rfl | rfl; exact HRI.out.1; exact HRI.out.2.1)
    obtain ⟨nn, hnn⟩ : ∃ nn, nn = Pr.nums [r.x, r.y] := ⟨_, rfl⟩
    rw [← hnn] at gn
    rw [← hnn]
    have HNN := hd hnn
    clear hnn
    have gl := HA.out.2
    have g1 : ¬ 9223372036854775807 < a.length + nn.length := by omega
    refine wpAnyH_take (i := 17) (v := ?vn117) rfl (by kernel_rfl) (by kernel_rfl) (by kernel_rfl) (fun _ _ _ h => HPQ.out _ _ _ _ _ h) (Or.inl ⟨by kernel_rfl, ?hyn117⟩) (by assumption) ?rsn117
    case hyn117 => (intro w9 hSw; skip; go_simp; try with_reducible rfl)
    try simp only [Act.put, List.setIfInBounds_toArray, List.set_cons_zero, List.set_cons_succ, List.getElem_toArray, List.getElem_cons_succ, List.getElem_cons_zero]
    rw [str2]
    have gz : (⟨(a ++ nn).toArray⟩ : ByteArray).size = a.length + nn.length := by rw [size_of9, List.length_append]
    have g2 : ¬ 9223372036854775807 < a.length + nn.length + 6 := by omega
    refine wpAnyH_take (i := 18) (v := ?vm118) rfl (by kernel_rfl) (by kernel_rfl) (by kernel_rfl) (fun _ _ _ h => HPQ.out _ _ _ _ _ h) (Or.inl ⟨by kernel_rfl, ?hym118⟩) (by assumption) ?rsm118
    case hym118 => (intro w9 hSw; skip; go_simp; try with_reducible rfl)
    try simp only [Act.put, List.setIfInBounds_toArray, List.set_cons_zero, List.set_cons_succ, List.getElem_toArray, List.getElem_cons_succ, List.getElem_cons_zero]
    rw [show (⟨(a ++ nn).toArray⟩ : ByteArray) ++ ⟨#[32, 115, 101, 97, 116, 115]⟩ = ⟨(a ++ nn ++ Pr.tSeats).toArray⟩ from str2 _ _]
    have z := st2_1.out w3 d13 d14 (.string ⟨a.toArray⟩) (.string ⟨(nn).toArray⟩) (.string ⟨(a ++ nn).toArray⟩) X1 (a ++ nn ++ Pr.tSeats) HW3 HC3 (hd ⟨by rw [HA.out.1, HNN.out], by rw [List.length_append, List.length_append]; show _ + 6 ≤ _; omega⟩)
    rw [← HLIT.out, hA.out] at z
    try simp only [Act.put, List.setIfInBounds_toArray, List.set_cons_zero, List.set_cons_succ, List.getElem_toArray, List.getElem_cons_succ, List.getElem_cons_zero]
    exact wpAnyH_act (by kernel_rfl) z
  · go_simp
    obtain ⟨w3, hw3⟩ : ∃ W, W = w2.alloc (.cells #[.int .i64 r.f] 3) := ⟨_, rfl⟩
    rw [← hw3]
    obtain ⟨Y, hY⟩ : ∃ X, X = w2.heap.size := ⟨_, rfl⟩
    rw [← hY]
    have HY : Hid (Blk w3 Y [.int .i64 r.f] 3 ∧ Y ≠ b) := hd ⟨by rw [hw3, hY]; exact Blk.new w2 [.int .i64 r.f] _, by have := HW2.out.lt; omega⟩
    have C3 : Hid (Chg [] w2 w3) := hd (by rw [hw3]; exact (Chg.refl _ _).alloc _)
    have HC3 : Hid (Chg [b] w1 w3) := hd (HC2.out.trans C3.out (by simp))
    have HW3 := hd (HW2.out.quiet C3.out)
    refine hK.out _ _ HC3.out (fun hHeld => ?_)
    clear hK K hw3 hY
    have z := st1_12.out w3 d13 d14 X1 Y a HW3 HC3 HA (hd ⟨C3.out.blk HX1.out.1 (by simp), HX1.out.2⟩) HY
    rw [← HLIT.out, hA.out] at z
    try simp only [Act.put, List.setIfInBounds_toArray, List.set_cons_zero, List.set_cons_succ, List.getElem_toArray, List.getElem_cons_succ, List.getElem_cons_zero]
    exact wpAnyH_act (by kernel_rfl) z
  · go_simp
    obtain ⟨w3, hw3⟩ : ∃ W, W = w2.alloc (.cells #[.int .i64 r.t] 3) := ⟨_, rfl⟩
    rw [← hw3]
    obtain ⟨Y, hY⟩ : ∃ X, X = w2.heap.size := ⟨_, rfl⟩
    rw [← hY]
    have HY : Hid (Blk w3 Y [.int .i64 r.t] 3 ∧ Y ≠ b) := hd ⟨by rw [hw3, hY]; exact Blk.new w2 [.int .i64 r.t] _, by have := HW2.out.lt; omega⟩
    have C3 : Hid (Chg [] w2 w3) := hd (by rw [hw3]; exact (Chg.refl _ _).alloc _)
    have HC3 : Hid (Chg [b] w1 w3) := hd (HC2.out.trans C3.out (by simp))
    have HW3 := hd (HW2.out.quiet C3.out)
    refine hK.out _ _ HC3.out (fun hHeld => ?_)
    clear hK K hw3 hY
    have z := st1_13.out w3 d13 d14 X1 Y a HW3 HC3 HA (hd ⟨C3.out.blk HX1.out.1 (by simp), HX1.out.2⟩) HY
    rw [← HLIT.out, hA.out] at z
    try simp only [Act.put, List.setIfInBounds_toArray, List.set_cons_zero, List.set_cons_succ, List.getElem_toArray, List.getElem_cons_succ, List.getElem_cons_zero]
    exact wpAnyH_act (by kernel_rfl) z
  · go_simp
    obtain ⟨w3, hw3⟩ : ∃ W, W = w2.alloc (.cells #[.int .i64 r.step] 3) := ⟨_, rfl⟩
    rw [← hw3]
    obtain ⟨Y, hY⟩ : ∃ X, X = w2.heap.size := ⟨_, rfl⟩
    rw [← hY]
    have HY : Hid (Blk w3 Y [.int .i64 r.step] 3 ∧ Y ≠ b) := hd ⟨by rw [hw3, hY]; exact Blk.new w2 [.int .i64 r.step] _, by have := HW2.out.lt; omega⟩
    have C3 : Hid (Chg [] w2 w3) := hd (by rw [hw3]; exact (Chg.refl _ _).alloc _)
    have HC3 : Hid (Chg [b] w1 w3) := hd (HC2.out.trans C3.out (by simp))
    have HW3 := hd (HW2.out.quiet C3.out)
    refine hK.out _ _ HC3.out (fun hHeld => ?_)
    clear hK K hw3 hY
    have z := st1_14.out w3 d13 d14 X1 Y a HW3 HC3 HA (hd ⟨C3.out.blk HX1.out.1 (by simp), HX1.out.2⟩) HY
    rw [← HLIT.out, hA.out] at z
    try simp only [Act.put, List.setIfInBounds_toArray, List.set_cons_zero, List.set_cons_succ, List.getElem_toArray, List.getElem_cons_succ, List.getElem_cons_zero]
    exact wpAnyH_act (by kernel_rfl) z)
set_option maxHeartbeats 40000000 in
set_option maxRecDepth 100000 in
theorem rows1_2 {T : TypeId} {b deep : Nat} {w0 w1 : World} {bad : Bool} {out : Bytes} {v : Value} {r : Pr.Rw} {O : Array Oper} {Q0 : Exit → Act → World → Prop} {A0 : Act} (C : RowC w0 b w1 r) (hO : Hid (RowO O)) (HPQ : Hid (∀ c a d x w, Q0 (.panic c) (a.put d x) w → Q0 (.panic c) a w)) {M : Nat} {y1 y2 y3 y4 y5 y6 y7 y13 y14 y15 y23 y24 y25 y26 y32 y33 y34 y35 y41 y42 y43 y44 y50 y51 y52 y53 y54 y55 y56 y57 y58 y59 y60 y61 y62 y63 y64 y65 y66 y67 y68 y69 y70 y71 y72 y73 y74 y75 y76 y77 y78 y79 y80 y81 y82 y83 y84 y85 y86 y87 y88 y89 y90 y91 y92 y93 y94 y95 y96 y97 y98 y99 y100 y101 y102 y103 y104 y105 y106 y107 y108 y109 y110 y111 y112 y113 y114 y115 y116 : Value} (hA : Hid (A0 = RowA b M r y1 y2 y3 y4 y5 y6 y7 y13 y14 y15 y23 y24 y25 y26 y32 y33 y34 y35 y41 y42 y43 y44 y50 y51 y52 y53 y54 y55 y56 y57 y58 y59 y60 y61 y62 y63 y64 y65 y66 y67 y68 y69 y70 y71 y72 y73 y74 y75 y76 y77 y78 y79 y80 y81 y82 y83 y84 y85 y86 y87 y88 y89 y90 y91 y92 y93 y94 y95 y96 y97 y98 y99 y100 y101 y102 y103 y104 y105 y106 y107 y108 y109 y110 y111 y112 y113 y114 y115 y116)) (st1_12 : Hid (RowS1_12 T b deep w1 bad out v r O Q0 A0)) (st1_23 : Hid (RowS1_23 T b deep w1 bad out v r O Q0 A0)) (st1_24 : Hid (RowS1_24 T b deep w1 bad out v r O Q0 A0)) : Hid (RowS1_2 T b deep w1 bad out v r O Q0 A0) := hd (by
  have HL := C.HL
  have HB0 := C.HB0
  have HQ1 := C.HQ1
  have HRI := C.HRI
  have HRN := C.HRN
  clear C
  unfold RowS1_2
  have hlit := hO.out
  unfold RowO at hlit
  simp only [Tryd.f43, findR, Option.getD, if_true, if_false, Nat.reduceEqDiff] at hlit
  injection hlit with hlit
  have HLIT := hd hlit
  clear hlit hO
  intro w2 d13 d14 X2 a HW2 HC2 HA HX2
  rw [← HLIT.out, hA.out]
  unfold RowA
  try simp only [Act.put, List.setIfInBounds_toArray, List.set_cons_zero, List.set_cons_succ, List.getElem_toArray, List.getElem_cons_succ, List.getElem_cons_zero]
  refine wpAnyH_ready (rs := [15, 33, 42]) (by kernel_rfl) (by simp) (AllReadyH.cons rfl (fun K hK => ?_) (AllReadyH.cons rfl (fun K hK => ?_) (AllReadyH.cons rfl (fun K hK => ?_) AllReadyH.nil)))
  · go_simp
    obtain ⟨w3, hw3⟩ : ∃ W, W = w2.alloc (.cells #[.int .i64 r.x, .int .i64 r.y] 3) := ⟨_, rfl⟩
    rw [← hw3]
    obtain ⟨Y, hY⟩ : ∃ X, X = w2.heap.size := ⟨_, rfl⟩
    rw [← hY]
    have HY : Hid (Blk w3 Y [.int .i64 r.x, .int .i64 r.y] 3 ∧ Y ≠ b) := hd ⟨by rw [hw3, hY]; exact Blk.new w2 [.int .i64 r.x, .int .i64 r.y] _, by have := HW2.out.lt; omega⟩
    have C3 : Hid (Chg [] w2 w3) := hd (by rw [hw3]; exact (Chg.refl _ _).alloc _)
    have HC3 : Hid (Chg [b] w1 w3) := hd (HC2.out.trans C3.out (by simp))
    have HW3 := hd (HW2.out.quiet C3.out)
    refine hK.out _ _ HC3.out (fun hHeld => ?_)
    clear hK K hw3 hY
    have z := st1_12.out w3 d13 d14 Y X2 a HW3 HC3 HA HY (hd ⟨C3.out.blk HX2.out.1 (by simp), HX2.out.2⟩)
    rw [← HLIT.out, hA.out] at z
    try simp only [Act.put, List.setIfInBounds_toArray, List.set_cons_zero, List.set_cons_succ, List.getElem_toArray, List.getElem_cons_succ, List.getElem_cons_zero]
    exact wpAnyH_act (by kernel_rfl) z
  · go_simp
    obtain ⟨w3, hw3⟩ : ∃ W, W = w2.alloc (.cells #[.int .i64 r.t] 3) := ⟨_, rfl⟩
    rw [← hw3]
    obtain ⟨Y, hY⟩ : ∃ X, X = w2.heap.size := ⟨_, rfl⟩
    rw [← hY]
    have HY : Hid (Blk w3 Y [.int .i64 r.t] 3 ∧ Y ≠ b) := hd ⟨by rw [hw3, hY]; exact Blk.new w2 [.int .i64 r.t] _, by have := HW2.out.lt; omega⟩
    have C3 : Hid (Chg [] w2 w3) := hd (by rw [hw3]; exact (Chg.refl _ _).alloc _)
    have HC3 : Hid (Chg [b] w1 w3) := hd (HC2.out.trans C3.out (by simp))
    have HW3 := hd (HW2.out.quiet C3.out)
    refine hK.out _ _ HC3.out (fun hHeld => ?_)
    clear hK K hw3 hY
    have z := st1_23.out w3 d13 d14 X2 Y a HW3 HC3 HA (hd ⟨C3.out.blk HX2.out.1 (by simp), HX2.out.2⟩) HY
    rw [← HLIT.out, hA.out] at z
    try simp only [Act.put, List.setIfInBounds_toArray, List.set_cons_zero, List.set_cons_succ, List.getElem_toArray, List.getElem_cons_succ, List.getElem_cons_zero]
    exact wpAnyH_act (by kernel_rfl) z
  · go_simp
    obtain ⟨w3, hw3⟩ : ∃ W, W = w2.alloc (.cells #[.int .i64 r.step] 3) := ⟨_, rfl⟩
    rw [← hw3]
    obtain ⟨Y, hY⟩ : ∃ X, X = w2.heap.size := ⟨_, rfl⟩
    rw [← hY]
    have HY : Hid (Blk w3 Y [.int .i64 r.step] 3 ∧ Y ≠ b) := hd ⟨by rw [hw3, hY]; exact Blk.new w2 [.int .i64 r.step] _, by have := HW2.out.lt; omega⟩
    have C3 : Hid (Chg [] w2 w3) := hd (by rw [hw3]; exact (Chg.refl _ _).alloc _)
    have HC3 : Hid (Chg [b] w1 w3) := hd (HC2.out.trans C3.out (by simp))
    have HW3 := hd (HW2.out.quiet C3.out)
    refine hK.out _ _ HC3.out (fun hHeld => ?_)
    clear hK K hw3 hY
    have z := st1_24.out w3 d13 d14 X2 Y a HW3 HC3 HA (hd ⟨C3.out.blk HX2.out.1 (by simp), HX2.out.2⟩) HY
    rw [← HLIT.out, hA.out] at z
    try simp only [Act.put, List.setIfInBounds_toArray, List.set_cons_zero, List.set_cons_succ, List.getElem_toArray, List.getElem_cons_succ, List.getElem_cons_zero]
    exact wpAnyH_act (by kernel_rfl) z)
set_option maxHeartbeats 40000000 in
set_option maxRecDepth 100000 in
theorem rows1_3 {T : TypeId} {b deep : Nat} {w0 w1 : World} {bad : Bool} {out : Bytes} {v : Value} {r : Pr.Rw} {O : Array Oper} {Q0 : Exit → Act → World → Prop} {A0 : Act} (C : RowC w0 b w1 r) (hO : Hid (RowO O)) (HPQ : Hid (∀ c a d x w, Q0 (.panic c) (a.put d x) w → Q0 (.panic c) a w)) {M : Nat} {y1 y2 y3 y4 y5 y6 y7 y13 y14 y15 y23 y24 y25 y26 y32 y33 y34 y35 y41 y42 y43 y44 y50 y51 y52 y53 y54 y55 y56 y57 y58 y59 y60 y61 y62 y63 y64 y65 y66 y67 y68 y69 y70 y71 y72 y73 y74 y75 y76 y77 y78 y79 y80 y81 y82 y83 y84 y85 y86 y87 y88 y89 y90 y91 y92 y93 y94 y95 y96 y97 y98 y99 y100 y101 y102 y103 y104 y105 y106 y107 y108 y109 y110 y111 y112 y113 y114 y115 y116 : Value} (hA : Hid (A0 = RowA b M r y1 y2 y3 y4 y5 y6 y7 y13 y14 y15 y23 y24 y25 y26 y32 y33 y34 y35 y41 y42 y43 y44 y50 y51 y52 y53 y54 y55 y56 y57 y58 y59 y60 y61 y62 y63 y64 y65 y66 y67 y68 y69 y70 y71 y72 y73 y74 y75 y76 y77 y78 y79 y80 y81 y82 y83 y84 y85 y86 y87 y88 y89 y90 y91 y92 y93 y94 y95 y96 y97 y98 y99 y100 y101 y102 y103 y104 y105 y106 y107 y108 y109 y110 y111 y112 y113 y114 y115 y116)) (st1_13 : Hid (RowS1_13 T b deep w1 bad out v r O Q0 A0)) (st1_23 : Hid (RowS1_23 T b deep w1 bad out v r O Q0 A0)) (st1_34 : Hid (RowS1_34 T b deep w1 bad out v r O Q0 A0)) : Hid (RowS1_3 T b deep w1 bad out v r O Q0 A0) := hd (by
  have HL := C.HL
  have HB0 := C.HB0
  have HQ1 := C.HQ1
  have HRI := C.HRI
  have HRN := C.HRN
  clear C
  unfold RowS1_3
  have hlit := hO.out
  unfold RowO at hlit
  simp only [Tryd.f43, findR, Option.getD, if_true, if_false, Nat.reduceEqDiff] at hlit
  injection hlit with hlit
  have HLIT := hd hlit
  clear hlit hO
  intro w2 d13 d14 X3 a HW2 HC2 HA HX3
  rw [← HLIT.out, hA.out]
  unfold RowA
  try simp only [Act.put, List.setIfInBounds_toArray, List.set_cons_zero, List.set_cons_succ, List.getElem_toArray, List.getElem_cons_succ, List.getElem_cons_zero]
  refine wpAnyH_ready (rs := [15, 24, 42]) (by kernel_rfl) (by simp) (AllReadyH.cons rfl (fun K hK => ?_) (AllReadyH.cons rfl (fun K hK => ?_) (AllReadyH.cons rfl (fun K hK => ?_) AllReadyH.nil)))
  · go_simp
    obtain ⟨w3, hw3⟩ : ∃ W, W = w2.alloc (.cells #[.int .i64 r.x, .int .i64 r.y] 3) := ⟨_, rfl⟩
    rw [← hw3]
    obtain ⟨Y, hY⟩ : ∃ X, X = w2.heap.size := ⟨_, rfl⟩
    rw [← hY]
    have HY : Hid (Blk w3 Y [.int .i64 r.x, .int .i64 r.y] 3 ∧ Y ≠ b) := hd ⟨by rw [hw3, hY]; exact Blk.new w2 [.int .i64 r.x, .int .i64 r.y] _, by have := HW2.out.lt; omega⟩
    have C3 : Hid (Chg [] w2 w3) := hd (by rw [hw3]; exact (Chg.refl _ _).alloc _)
    have HC3 : Hid (Chg [b] w1 w3) := hd (HC2.out.trans C3.out (by simp))
    have HW3 := hd (HW2.out.quiet C3.out)
    refine hK.out _ _ HC3.out (fun hHeld => ?_)
    clear hK K hw3 hY
    have z := st1_13.out w3 d13 d14 Y X3 a HW3 HC3 HA HY (hd ⟨C3.out.blk HX3.out.1 (by simp), HX3.out.2⟩)
    rw [← HLIT.out, hA.out] at z
    try simp only [Act.put, List.setIfInBounds_toArray, List.set_cons_zero, List.set_cons_succ, List.getElem_toArray, List.getElem_cons_succ, List.getElem_cons_zero]
    exact wpAnyH_act (by kernel_rfl) z
  · go_simp
    obtain ⟨w3, hw3⟩ : ∃ W, W = w2.alloc (.cells #[.int .i64 r.f] 3) := ⟨_, rfl⟩
    rw [← hw3]
    obtain ⟨Y, hY⟩ : ∃ X, X = w2.heap.size := ⟨_, rfl⟩
    rw [← hY]
    have HY : Hid (Blk w3 Y [.int .i64 r.f] 3 ∧ Y ≠ b) := hd ⟨by rw [hw3, hY]; exact Blk.new w2 [.int .i64 r.f] _, by have := HW2.out.lt; omega⟩
    have C3 : Hid (Chg [] w2 w3) := hd (by rw [hw3]; exact (Chg.refl _ _).alloc _)
    have HC3 : Hid (Chg [b] w1 w3) := hd (HC2.out.trans C3.out (by simp))
    have HW3 := hd (HW2.out.quiet C3.out)
    refine hK.out _ _ HC3.out (fun hHeld => ?_)
    clear hK K hw3 hY
    have z := st1_23.out w3 d13 d14 Y X3 a HW3 HC3 HA HY (hd ⟨C3.out.blk HX3.out.1 (by simp), HX3.out.2⟩)
    rw [← HLIT.out, hA.out] at z
    try simp only [Act.put, List.setIfInBounds_toArray, List.set_cons_zero, List.set_cons_succ, List.getElem_toArray, List.getElem_cons_succ, List.getElem_cons_zero]
    exact wpAnyH_act (by kernel_rfl) z
  · go_simp
    obtain ⟨w3, hw3⟩ : ∃ W, W = w2.alloc (.cells #[.int .i64 r.step] 3) := ⟨_, rfl⟩
    rw [← hw3]
    obtain ⟨Y, hY⟩ : ∃ X, X = w2.heap.size := ⟨_, rfl⟩
    rw [← hY]
    have HY : Hid (Blk w3 Y [.int .i64 r.step] 3 ∧ Y ≠ b) := hd ⟨by rw [hw3, hY]; exact Blk.new w2 [.int .i64 r.step] _, by have := HW2.out.lt; omega⟩
    have C3 : Hid (Chg [] w2 w3) := hd (by rw [hw3]; exact (Chg.refl _ _).alloc _)
    have HC3 : Hid (Chg [b] w1 w3) := hd (HC2.out.trans C3.out (by simp))
    have HW3 := hd (HW2.out.quiet C3.out)
    refine hK.out _ _ HC3.out (fun hHeld => ?_)
    clear hK K hw3 hY
    have z := st1_34.out w3 d13 d14 X3 Y a HW3 HC3 HA (hd ⟨C3.out.blk HX3.out.1 (by simp), HX3.out.2⟩) HY
    rw [← HLIT.out, hA.out] at z
    try simp only [Act.put, List.setIfInBounds_toArray, List.set_cons_zero, List.set_cons_succ, List.getElem_toArray, List.getElem_cons_succ, List.getElem_cons_zero]
    exact wpAnyH_act (by kernel_rfl) z)
set_option maxHeartbeats 40000000 in
set_option maxRecDepth 100000 in
theorem rows1_4 {T : TypeId} {b deep : Nat} {w0 w1 : World} {bad : Bool} {out : Bytes} {v : Value} {r : Pr.Rw} {O : Array Oper} {Q0 : Exit → Act → World → Prop} {A0 : Act} (C : RowC w0 b w1 r) (hO : Hid (RowO O)) (HPQ : Hid (∀ c a d x w, Q0 (.panic c) (a.put d x) w → Q0 (.panic c) a w)) {M : Nat} {y1 y2 y3 y4 y5 y6 y7 y13 y14 y15 y23 y24 y25 y26 y32 y33 y34 y35 y41 y42 y43 y44 y50 y51 y52 y53 y54 y55 y56 y57 y58 y59 y60 y61 y62 y63 y64 y65 y66 y67 y68 y69 y70 y71 y72 y73 y74 y75 y76 y77 y78 y79 y80 y81 y82 y83 y84 y85 y86 y87 y88 y89 y90 y91 y92 y93 y94 y95 y96 y97 y98 y99 y100 y101 y102 y103 y104 y105 y106 y107 y108 y109 y110 y111 y112 y113 y114 y115 y116 : Value} (hA : Hid (A0 = RowA b M r y1 y2 y3 y4 y5 y6 y7 y13 y14 y15 y23 y24 y25 y26 y32 y33 y34 y35 y41 y42 y43 y44 y50 y51 y52 y53 y54 y55 y56 y57 y58 y59 y60 y61 y62 y63 y64 y65 y66 y67 y68 y69 y70 y71 y72 y73 y74 y75 y76 y77 y78 y79 y80 y81 y82 y83 y84 y85 y86 y87 y88 y89 y90 y91 y92 y93 y94 y95 y96 y97 y98 y99 y100 y101 y102 y103 y104 y105 y106 y107 y108 y109 y110 y111 y112 y113 y114 y115 y116)) (st1_14 : Hid (RowS1_14 T b deep w1 bad out v r O Q0 A0)) (st1_24 : Hid (RowS1_24 T b deep w1 bad out v r O Q0 A0)) (st1_34 : Hid (RowS1_34 T b deep w1 bad out v r O Q0 A0)) : Hid (RowS1_4 T b deep w1 bad out v r O Q0 A0) := hd (by
  have HL := C.HL
  have HB0 := C.HB0
  have HQ1 := C.HQ1
  have HRI := C.HRI
  have HRN := C.HRN
  clear C
  unfold RowS1_4
  have hlit := hO.out
  unfold RowO at hlit
  simp only [Tryd.f43, findR, Option.getD, if_true, if_false, Nat.reduceEqDiff] at hlit
  injection hlit with hlit
  have HLIT := hd hlit
  clear hlit hO
  intro w2 d13 d14 X4 a HW2 HC2 HA HX4
  rw [← HLIT.out, hA.out]
  unfold RowA
  try simp only [Act.put, List.setIfInBounds_toArray, List.set_cons_zero, List.set_cons_succ, List.getElem_toArray, List.getElem_cons_succ, List.getElem_cons_zero]
  refine wpAnyH_ready (rs := [15, 24, 33]) (by kernel_rfl) (by simp) (AllReadyH.cons rfl (fun K hK => ?_) (AllReadyH.cons rfl (fun K hK => ?_) (AllReadyH.cons rfl (fun K hK => ?_) AllReadyH.nil)))
  · go_simp
    obtain ⟨w3, hw3⟩ : ∃ W, W = w2.alloc (.cells #[.int .i64 r.x, .int .i64 r.y] 3) := ⟨_, rfl⟩
    rw [← hw3]
    obtain ⟨Y, hY⟩ : ∃ X, X = w2.heap.size := ⟨_, rfl⟩
    rw [← hY]
    have HY : Hid (Blk w3 Y [.int .i64 r.x, .int .i64 r.y] 3 ∧ Y ≠ b) := hd ⟨by rw [hw3, hY]; exact Blk.new w2 [.int .i64 r.x, .int .i64 r.y] _, by have := HW2.out.lt; omega⟩
    have C3 : Hid (Chg [] w2 w3) := hd (by rw [hw3]; exact (Chg.refl _ _).alloc _)
    have HC3 : Hid (Chg [b] w1 w3) := hd (HC2.out.trans C3.out (by simp))
    have HW3 := hd (HW2.out.quiet C3.out)
    refine hK.out _ _ HC3.out (fun hHeld => ?_)
    clear hK K hw3 hY
    have z := st1_14.out w3 d13 d14 Y X4 a HW3 HC3 HA HY (hd ⟨C3.out.blk HX4.out.1 (by simp), HX4.out.2⟩)
    rw [← HLIT.out, hA.out] at z
    try simp only [Act.put, List.setIfInBounds_toArray, List.set_cons_zero, List.set_cons_succ, List.getElem_toArray, List.getElem_cons_succ, List.getElem_cons_zero]
    exact wpAnyH_act (by kernel_rfl) z
  · go_simp
    obtain ⟨w3, hw3⟩ : ∃ W, W = w2.alloc (.cells #[.int .i64 r.f] 3) := ⟨_, rfl⟩
    rw [← hw3]
    obtain ⟨Y, hY⟩ : ∃ X, X = w2.heap.size := ⟨_, rfl⟩
    rw [← hY]
    have HY : Hid (Blk w3 Y [.int .i64 r.f] 3 ∧ Y ≠ b) := hd ⟨by rw [hw3, hY]; exact Blk.new w2 [.int .i64 r.f] _, by have := HW2.out.lt; omega⟩
    have C3 : Hid (Chg [] w2 w3) := hd (by rw [hw3]; exact (Chg.refl _ _).alloc _)
    have HC3 : Hid (Chg [b] w1 w3) := hd (HC2.out.trans C3.out (by simp))
    have HW3 := hd (HW2.out.quiet C3.out)
    refine hK.out _ _ HC3.out (fun hHeld => ?_)
    clear hK K hw3 hY
    have z := st1_24.out w3 d13 d14 Y X4 a HW3 HC3 HA HY (hd ⟨C3.out.blk HX4.out.1 (by simp), HX4.out.2⟩)
    rw [← HLIT.out, hA.out] at z
    try simp only [Act.put, List.setIfInBounds_toArray, List.set_cons_zero, List.set_cons_succ, List.getElem_toArray, List.getElem_cons_succ, List.getElem_cons_zero]
    exact wpAnyH_act (by kernel_rfl) z
  · go_simp
    obtain ⟨w3, hw3⟩ : ∃ W, W = w2.alloc (.cells #[.int .i64 r.t] 3) := ⟨_, rfl⟩
    rw [← hw3]
    obtain ⟨Y, hY⟩ : ∃ X, X = w2.heap.size := ⟨_, rfl⟩
    rw [← hY]
    have HY : Hid (Blk w3 Y [.int .i64 r.t] 3 ∧ Y ≠ b) := hd ⟨by rw [hw3, hY]; exact Blk.new w2 [.int .i64 r.t] _, by have := HW2.out.lt; omega⟩
    have C3 : Hid (Chg [] w2 w3) := hd (by rw [hw3]; exact (Chg.refl _ _).alloc _)
    have HC3 : Hid (Chg [b] w1 w3) := hd (HC2.out.trans C3.out (by simp))
    have HW3 := hd (HW2.out.quiet C3.out)
    refine hK.out _ _ HC3.out (fun hHeld => ?_)
    clear hK K hw3 hY
    have z := st1_34.out w3 d13 d14 Y X4 a HW3 HC3 HA HY (hd ⟨C3.out.blk HX4.out.1 (by simp), HX4.out.2⟩)
    rw [← HLIT.out, hA.out] at z
    try simp only [Act.put, List.setIfInBounds_toArray, List.set_cons_zero, List.set_cons_succ, List.getElem_toArray, List.getElem_cons_succ, List.getElem_cons_zero]
    exact wpAnyH_act (by kernel_rfl) z)
set_option maxHeartbeats 40000000 in
set_option maxRecDepth 100000 in
theorem rows1_ {T : TypeId} {b deep : Nat} {w0 w1 : World} {bad : Bool} {out : Bytes} {v : Value} {r : Pr.Rw} {O : Array Oper} {Q0 : Exit → Act → World → Prop} {A0 : Act} (C : RowC w0 b w1 r) (hO : Hid (RowO O)) (HPQ : Hid (∀ c a d x w, Q0 (.panic c) (a.put d x) w → Q0 (.panic c) a w)) {M : Nat} {y1 y2 y3 y4 y5 y6 y7 y13 y14 y15 y23 y24 y25 y26 y32 y33 y34 y35 y41 y42 y43 y44 y50 y51 y52 y53 y54 y55 y56 y57 y58 y59 y60 y61 y62 y63 y64 y65 y66 y67 y68 y69 y70 y71 y72 y73 y74 y75 y76 y77 y78 y79 y80 y81 y82 y83 y84 y85 y86 y87 y88 y89 y90 y91 y92 y93 y94 y95 y96 y97 y98 y99 y100 y101 y102 y103 y104 y105 y106 y107 y108 y109 y110 y111 y112 y113 y114 y115 y116 : Value} (hA : Hid (A0 = RowA b M r y1 y2 y3 y4 y5 y6 y7 y13 y14 y15 y23 y24 y25 y26 y32 y33 y34 y35 y41 y42 y43 y44 y50 y51 y52 y53 y54 y55 y56 y57 y58 y59 y60 y61 y62 y63 y64 y65 y66 y67 y68 y69 y70 y71 y72 y73 y74 y75 y76 y77 y78 y79 y80 y81 y82 y83 y84 y85 y86 y87 y88 y89 y90 y91 y92 y93 y94 y95 y96 y97 y98 y99 y100 y101 y102 y103 y104 y105 y106 y107 y108 y109 y110 y111 y112 y113 y114 y115 y116)) (st1_1 : Hid (RowS1_1 T b deep w1 bad out v r O Q0 A0)) (st1_2 : Hid (RowS1_2 T b deep w1 bad out v r O Q0 A0)) (st1_3 : Hid (RowS1_3 T b deep w1 bad out v r O Q0 A0)) (st1_4 : Hid (RowS1_4 T b deep w1 bad out v r O Q0 A0)) : Hid (RowS1_ T b deep w1 bad out v r O Q0 A0) := hd (by
  have HL := C.HL
  have HB0 := C.HB0
  have HQ1 := C.HQ1
  have HRI := C.HRI
  have HRN := C.HRN
  clear C
  unfold RowS1_
  have hlit := hO.out
  unfold RowO at hlit
  simp only [Tryd.f43, findR, Option.getD, if_true, if_false, Nat.reduceEqDiff] at hlit
  injection hlit with hlit
  have HLIT := hd hlit
  clear hlit hO
  intro w2 d13 d14 a HW2 HC2 HA
  rw [← HLIT.out, hA.out]
  unfold RowA
  try simp only [Act.put, List.setIfInBounds_toArray, List.set_cons_zero, List.set_cons_succ, List.getElem_toArray, List.getElem_cons_succ, List.getElem_cons_zero]
  refine wpAnyH_ready (rs := [15, 24, 33, 42]) (by kernel_rfl) (by simp) (AllReadyH.cons rfl (fun K hK => ?_) (AllReadyH.cons rfl (fun K hK => ?_) (AllReadyH.cons rfl (fun K hK => ?_) (AllReadyH.cons rfl (fun K hK => ?_) AllReadyH.nil))))
  · go_simp
    obtain ⟨w3, hw3⟩ : ∃ W, W = w2.alloc (.cells #[.int .i64 r.x, .int .i64 r.y] 3) := ⟨_, rfl⟩
    rw [← hw3]
    obtain ⟨Y, hY⟩ : ∃ X, X = w2.heap.size := ⟨_, rfl⟩
    rw [← hY]
    have HY : Hid (Blk w3 Y [.int .i64 r.x, .int .i64 r.y] 3 ∧ Y ≠ b) := hd ⟨by rw [hw3, hY]; exact Blk.new w2 [.int .i64 r.x, .int .i64 r.y] _, by have := HW2.out.lt; omega⟩
    have C3 : Hid (Chg [] w2 w3) := hd (by rw [hw3]; exact (Chg.refl _ _).alloc _)
    have HC3 : Hid (Chg [b] w1 w3) := hd (HC2.out.trans C3.out (by simp))
    have HW3 := hd (HW2.out.quiet C3.out)
    refine hK.out _ _ HC3.out (fun hHeld => ?_)
    clear hK K hw3 hY
    have z := st1_1.out w3 d13 d14 Y a HW3 HC3 HA HY
    rw [← HLIT.out, hA.out] at z
    try simp only [Act.put, List.setIfInBounds_toArray, List.set_cons_zero, List.set_cons_succ, List.getElem_toArray, List.getElem_cons_succ, List.getElem_cons_zero]
    exact wpAnyH_act (by kernel_rfl) z
  · go_simp
    obtain ⟨w3, hw3⟩ : ∃ W, W = w2.alloc (.cells #[.int .i64 r.f] 3) := ⟨_, rfl⟩
    rw [← hw3]
    obtain ⟨Y, hY⟩ : ∃ X, X = w2.heap.size := ⟨_, rfl⟩
    rw [← hY]
    have HY : Hid (Blk w3 Y [.int .i64 r.f] 3 ∧ Y ≠ b) := hd ⟨by rw [hw3, hY]; exact Blk.new w2 [.int .i64 r.f] _, by have := HW2.out.lt; omega⟩
    have C3 : Hid (Chg [] w2 w3) := hd (by rw [hw3]; exact (Chg.refl _ _).alloc _)
    have HC3 : Hid (Chg [b] w1 w3) := hd (HC2.out.trans C3.out (by simp))
    have HW3 := hd (HW2.out.quiet C3.out)
    refine hK.out _ _ HC3.out (fun hHeld => ?_)
    clear hK K hw3 hY
    have z := st1_2.out w3 d13 d14 Y a HW3 HC3 HA HY
    rw [← HLIT.out, hA.out] at z
    try simp only [Act.put, List.setIfInBounds_toArray, List.set_cons_zero, List.set_cons_succ, List.getElem_toArray, List.getElem_cons_succ, List.getElem_cons_zero]
    exact wpAnyH_act (by kernel_rfl) z
  · go_simp
    obtain ⟨w3, hw3⟩ : ∃ W, W = w2.alloc (.cells #[.int .i64 r.t] 3) := ⟨_, rfl⟩
    rw [← hw3]
    obtain ⟨Y, hY⟩ : ∃ X, X = w2.heap.size := ⟨_, rfl⟩
    rw [← hY]
    have HY : Hid (Blk w3 Y [.int .i64 r.t] 3 ∧ Y ≠ b) := hd ⟨by rw [hw3, hY]; exact Blk.new w2 [.int .i64 r.t] _, by have := HW2.out.lt; omega⟩
    have C3 : Hid (Chg [] w2 w3) := hd (by rw [hw3]; exact (Chg.refl _ _).alloc _)
    have HC3 : Hid (Chg [b] w1 w3) := hd (HC2.out.trans C3.out (by simp))
    have HW3 := hd (HW2.out.quiet C3.out)
    refine hK.out _ _ HC3.out (fun hHeld => ?_)
    clear hK K hw3 hY
    have z := st1_3.out w3 d13 d14 Y a HW3 HC3 HA HY
    rw [← HLIT.out, hA.out] at z
    try simp only [Act.put, List.setIfInBounds_toArray, List.set_cons_zero, List.set_cons_succ, List.getElem_toArray, List.getElem_cons_succ, List.getElem_cons_zero]
    exact wpAnyH_act (by kernel_rfl) z
  · go_simp
    obtain ⟨w3, hw3⟩ : ∃ W, W = w2.alloc (.cells #[.int .i64 r.step] 3) := ⟨_, rfl⟩
    rw [← hw3]
    obtain ⟨Y, hY⟩ : ∃ X, X = w2.heap.size := ⟨_, rfl⟩
    rw [← hY]
    have HY : Hid (Blk w3 Y [.int .i64 r.step] 3 ∧ Y ≠ b) := hd ⟨by rw [hw3, hY]; exact Blk.new w2 [.int .i64 r.step] _, by have := HW2.out.lt; omega⟩
    have C3 : Hid (Chg [] w2 w3) := hd (by rw [hw3]; exact (Chg.refl _ _).alloc _)
    have HC3 : Hid (Chg [b] w1 w3) := hd (HC2.out.trans C3.out (by simp))
    have HW3 := hd (HW2.out.quiet C3.out)
    refine hK.out _ _ HC3.out (fun hHeld => ?_)
    clear hK K hw3 hY
    have z := st1_4.out w3 d13 d14 Y a HW3 HC3 HA HY
    rw [← HLIT.out, hA.out] at z
    try simp only [Act.put, List.setIfInBounds_toArray, List.set_cons_zero, List.set_cons_succ, List.getElem_toArray, List.getElem_cons_succ, List.getElem_cons_zero]
    exact wpAnyH_act (by kernel_rfl) z)
set_option maxHeartbeats 40000000 in
set_option maxRecDepth 100000 in
theorem rows0_1234 {T : TypeId} {b deep : Nat} {w0 w1 : World} {bad : Bool} {out : Bytes} {v : Value} {r : Pr.Rw} {O : Array Oper} {Q0 : Exit → Act → World → Prop} {A0 : Act} (C : RowC w0 b w1 r) (hO : Hid (RowO O)) (HPQ : Hid (∀ c a d x w, Q0 (.panic c) (a.put d x) w → Q0 (.panic c) a w)) {M : Nat} {y1 y2 y3 y4 y5 y6 y7 y13 y14 y15 y23 y24 y25 y26 y32 y33 y34 y35 y41 y42 y43 y44 y50 y51 y52 y53 y54 y55 y56 y57 y58 y59 y60 y61 y62 y63 y64 y65 y66 y67 y68 y69 y70 y71 y72 y73 y74 y75 y76 y77 y78 y79 y80 y81 y82 y83 y84 y85 y86 y87 y88 y89 y90 y91 y92 y93 y94 y95 y96 y97 y98 y99 y100 y101 y102 y103 y104 y105 y106 y107 y108 y109 y110 y111 y112 y113 y114 y115 y116 : Value} (hA : Hid (A0 = RowA b M r y1 y2 y3 y4 y5 y6 y7 y13 y14 y15 y23 y24 y25 y26 y32 y33 y34 y35 y41 y42 y43 y44 y50 y51 y52 y53 y54 y55 y56 y57 y58 y59 y60 y61 y62 y63 y64 y65 y66 y67 y68 y69 y70 y71 y72 y73 y74 y75 y76 y77 y78 y79 y80 y81 y82 y83 y84 y85 y86 y87 y88 y89 y90 y91 y92 y93 y94 y95 y96 y97 y98 y99 y100 y101 y102 y103 y104 y105 y106 y107 y108 y109 y110 y111 y112 y113 y114 y115 y116)) (st1_1234 : Hid (RowS1_1234 T b deep w1 bad out v r O Q0 A0)) : Hid (RowS0_1234 T b deep w1 bad out v r O Q0 A0) := hd (by
  have HL := C.HL
  have HB0 := C.HB0
  have HQ1 := C.HQ1
  have HRI := C.HRI
  have HRN := C.HRN
  clear C
  unfold RowS0_1234
  have hlit := hO.out
  unfold RowO at hlit
  simp only [Tryd.f43, findR, Option.getD, if_true, if_false, Nat.reduceEqDiff] at hlit
  injection hlit with hlit
  have HLIT := hd hlit
  clear hlit hO
  intro w2 X1 X2 X3 X4 HW2 HC2 HX1 HX2 HX3 HX4
  rw [← HLIT.out, hA.out]
  unfold RowA
  try simp only [Act.put, List.setIfInBounds_toArray, List.set_cons_zero, List.set_cons_succ, List.getElem_toArray, List.getElem_cons_succ, List.getElem_cons_zero]
  refine wpAnyH_ready (rs := [5]) (by kernel_rfl) (by simp) (AllReadyH.cons rfl (fun K hK => ?_) AllReadyH.nil)
  · go_simp
    refine name_r HW2 r.name (fun w3 h3 h4 => ?_)
    have HW3 := hd h3
    have HC3 : Hid (Chg [b] w1 w3) := hd (HC2.out.trans h4 (fun q hq => .inl hq))
    have H34 := hd h4
    refine hK.out _ _ HC3.out (fun hHeld => ?_)
    clear hK K h3 h4
    try simp only [Act.put, List.setIfInBounds_toArray, List.set_cons_zero, List.set_cons_succ, List.getElem_toArray, List.getElem_cons_succ, List.getElem_cons_zero]
    have g1 : ¬ 9223372036854775807 < 4 + r.name.length := by have := HRN.out; omega
    have g2 : ¬ 9223372036854775807 < 4 + r.name.length + 3 := by have := HRN.out; omega
    refine wpAnyH_take (i := 6) (v := ?vn12346) rfl (by kernel_rfl) (by kernel_rfl) (by kernel_rfl) (fun _ _ _ h => HPQ.out _ _ _ _ _ h) (Or.inl ⟨by kernel_rfl, ?hyn12346⟩) (by assumption) ?rsn12346
    case hyn12346 => (intro w9 hSw; skip; go_simp; try with_reducible rfl)
    try simp only [Act.put, List.setIfInBounds_toArray, List.set_cons_zero, List.set_cons_succ, List.getElem_toArray, List.getElem_cons_succ, List.getElem_cons_zero]
    rw [show (⟨#[114, 111, 119, 32]⟩ : ByteArray) ++ ⟨r.name.toArray⟩ = ⟨(Pr.tRow ++ r.name).toArray⟩ from str2 _ _]
    have gz : (⟨(Pr.tRow ++ r.name).toArray⟩ : ByteArray).size = 4 + r.name.length := by rw [size_of9, List.length_append]; rfl
    refine wpAnyH_take (i := 7) (v := ?vm12347) rfl (by kernel_rfl) (by kernel_rfl) (by kernel_rfl) (fun _ _ _ h => HPQ.out _ _ _ _ _ h) (Or.inl ⟨by kernel_rfl, ?hym12347⟩) (by assumption) ?rsm12347
    case hym12347 => (intro w9 hSw; skip; go_simp; try with_reducible rfl)
    try simp only [Act.put, List.setIfInBounds_toArray, List.set_cons_zero, List.set_cons_succ, List.getElem_toArray, List.getElem_cons_succ, List.getElem_cons_zero]
    rw [show (⟨(Pr.tRow ++ r.name).toArray⟩ : ByteArray) ++ ⟨#[32, 97, 116]⟩ = ⟨(Pr.tRow ++ r.name ++ Pr.tAt).toArray⟩ from str2 _ _]
    have z := st1_1234.out w3 (.string ⟨(r.name).toArray⟩) (.string ⟨(Pr.tRow ++ r.name).toArray⟩) X1 X2 X3 X4 (Pr.tRow ++ r.name ++ Pr.tAt) HW3 HC3 (hd ⟨rfl, by have := HRN.out; rw [List.length_append, List.length_append]; show 4 + _ + 3 ≤ _; omega⟩) (hd ⟨H34.out.blk HX1.out.1 (by simp [HX1.out.2]), HX1.out.2⟩) (hd ⟨H34.out.blk HX2.out.1 (by simp [HX2.out.2]), HX2.out.2⟩) (hd ⟨H34.out.blk HX3.out.1 (by simp [HX3.out.2]), HX3.out.2⟩) (hd ⟨H34.out.blk HX4.out.1 (by simp [HX4.out.2]), HX4.out.2⟩)
    rw [← HLIT.out, hA.out] at z
    try simp only [Act.put, List.setIfInBounds_toArray, List.set_cons_zero, List.set_cons_succ, List.getElem_toArray, List.getElem_cons_succ, List.getElem_cons_zero]
    exact wpAnyH_act (by kernel_rfl) z)
set_option maxHeartbeats 40000000 in
set_option maxRecDepth 100000 in
theorem rows0_123 {T : TypeId} {b deep : Nat} {w0 w1 : World} {bad : Bool} {out : Bytes} {v : Value} {r : Pr.Rw} {O : Array Oper} {Q0 : Exit → Act → World → Prop} {A0 : Act} (C : RowC w0 b w1 r) (hO : Hid (RowO O)) (HPQ : Hid (∀ c a d x w, Q0 (.panic c) (a.put d x) w → Q0 (.panic c) a w)) {M : Nat} {y1 y2 y3 y4 y5 y6 y7 y13 y14 y15 y23 y24 y25 y26 y32 y33 y34 y35 y41 y42 y43 y44 y50 y51 y52 y53 y54 y55 y56 y57 y58 y59 y60 y61 y62 y63 y64 y65 y66 y67 y68 y69 y70 y71 y72 y73 y74 y75 y76 y77 y78 y79 y80 y81 y82 y83 y84 y85 y86 y87 y88 y89 y90 y91 y92 y93 y94 y95 y96 y97 y98 y99 y100 y101 y102 y103 y104 y105 y106 y107 y108 y109 y110 y111 y112 y113 y114 y115 y116 : Value} (hA : Hid (A0 = RowA b M r y1 y2 y3 y4 y5 y6 y7 y13 y14 y15 y23 y24 y25 y26 y32 y33 y34 y35 y41 y42 y43 y44 y50 y51 y52 y53 y54 y55 y56 y57 y58 y59 y60 y61 y62 y63 y64 y65 y66 y67 y68 y69 y70 y71 y72 y73 y74 y75 y76 y77 y78 y79 y80 y81 y82 y83 y84 y85 y86 y87 y88 y89 y90 y91 y92 y93 y94 y95 y96 y97 y98 y99 y100 y101 y102 y103 y104 y105 y106 y107 y108 y109 y110 y111 y112 y113 y114 y115 y116)) (st1_123 : Hid (RowS1_123 T b deep w1 bad out v r O Q0 A0)) (st0_1234 : Hid (RowS0_1234 T b deep w1 bad out v r O Q0 A0)) : Hid (RowS0_123 T b deep w1 bad out v r O Q0 A0) := hd (by
  have HL := C.HL
  have HB0 := C.HB0
  have HQ1 := C.HQ1
  have HRI := C.HRI
  have HRN := C.HRN
  clear C
  unfold RowS0_123
  have hlit := hO.out
  unfold RowO at hlit
  simp only [Tryd.f43, findR, Option.getD, if_true, if_false, Nat.reduceEqDiff] at hlit
  injection hlit with hlit
  have HLIT := hd hlit
  clear hlit hO
  intro w2 X1 X2 X3 HW2 HC2 HX1 HX2 HX3
  rw [← HLIT.out, hA.out]
  unfold RowA
  try simp only [Act.put, List.setIfInBounds_toArray, List.set_cons_zero, List.set_cons_succ, List.getElem_toArray, List.getElem_cons_succ, List.getElem_cons_zero]
  refine wpAnyH_ready (rs := [5, 42]) (by kernel_rfl) (by simp) (AllReadyH.cons rfl (fun K hK => ?_) (AllReadyH.cons rfl (fun K hK => ?_) AllReadyH.nil))
  · go_simp
    refine name_r HW2 r.name (fun w3 h3 h4 => ?_)
    have HW3 := hd h3
    have HC3 : Hid (Chg [b] w1 w3) := hd (HC2.out.trans h4 (fun q hq => .inl hq))
    have H34 := hd h4
    refine hK.out _ _ HC3.out (fun hHeld => ?_)
    clear hK K h3 h4
    try simp only [Act.put, List.setIfInBounds_toArray, List.set_cons_zero, List.set_cons_succ, List.getElem_toArray, List.getElem_cons_succ, List.getElem_cons_zero]
    have g1 : ¬ 9223372036854775807 < 4 + r.name.length := by have := HRN.out; omega
    have g2 : ¬ 9223372036854775807 < 4 + r.name.length + 3 := by have := HRN.out; omega
    refine wpAnyH_take (i := 6) (v := ?vn1236) rfl (by kernel_rfl) (by kernel_rfl) (by kernel_rfl) (fun _ _ _ h => HPQ.out _ _ _ _ _ h) (Or.inl ⟨by kernel_rfl, ?hyn1236⟩) (by assumption) ?rsn1236
    case hyn1236 => (intro w9 hSw; skip; go_simp; try with_reducible rfl)
    try simp only [Act.put, List.setIfInBounds_toArray, List.set_cons_zero, List.set_cons_succ, List.getElem_toArray, List.getElem_cons_succ, List.getElem_cons_zero]
    rw [show (⟨#[114, 111, 119, 32]⟩ : ByteArray) ++ ⟨r.name.toArray⟩ = ⟨(Pr.tRow ++ r.name).toArray⟩ from str2 _ _]
    have gz : (⟨(Pr.tRow ++ r.name).toArray⟩ : ByteArray).size = 4 + r.name.length := by rw [size_of9, List.length_append]; rfl
    refine wpAnyH_take (i := 7) (v := ?vm1237) rfl (by kernel_rfl) (by kernel_rfl) (by kernel_rfl) (fun _ _ _ h => HPQ.out _ _ _ _ _ h) (Or.inl ⟨by kernel_rfl, ?hym1237⟩) (by assumption) ?rsm1237
    case hym1237 => (intro w9 hSw; skip; go_simp; try with_reducible rfl)
    try simp only [Act.put, List.setIfInBounds_toArray, List.set_cons_zero, List.set_cons_succ, List.getElem_toArray, List.getElem_cons_succ, List.getElem_cons_zero]
    rw [show (⟨(Pr.tRow ++ r.name).toArray⟩ : ByteArray) ++ ⟨#[32, 97, 116]⟩ = ⟨(Pr.tRow ++ r.name ++ Pr.tAt).toArray⟩ from str2 _ _]
    have z := st1_123.out w3 (.string ⟨(r.name).toArray⟩) (.string ⟨(Pr.tRow ++ r.name).toArray⟩) X1 X2 X3 (Pr.tRow ++ r.name ++ Pr.tAt) HW3 HC3 (hd ⟨rfl, by have := HRN.out; rw [List.length_append, List.length_append]; show 4 + _ + 3 ≤ _; omega⟩) (hd ⟨H34.out.blk HX1.out.1 (by simp [HX1.out.2]), HX1.out.2⟩) (hd ⟨H34.out.blk HX2.out.1 (by simp [HX2.out.2]), HX2.out.2⟩) (hd ⟨H34.out.blk HX3.out.1 (by simp [HX3.out.2]), HX3.out.2⟩)
    rw [← HLIT.out, hA.out] at z
    try simp only [Act.put, List.setIfInBounds_toArray, List.set_cons_zero, List.set_cons_succ, List.getElem_toArray, List.getElem_cons_succ, List.getElem_cons_zero]
    exact wpAnyH_act (by kernel_rfl) z
  · go_simp
    obtain ⟨w3, hw3⟩ : ∃ W, W = w2.alloc (.cells #[.int .i64 r.step] 3) := ⟨_, rfl⟩
    rw [← hw3]
    obtain ⟨Y, hY⟩ : ∃ X, X = w2.heap.size := ⟨_, rfl⟩
    rw [← hY]
    have HY : Hid (Blk w3 Y [.int .i64 r.step] 3 ∧ Y ≠ b) := hd ⟨by rw [hw3, hY]; exact Blk.new w2 [.int .i64 r.step] _, by have := HW2.out.lt; omega⟩
    have C3 : Hid (Chg [] w2 w3) := hd (by rw [hw3]; exact (Chg.refl _ _).alloc _)
    have HC3 : Hid (Chg [b] w1 w3) := hd (HC2.out.trans C3.out (by simp))
    have HW3 := hd (HW2.out.quiet C3.out)
    refine hK.out _ _ HC3.out (fun hHeld => ?_)
    clear hK K hw3 hY
    have z := st0_1234.out w3 X1 X2 X3 Y HW3 HC3 (hd ⟨C3.out.blk HX1.out.1 (by simp), HX1.out.2⟩) (hd ⟨C3.out.blk HX2.out.1 (by simp), HX2.out.2⟩) (hd ⟨C3.out.blk HX3.out.1 (by simp), HX3.out.2⟩) HY
    rw [← HLIT.out, hA.out] at z
    try simp only [Act.put, List.setIfInBounds_toArray, List.set_cons_zero, List.set_cons_succ, List.getElem_toArray, List.getElem_cons_succ, List.getElem_cons_zero]
    exact wpAnyH_act (by kernel_rfl) z)
set_option maxHeartbeats 40000000 in
set_option maxRecDepth 100000 in
theorem rows0_124 {T : TypeId} {b deep : Nat} {w0 w1 : World} {bad : Bool} {out : Bytes} {v : Value} {r : Pr.Rw} {O : Array Oper} {Q0 : Exit → Act → World → Prop} {A0 : Act} (C : RowC w0 b w1 r) (hO : Hid (RowO O)) (HPQ : Hid (∀ c a d x w, Q0 (.panic c) (a.put d x) w → Q0 (.panic c) a w)) {M : Nat} {y1 y2 y3 y4 y5 y6 y7 y13 y14 y15 y23 y24 y25 y26 y32 y33 y34 y35 y41 y42 y43 y44 y50 y51 y52 y53 y54 y55 y56 y57 y58 y59 y60 y61 y62 y63 y64 y65 y66 y67 y68 y69 y70 y71 y72 y73 y74 y75 y76 y77 y78 y79 y80 y81 y82 y83 y84 y85 y86 y87 y88 y89 y90 y91 y92 y93 y94 y95 y96 y97 y98 y99 y100 y101 y102 y103 y104 y105 y106 y107 y108 y109 y110 y111 y112 y113 y114 y115 y116 : Value} (hA : Hid (A0 = RowA b M r y1 y2 y3 y4 y5 y6 y7 y13 y14 y15 y23 y24 y25 y26 y32 y33 y34 y35 y41 y42 y43 y44 y50 y51 y52 y53 y54 y55 y56 y57 y58 y59 y60 y61 y62 y63 y64 y65 y66 y67 y68 y69 y70 y71 y72 y73 y74 y75 y76 y77 y78 y79 y80 y81 y82 y83 y84 y85 y86 y87 y88 y89 y90 y91 y92 y93 y94 y95 y96 y97 y98 y99 y100 y101 y102 y103 y104 y105 y106 y107 y108 y109 y110 y111 y112 y113 y114 y115 y116)) (st1_124 : Hid (RowS1_124 T b deep w1 bad out v r O Q0 A0)) (st0_1234 : Hid (RowS0_1234 T b deep w1 bad out v r O Q0 A0)) : Hid (RowS0_124 T b deep w1 bad out v r O Q0 A0) := hd (by
  have HL := C.HL
  have HB0 := C.HB0
  have HQ1 := C.HQ1
  have HRI := C.HRI
  have HRN := C.HRN
  clear C
  unfold RowS0_124
  have hlit := hO.out
  unfold RowO at hlit
  simp only [Tryd.f43, findR, Option.getD, if_true, if_false, Nat.reduceEqDiff] at hlit
  injection hlit with hlit
  have HLIT := hd hlit
  clear hlit hO
  intro w2 X1 X2 X4 HW2 HC2 HX1 HX2 HX4
  rw [← HLIT.out, hA.out]
  unfold RowA
  try simp only [Act.put, List.setIfInBounds_toArray, List.set_cons_zero, List.set_cons_succ, List.getElem_toArray, List.getElem_cons_succ, List.getElem_cons_zero]
  refine wpAnyH_ready (rs := [5, 33]) (by kernel_rfl) (by simp) (AllReadyH.cons rfl (fun K hK => ?_) (AllReadyH.cons rfl (fun K hK => ?_) AllReadyH.nil))
  · go_simp
    refine name_r HW2 r.name (fun w3 h3 h4 => ?_)
    have HW3 := hd h3
    have HC3 : Hid (Chg [b] w1 w3) := hd (HC2.out.trans h4 (fun q hq => .inl hq))
    have H34 := hd h4
    refine hK.out _ _ HC3.out (fun hHeld => ?_)
    clear hK K h3 h4
    try simp only [Act.put, List.setIfInBounds_toArray, List.set_cons_zero, List.set_cons_succ, List.getElem_toArray, List.getElem_cons_succ, List.getElem_cons_zero]
    have g1 : ¬ 9223372036854775807 < 4 + r.name.length := by have := HRN.out; omega
    have g2 : ¬ 9223372036854775807 < 4 + r.name.length + 3 := by have := HRN.out; omega
    refine wpAnyH_take (i := 6) (v := ?vn1246) rfl (by kernel_rfl) (by kernel_rfl) (by kernel_rfl) (fun _ _ _ h => HPQ.out _ _ _ _ _ h) (Or.inl ⟨by kernel_rfl, ?hyn1246⟩) (by assumption) ?rsn1246
    case hyn1246 => (intro w9 hSw; skip; go_simp; try with_reducible rfl)
    try simp only [Act.put, List.setIfInBounds_toArray, List.set_cons_zero, List.set_cons_succ, List.getElem_toArray, List.getElem_cons_succ, List.getElem_cons_zero]
    rw [show (⟨#[114, 111, 119, 32]⟩ : ByteArray) ++ ⟨r.name.toArray⟩ = ⟨(Pr.tRow ++ r.name).toArray⟩ from str2 _ _]
    have gz : (⟨(Pr.tRow ++ r.name).toArray⟩ : ByteArray).size = 4 + r.name.length := by rw [size_of9, List.length_append]; rfl
    refine wpAnyH_take (i := 7) (v := ?vm1247) rfl (by kernel_rfl) (by kernel_rfl) (by kernel_rfl) (fun _ _ _ h => HPQ.out _ _ _ _ _ h) (Or.inl ⟨by kernel_rfl, ?hym1247⟩) (by assumption) ?rsm1247
    case hym1247 => (intro w9 hSw; skip; go_simp; try with_reducible rfl)
    try simp only [Act.put, List.setIfInBounds_toArray, List.set_cons_zero, List.set_cons_succ, List.getElem_toArray, List.getElem_cons_succ, List.getElem_cons_zero]
    rw [show (⟨(Pr.tRow ++ r.name).toArray⟩ : ByteArray) ++ ⟨#[32, 97, 116]⟩ = ⟨(Pr.tRow ++ r.name ++ Pr.tAt).toArray⟩ from str2 _ _]
    have z := st1_124.out w3 (.string ⟨(r.name).toArray⟩) (.string ⟨(Pr.tRow ++ r.name).toArray⟩) X1 X2 X4 (Pr.tRow ++ r.name ++ Pr.tAt) HW3 HC3 (hd ⟨rfl, by have := HRN.out; rw [List.length_append, List.length_append]; show 4 + _ + 3 ≤ _; omega⟩) (hd ⟨H34.out.blk HX1.out.1 (by simp [HX1.out.2]), HX1.out.2⟩) (hd ⟨H34.out.blk HX2.out.1 (by simp [HX2.out.2]), HX2.out.2⟩) (hd ⟨H34.out.blk HX4.out.1 (by simp [HX4.out.2]), HX4.out.2⟩)
    rw [← HLIT.out, hA.out] at z
    try simp only [Act.put, List.setIfInBounds_toArray, List.set_cons_zero, List.set_cons_succ, List.getElem_toArray, List.getElem_cons_succ, List.getElem_cons_zero]
    exact wpAnyH_act (by kernel_rfl) z
  · go_simp
    obtain ⟨w3, hw3⟩ : ∃ W, W = w2.alloc (.cells #[.int .i64 r.t] 3) := ⟨_, rfl⟩
    rw [← hw3]
    obtain ⟨Y, hY⟩ : ∃ X, X = w2.heap.size := ⟨_, rfl⟩
    rw [← hY]
    have HY : Hid (Blk w3 Y [.int .i64 r.t] 3 ∧ Y ≠ b) := hd ⟨by rw [hw3, hY]; exact Blk.new w2 [.int .i64 r.t] _, by have := HW2.out.lt; omega⟩
    have C3 : Hid (Chg [] w2 w3) := hd (by rw [hw3]; exact (Chg.refl _ _).alloc _)
    have HC3 : Hid (Chg [b] w1 w3) := hd (HC2.out.trans C3.out (by simp))
    have HW3 := hd (HW2.out.quiet C3.out)
    refine hK.out _ _ HC3.out (fun hHeld => ?_)
    clear hK K hw3 hY
    have z := st0_1234.out w3 X1 X2 Y X4 HW3 HC3 (hd ⟨C3.out.blk HX1.out.1 (by simp), HX1.out.2⟩) (hd ⟨C3.out.blk HX2.out.1 (by simp), HX2.out.2⟩) HY (hd ⟨C3.out.blk HX4.out.1 (by simp), HX4.out.2⟩)
    rw [← HLIT.out, hA.out] at z
    try simp only [Act.put, List.setIfInBounds_toArray, List.set_cons_zero, List.set_cons_succ, List.getElem_toArray, List.getElem_cons_succ, List.getElem_cons_zero]
    exact wpAnyH_act (by kernel_rfl) z)
set_option maxHeartbeats 40000000 in
set_option maxRecDepth 100000 in
theorem rows0_134 {T : TypeId} {b deep : Nat} {w0 w1 : World} {bad : Bool} {out : Bytes} {v : Value} {r : Pr.Rw} {O : Array Oper} {Q0 : Exit → Act → World → Prop} {A0 : Act} (C : RowC w0 b w1 r) (hO : Hid (RowO O)) (HPQ : Hid (∀ c a d x w, Q0 (.panic c) (a.put d x) w → Q0 (.panic c) a w)) {M : Nat} {y1 y2 y3 y4 y5 y6 y7 y13 y14 y15 y23 y24 y25 y26 y32 y33 y34 y35 y41 y42 y43 y44 y50 y51 y52 y53 y54 y55 y56 y57 y58 y59 y60 y61 y62 y63 y64 y65 y66 y67 y68 y69 y70 y71 y72 y73 y74 y75 y76 y77 y78 y79 y80 y81 y82 y83 y84 y85 y86 y87 y88 y89 y90 y91 y92 y93 y94 y95 y96 y97 y98 y99 y100 y101 y102 y103 y104 y105 y106 y107 y108 y109 y110 y111 y112 y113 y114 y115 y116 : Value} (hA : Hid (A0 = RowA b M r y1 y2 y3 y4 y5 y6 y7 y13 y14 y15 y23 y24 y25 y26 y32 y33 y34 y35 y41 y42 y43 y44 y50 y51 y52 y53 y54 y55 y56 y57 y58 y59 y60 y61 y62 y63 y64 y65 y66 y67 y68 y69 y70 y71 y72 y73 y74 y75 y76 y77 y78 y79 y80 y81 y82 y83 y84 y85 y86 y87 y88 y89 y90 y91 y92 y93 y94 y95 y96 y97 y98 y99 y100 y101 y102 y103 y104 y105 y106 y107 y108 y109 y110 y111 y112 y113 y114 y115 y116)) (st1_134 : Hid (RowS1_134 T b deep w1 bad out v r O Q0 A0)) (st0_1234 : Hid (RowS0_1234 T b deep w1 bad out v r O Q0 A0)) : Hid (RowS0_134 T b deep w1 bad out v r O Q0 A0) := hd (by
  have HL := C.HL
  have HB0 := C.HB0
  have HQ1 := C.HQ1
  have HRI := C.HRI
  have HRN := C.HRN
  clear C
  unfold RowS0_134
  have hlit := hO.out
  unfold RowO at hlit
  simp only [Tryd.f43, findR, Option.getD, if_true, if_false, Nat.reduceEqDiff] at hlit
  injection hlit with hlit
  have HLIT := hd hlit
  clear hlit hO
  intro w2 X1 X3 X4 HW2 HC2 HX1 HX3 HX4
  rw [← HLIT.out, hA.out]
  unfold RowA
  try simp only [Act.put, List.setIfInBounds_toArray, List.set_cons_zero, List.set_cons_succ, List.getElem_toArray, List.getElem_cons_succ, List.getElem_cons_zero]
  refine wpAnyH_ready (rs := [5, 24]) (by kernel_rfl) (by simp) (AllReadyH.cons rfl (fun K hK => ?_) (AllReadyH.cons rfl (fun K hK => ?_) AllReadyH.nil))
  · go_simp
    refine name_r HW2 r.name (fun w3 h3 h4 => ?_)
    have HW3 := hd h3
    have HC3 : Hid (Chg [b] w1 w3) := hd (HC2.out.trans h4 (fun q hq => .inl hq))
    have H34 := hd h4
    refine hK.out _ _ HC3.out (fun hHeld => ?_)
    clear hK K h3 h4
    try simp only [Act.put, List.setIfInBounds_toArray, List.set_cons_zero, List.set_cons_succ, List.getElem_toArray, List.getElem_cons_succ, List.getElem_cons_zero]
    have g1 : ¬ 9223372036854775807 < 4 + r.name.length := by have := HRN.out; omega
    have g2 : ¬ 9223372036854775807 < 4 + r.name.length + 3 := by have := HRN.out; omega
    refine wpAnyH_take (i := 6) (v := ?vn1346) rfl (by kernel_rfl) (by kernel_rfl) (by kernel_rfl) (fun _ _ _ h => HPQ.out _ _ _ _ _ h) (Or.inl ⟨by kernel_rfl, ?hyn1346⟩) (by assumption) ?rsn1346
    case hyn1346 => (intro w9 hSw; skip; go_simp; try with_reducible rfl)
    try simp only [Act.put, List.setIfInBounds_toArray, List.set_cons_zero, List.set_cons_succ, List.getElem_toArray, List.getElem_cons_succ, List.getElem_cons_zero]
    rw [show (⟨#[114, 111, 119, 32]⟩ : ByteArray) ++ ⟨r.name.toArray⟩ = ⟨(Pr.tRow ++ r.name).toArray⟩ from str2 _ _]
    have gz : (⟨(Pr.tRow ++ r.name).toArray⟩ : ByteArray).size = 4 + r.name.length := by rw [size_of9, List.length_append]; rfl
    refine wpAnyH_take (i := 7) (v := ?vm1347) rfl (by kernel_rfl) (by kernel_rfl) (by kernel_rfl) (fun _ _ _ h => HPQ.out _ _ _ _ _ h) (Or.inl ⟨by kernel_rfl, ?hym1347⟩) (by assumption) ?rsm1347
    case hym1347 => (intro w9 hSw; skip; go_simp; try with_reducible rfl)
    try simp only [Act.put, List.setIfInBounds_toArray, List.set_cons_zero, List.set_cons_succ, List.getElem_toArray, List.getElem_cons_succ, List.getElem_cons_zero]
    rw [show (⟨(Pr.tRow ++ r.name).toArray⟩ : ByteArray) ++ ⟨#[32, 97, 116]⟩ = ⟨(Pr.tRow ++ r.name ++ Pr.tAt).toArray⟩ from str2 _ _]
    have z := st1_134.out w3 (.string ⟨(r.name).toArray⟩) (.string ⟨(Pr.tRow ++ r.name).toArray⟩) X1 X3 X4 (Pr.tRow ++ r.name ++ Pr.tAt) HW3 HC3 (hd ⟨rfl, by have := HRN.out; rw [List.length_append, List.length_append]; show 4 + _ + 3 ≤ _; omega⟩) (hd ⟨H34.out.blk HX1.out.1 (by simp [HX1.out.2]), HX1.out.2⟩) (hd ⟨H34.out.blk HX3.out.1 (by simp [HX3.out.2]), HX3.out.2⟩) (hd ⟨H34.out.blk HX4.out.1 (by simp [HX4.out.2]), HX4.out.2⟩)
    rw [← HLIT.out, hA.out] at z
    try simp only [Act.put, List.setIfInBounds_toArray, List.set_cons_zero, List.set_cons_succ, List.getElem_toArray, List.getElem_cons_succ, List.getElem_cons_zero]
    exact wpAnyH_act (by kernel_rfl) z
  · go_simp
    obtain ⟨w3, hw3⟩ : ∃ W, W = w2.alloc (.cells #[.int .i64 r.f] 3) := ⟨_, rfl⟩
    rw [← hw3]
    obtain ⟨Y, hY⟩ : ∃ X, X = w2.heap.size := ⟨_, rfl⟩
    rw [← hY]
    have HY : Hid (Blk w3 Y [.int .i64 r.f] 3 ∧ Y ≠ b) := hd ⟨by rw [hw3, hY]; exact Blk.new w2 [.int .i64 r.f] _, by have := HW2.out.lt; omega⟩
    have C3 : Hid (Chg [] w2 w3) := hd (by rw [hw3]; exact (Chg.refl _ _).alloc _)
    have HC3 : Hid (Chg [b] w1 w3) := hd (HC2.out.trans C3.out (by simp))
    have HW3 := hd (HW2.out.quiet C3.out)
    refine hK.out _ _ HC3.out (fun hHeld => ?_)
    clear hK K hw3 hY
    have z := st0_1234.out w3 X1 Y X3 X4 HW3 HC3 (hd ⟨C3.out.blk HX1.out.1 (by simp), HX1.out.2⟩) HY (hd ⟨C3.out.blk HX3.out.1 (by simp), HX3.out.2⟩) (hd ⟨C3.out.blk HX4.out.1 (by simp), HX4.out.2⟩)
    rw [← HLIT.out, hA.out] at z
    try simp only [Act.put, List.setIfInBounds_toArray, List.set_cons_zero, List.set_cons_succ, List.getElem_toArray, List.getElem_cons_succ, List.getElem_cons_zero]
    exact wpAnyH_act (by kernel_rfl) z)
set_option maxHeartbeats 40000000 in
set_option maxRecDepth 100000 in
theorem rows0_234 {T : TypeId} {b deep : Nat} {w0 w1 : World} {bad : Bool} {out : Bytes} {v : Value} {r : Pr.Rw} {O : Array Oper} {Q0 : Exit → Act → World → Prop} {A0 : Act} (C : RowC w0 b w1 r) (hO : Hid (RowO O)) (HPQ : Hid (∀ c a d x w, Q0 (.panic c) (a.put d x) w → Q0 (.panic c) a w)) {M : Nat} {y1 y2 y3 y4 y5 y6 y7 y13 y14 y15 y23 y24 y25 y26 y32 y33 y34 y35 y41 y42 y43 y44 y50 y51 y52 y53 y54 y55 y56 y57 y58 y59 y60 y61 y62 y63 y64 y65 y66 y67 y68 y69 y70 y71 y72 y73 y74 y75 y76 y77 y78 y79 y80 y81 y82 y83 y84 y85 y86 y87 y88 y89 y90 y91 y92 y93 y94 y95 y96 y97 y98 y99 y100 y101 y102 y103 y104 y105 y106 y107 y108 y109 y110 y111 y112 y113 y114 y115 y116 : Value} (hA : Hid (A0 = RowA b M r y1 y2 y3 y4 y5 y6 y7 y13 y14 y15 y23 y24 y25 y26 y32 y33 y34 y35 y41 y42 y43 y44 y50 y51 y52 y53 y54 y55 y56 y57 y58 y59 y60 y61 y62 y63 y64 y65 y66 y67 y68 y69 y70 y71 y72 y73 y74 y75 y76 y77 y78 y79 y80 y81 y82 y83 y84 y85 y86 y87 y88 y89 y90 y91 y92 y93 y94 y95 y96 y97 y98 y99 y100 y101 y102 y103 y104 y105 y106 y107 y108 y109 y110 y111 y112 y113 y114 y115 y116)) (st1_234 : Hid (RowS1_234 T b deep w1 bad out v r O Q0 A0)) (st0_1234 : Hid (RowS0_1234 T b deep w1 bad out v r O Q0 A0)) : Hid (RowS0_234 T b deep w1 bad out v r O Q0 A0) := hd (by
  have HL := C.HL
  have HB0 := C.HB0
  have HQ1 := C.HQ1
  have HRI := C.HRI
  have HRN := C.HRN
  clear C
  unfold RowS0_234
  have hlit := hO.out
  unfold RowO at hlit
  simp only [Tryd.f43, findR, Option.getD, if_true, if_false, Nat.reduceEqDiff] at hlit
  injection hlit with hlit
  have HLIT := hd hlit
  clear hlit hO
  intro w2 X2 X3 X4 HW2 HC2 HX2 HX3 HX4
  rw [← HLIT.out, hA.out]
  unfold RowA
  try simp only [Act.put, List.setIfInBounds_toArray, List.set_cons_zero, List.set_cons_succ, List.getElem_toArray, List.getElem_cons_succ, List.getElem_cons_zero]
  refine wpAnyH_ready (rs := [5, 15]) (by kernel_rfl) (by simp) (AllReadyH.cons rfl (fun K hK => ?_) (AllReadyH.cons rfl (fun K hK => ?_) AllReadyH.nil))
  · go_simp
    refine name_r HW2 r.name (fun w3 h3 h4 => ?_)
    have HW3 := hd h3
    have HC3 : Hid (Chg [b] w1 w3) := hd (HC2.out.trans h4 (fun q hq => .inl hq))
    have H34 := hd h4
    refine hK.out _ _ HC3.out (fun hHeld => ?_)
    clear hK K h3 h4
    try simp only [Act.put, List.setIfInBounds_toArray, List.set_cons_zero, List.set_cons_succ, List.getElem_toArray, List.getElem_cons_succ, List.getElem_cons_zero]
    have g1 : ¬ 9223372036854775807 < 4 + r.name.length := by have := HRN.out; omega
    have g2 : ¬ 9223372036854775807 < 4 + r.name.length + 3 := by have := HRN.out; omega
    refine wpAnyH_take (i := 6) (v := ?vn2346) rfl (by kernel_rfl) (by kernel_rfl) (by kernel_rfl) (fun _ _ _ h => HPQ.out _ _ _ _ _ h) (Or.inl ⟨by kernel_rfl, ?hyn2346⟩) (by assumption) ?rsn2346
    case hyn2346 => (intro w9 hSw; skip; go_simp; try with_reducible rfl)
    try simp only [Act.put, List.setIfInBounds_toArray, List.set_cons_zero, List.set_cons_succ, List.getElem_toArray, List.getElem_cons_succ, List.getElem_cons_zero]
    rw [show (⟨#[114, 111, 119, 32]⟩ : ByteArray) ++ ⟨r.name.toArray⟩ = ⟨(Pr.tRow ++ r.name).toArray⟩ from str2 _ _]
    have gz : (⟨(Pr.tRow ++ r.name).toArray⟩ : ByteArray).size = 4 + r.name.length := by rw [size_of9, List.length_append]; rfl
    refine wpAnyH_take (i := 7) (v := ?vm2347) rfl (by kernel_rfl) (by kernel_rfl) (by kernel_rfl) (fun _ _ _ h => HPQ.out _ _ _ _ _ h) (Or.inl ⟨by kernel_rfl, ?hym2347⟩) (by assumption) ?rsm2347
    case hym2347 => (intro w9 hSw; skip; go_simp; try with_reducible rfl)
    try simp only [Act.put, List.setIfInBounds_toArray, List.set_cons_zero, List.set_cons_succ, List.getElem_toArray, List.getElem_cons_succ, List.getElem_cons_zero]
    rw [show (⟨(Pr.tRow ++ r.name).toArray⟩ : ByteArray) ++ ⟨#[32, 97, 116]⟩ = ⟨(Pr.tRow ++ r.name ++ Pr.tAt).toArray⟩ from str2 _ _]
    have z := st1_234.out w3 (.string ⟨(r.name).toArray⟩) (.string ⟨(Pr.tRow ++ r.name).toArray⟩) X2 X3 X4 (Pr.tRow ++ r.name ++ Pr.tAt) HW3 HC3 (hd ⟨rfl, by have := HRN.out; rw [List.length_append, List.length_append]; show 4 + _ + 3 ≤ _; omega⟩) (hd ⟨H34.out.blk HX2.out.1 (by simp [HX2.out.2]), HX2.out.2⟩) (hd ⟨H34.out.blk HX3.out.1 (by simp [HX3.out.2]), HX3.out.2⟩) (hd ⟨H34.out.blk HX4.out.1 (by simp [HX4.out.2]), HX4.out.2⟩)
    rw [← HLIT.out, hA.out] at z
    try simp only [Act.put, List.setIfInBounds_toArray, List.set_cons_zero, List.set_cons_succ, List.getElem_toArray, List.getElem_cons_succ, List.getElem_cons_zero]
    exact wpAnyH_act (by kernel_rfl) z
  · go_simp
    obtain ⟨w3, hw3⟩ : ∃ W, W = w2.alloc (.cells #[.int .i64 r.x, .int .i64 r.y] 3) := ⟨_, rfl⟩
    rw [← hw3]
    obtain ⟨Y, hY⟩ : ∃ X, X = w2.heap.size := ⟨_, rfl⟩
    rw [← hY]
    have HY : Hid (Blk w3 Y [.int .i64 r.x, .int .i64 r.y] 3 ∧ Y ≠ b) := hd ⟨by rw [hw3, hY]; exact Blk.new w2 [.int .i64 r.x, .int .i64 r.y] _, by have := HW2.out.lt; omega⟩
    have C3 : Hid (Chg [] w2 w3) := hd (by rw [hw3]; exact (Chg.refl _ _).alloc _)
    have HC3 : Hid (Chg [b] w1 w3) := hd (HC2.out.trans C3.out (by simp))
    have HW3 := hd (HW2.out.quiet C3.out)
    refine hK.out _ _ HC3.out (fun hHeld => ?_)
    clear hK K hw3 hY
    have z := st0_1234.out w3 Y X2 X3 X4 HW3 HC3 HY (hd ⟨C3.out.blk HX2.out.1 (by simp), HX2.out.2⟩) (hd ⟨C3.out.blk HX3.out.1 (by simp), HX3.out.2⟩) (hd ⟨C3.out.blk HX4.out.1 (by simp), HX4.out.2⟩)
    rw [← HLIT.out, hA.out] at z
    try simp only [Act.put, List.setIfInBounds_toArray, List.set_cons_zero, List.set_cons_succ, List.getElem_toArray, List.getElem_cons_succ, List.getElem_cons_zero]
    exact wpAnyH_act (by kernel_rfl) z)
set_option maxHeartbeats 40000000 in
set_option maxRecDepth 100000 in
theorem rows0_12 {T : TypeId} {b deep : Nat} {w0 w1 : World} {bad : Bool} {out : Bytes} {v : Value} {r : Pr.Rw} {O : Array Oper} {Q0 : Exit → Act → World → Prop} {A0 : Act} (C : RowC w0 b w1 r) (hO : Hid (RowO O)) (HPQ : Hid (∀ c a d x w, Q0 (.panic c) (a.put d x) w → Q0 (.panic c) a w)) {M : Nat} {y1 y2 y3 y4 y5 y6 y7 y13 y14 y15 y23 y24 y25 y26 y32 y33 y34 y35 y41 y42 y43 y44 y50 y51 y52 y53 y54 y55 y56 y57 y58 y59 y60 y61 y62 y63 y64 y65 y66 y67 y68 y69 y70 y71 y72 y73 y74 y75 y76 y77 y78 y79 y80 y81 y82 y83 y84 y85 y86 y87 y88 y89 y90 y91 y92 y93 y94 y95 y96 y97 y98 y99 y100 y101 y102 y103 y104 y105 y106 y107 y108 y109 y110 y111 y112 y113 y114 y115 y116 : Value} (hA : Hid (A0 = RowA b M r y1 y2 y3 y4 y5 y6 y7 y13 y14 y15 y23 y24 y25 y26 y32 y33 y34 y35 y41 y42 y43 y44 y50 y51 y52 y53 y54 y55 y56 y57 y58 y59 y60 y61 y62 y63 y64 y65 y66 y67 y68 y69 y70 y71 y72 y73 y74 y75 y76 y77 y78 y79 y80 y81 y82 y83 y84 y85 y86 y87 y88 y89 y90 y91 y92 y93 y94 y95 y96 y97 y98 y99 y100 y101 y102 y103 y104 y105 y106 y107 y108 y109 y110 y111 y112 y113 y114 y115 y116)) (st1_12 : Hid (RowS1_12 T b deep w1 bad out v r O Q0 A0)) (st0_123 : Hid (RowS0_123 T b deep w1 bad out v r O Q0 A0)) (st0_124 : Hid (RowS0_124 T b deep w1 bad out v r O Q0 A0)) : Hid (RowS0_12 T b deep w1 bad out v r O Q0 A0) := hd (by
  have HL := C.HL
  have HB0 := C.HB0
  have HQ1 := C.HQ1
  have HRI := C.HRI
  have HRN := C.HRN
  clear C
  unfold RowS0_12
  have hlit := hO.out
  unfold RowO at hlit
  simp only [Tryd.f43, findR, Option.getD, if_true, if_false, Nat.reduceEqDiff] at hlit
  injection hlit with hlit
  have HLIT := hd hlit
  clear hlit hO
  intro w2 X1 X2 HW2 HC2 HX1 HX2
  rw [← HLIT.out, hA.out]
  unfold RowA
  try simp only [Act.put, List.setIfInBounds_toArray, List.set_cons_zero, List.set_cons_succ, List.getElem_toArray, List.getElem_cons_succ, List.getElem_cons_zero]
  refine wpAnyH_ready (rs := [5, 33, 42]) (by kernel_rfl) (by simp) (AllReadyH.cons rfl (fun K hK => ?_) (AllReadyH.cons rfl (fun K hK => ?_) (AllReadyH.cons rfl (fun K hK => ?_) AllReadyH.nil)))
  · go_simp
    refine name_r HW2 r.name (fun w3 h3 h4 => ?_)
    have HW3 := hd h3
    have HC3 : Hid (Chg [b] w1 w3) := hd (HC2.out.trans h4 (fun q hq => .inl hq))
    have H34 := hd h4
    refine hK.out _ _ HC3.out (fun hHeld => ?_)
    clear hK K h3 h4
    try simp only [Act.put, List.setIfInBounds_toArray, List.set_cons_zero, List.set_cons_succ, List.getElem_toArray, List.getElem_cons_succ, List.getElem_cons_zero]
    have g1 : ¬ 9223372036854775807 < 4 + r.name.length := by have := HRN.out; omega
    have g2 : ¬ 9223372036854775807 < 4 + r.name.length + 3 := by have := HRN.out; omega
    refine wpAnyH_take (i := 6) (v := ?vn126) rfl (by kernel_rfl) (by kernel_rfl) (by kernel_rfl) (fun _ _ _ h => HPQ.out _ _ _ _ _ h) (Or.inl ⟨by kernel_rfl, ?hyn126⟩) (by assumption) ?rsn126
    case hyn126 => (intro w9 hSw; skip; go_simp; try with_reducible rfl)
    try simp only [Act.put, List.setIfInBounds_toArray, List.set_cons_zero, List.set_cons_succ, List.getElem_toArray, List.getElem_cons_succ, List.getElem_cons_zero]
    rw [show (⟨#[114, 111, 119, 32]⟩ : ByteArray) ++ ⟨r.name.toArray⟩ = ⟨(Pr.tRow ++ r.name).toArray⟩ from str2 _ _]
    have gz : (⟨(Pr.tRow ++ r.name).toArray⟩ : ByteArray).size = 4 + r.name.length := by rw [size_of9, List.length_append]; rfl
    refine wpAnyH_take (i := 7) (v := ?vm127) rfl (by kernel_rfl) (by kernel_rfl) (by kernel_rfl) (fun _ _ _ h => HPQ.out _ _ _ _ _ h) (Or.inl ⟨by kernel_rfl, ?hym127⟩) (by assumption) ?rsm127
    case hym127 => (intro w9 hSw; skip; go_simp; try with_reducible rfl)
    try simp only [Act.put, List.setIfInBounds_toArray, List.set_cons_zero, List.set_cons_succ, List.getElem_toArray, List.getElem_cons_succ, List.getElem_cons_zero]
    rw [show (⟨(Pr.tRow ++ r.name).toArray⟩ : ByteArray) ++ ⟨#[32, 97, 116]⟩ = ⟨(Pr.tRow ++ r.name ++ Pr.tAt).toArray⟩ from str2 _ _]
    have z := st1_12.out w3 (.string ⟨(r.name).toArray⟩) (.string ⟨(Pr.tRow ++ r.name).toArray⟩) X1 X2 (Pr.tRow ++ r.name ++ Pr.tAt) HW3 HC3 (hd ⟨rfl, by have := HRN.out; rw [List.length_append, List.length_append]; show 4 + _ + 3 ≤ _; omega⟩) (hd ⟨H34.out.blk HX1.out.1 (by simp [HX1.out.2]), HX1.out.2⟩) (hd ⟨H34.out.blk HX2.out.1 (by simp [HX2.out.2]), HX2.out.2⟩)
    rw [← HLIT.out, hA.out] at z
    try simp only [Act.put, List.setIfInBounds_toArray, List.set_cons_zero, List.set_cons_succ, List.getElem_toArray, List.getElem_cons_succ, List.getElem_cons_zero]
    exact wpAnyH_act (by kernel_rfl) z
  · go_simp
    obtain ⟨w3, hw3⟩ : ∃ W, W = w2.alloc (.cells #[.int .i64 r.t] 3) := ⟨_, rfl⟩
    rw [← hw3]
    obtain ⟨Y, hY⟩ : ∃ X, X = w2.heap.size := ⟨_, rfl⟩
    rw [← hY]
    have HY : Hid (Blk w3 Y [.int .i64 r.t] 3 ∧ Y ≠ b) := hd ⟨by rw [hw3, hY]; exact Blk.new w2 [.int .i64 r.t] _, by have := HW2.out.lt; omega⟩
    have C3 : Hid (Chg [] w2 w3) := hd (by rw [hw3]; exact (Chg.refl _ _).alloc _)
    have HC3 : Hid (Chg [b] w1 w3) := hd (HC2.out.trans C3.out (by simp))
    have HW3 := hd (HW2.out.quiet C3.out)
    refine hK.out _ _ HC3.out (fun hHeld => ?_)
    clear hK K hw3 hY
    have z := st0_123.out w3 X1 X2 Y HW3 HC3 (hd ⟨C3.out.blk HX1.out.1 (by simp), HX1.out.2⟩) (hd ⟨C3.out.blk HX2.out.1 (by simp), HX2.out.2⟩) HY
    rw [← HLIT.out, hA.out] at z
    try simp only [Act.put, List.setIfInBounds_toArray, List.set_cons_zero, List.set_cons_succ, List.getElem_toArray, List.getElem_cons_succ, List.getElem_cons_zero]
    exact wpAnyH_act (by kernel_rfl) z
  · go_simp
    obtain ⟨w3, hw3⟩ : ∃ W, W = w2.alloc (.cells #[.int .i64 r.step] 3) := ⟨_, rfl⟩
    rw [← hw3]
    obtain ⟨Y, hY⟩ : ∃ X, X = w2.heap.size := ⟨_, rfl⟩
    rw [← hY]
    have HY : Hid (Blk w3 Y [.int .i64 r.step] 3 ∧ Y ≠ b) := hd ⟨by rw [hw3, hY]; exact Blk.new w2 [.int .i64 r.step] _, by have := HW2.out.lt; omega⟩
    have C3 : Hid (Chg [] w2 w3) := hd (by rw [hw3]; exact (Chg.refl _ _).alloc _)
    have HC3 : Hid (Chg [b] w1 w3) := hd (HC2.out.trans C3.out (by simp))
    have HW3 := hd (HW2.out.quiet C3.out)
    refine hK.out _ _ HC3.out (fun hHeld => ?_)
    clear hK K hw3 hY
    have z := st0_124.out w3 X1 X2 Y HW3 HC3 (hd ⟨C3.out.blk HX1.out.1 (by simp), HX1.out.2⟩) (hd ⟨C3.out.blk HX2.out.1 (by simp), HX2.out.2⟩) HY
    rw [← HLIT.out, hA.out] at z
    try simp only [Act.put, List.setIfInBounds_toArray, List.set_cons_zero, List.set_cons_succ, List.getElem_toArray, List.getElem_cons_succ, List.getElem_cons_zero]
    exact wpAnyH_act (by kernel_rfl) z)
set_option maxHeartbeats 40000000 in
set_option maxRecDepth 100000 in
theorem rows0_13 {T : TypeId} {b deep : Nat} {w0 w1 : World} {bad : Bool} {out : Bytes} {v : Value} {r : Pr.Rw} {O : Array Oper} {Q0 : Exit → Act → World → Prop} {A0 : Act} (C : RowC w0 b w1 r) (hO : Hid (RowO O)) (HPQ : Hid (∀ c a d x w, Q0 (.panic c) (a.put d x) w → Q0 (.panic c) a w)) {M : Nat} {y1 y2 y3 y4 y5 y6 y7 y13 y14 y15 y23 y24 y25 y26 y32 y33 y34 y35 y41 y42 y43 y44 y50 y51 y52 y53 y54 y55 y56 y57 y58 y59 y60 y61 y62 y63 y64 y65 y66 y67 y68 y69 y70 y71 y72 y73 y74 y75 y76 y77 y78 y79 y80 y81 y82 y83 y84 y85 y86 y87 y88 y89 y90 y91 y92 y93 y94 y95 y96 y97 y98 y99 y100 y101 y102 y103 y104 y105 y106 y107 y108 y109 y110 y111 y112 y113 y114 y115 y116 : Value} (hA : Hid (A0 = RowA b M r y1 y2 y3 y4 y5 y6 y7 y13 y14 y15 y23 y24 y25 y26 y32 y33 y34 y35 y41 y42 y43 y44 y50 y51 y52 y53 y54 y55 y56 y57 y58 y59 y60 y61 y62 y63 y64 y65 y66 y67 y68 y69 y70 y71 y72 y73 y74 y75 y76 y77 y78 y79 y80 y81 y82 y83 y84 y85 y86 y87 y88 y89 y90 y91 y92 y93 y94 y95 y96 y97 y98 y99 y100 y101 y102 y103 y104 y105 y106 y107 y108 y109 y110 y111 y112 y113 y114 y115 y116)) (st1_13 : Hid (RowS1_13 T b deep w1 bad out v r O Q0 A0)) (st0_123 : Hid (RowS0_123 T b deep w1 bad out v r O Q0 A0)) (st0_134 : Hid (RowS0_134 T b deep w1 bad out v r O Q0 A0)) : Hid (RowS0_13 T b deep w1 bad out v r O Q0 A0) := hd (by
  have HL := C.HL
  have HB0 := C.HB0
  have HQ1 := C.HQ1
  have HRI := C.HRI
  have HRN := C.HRN
  clear C
  unfold RowS0_13
  have hlit := hO.out
  unfold RowO at hlit
  simp only [Tryd.f43, findR, Option.getD, if_true, if_false, Nat.reduceEqDiff] at hlit
  injection hlit with hlit
  have HLIT := hd hlit
  clear hlit hO
  intro w2 X1 X3 HW2 HC2 HX1 HX3
  rw [← HLIT.out, hA.out]
  unfold RowA
  try simp only [Act.put, List.setIfInBounds_toArray, List.set_cons_zero, List.set_cons_succ, List.getElem_toArray, List.getElem_cons_succ, List.getElem_cons_zero]
  refine wpAnyH_ready (rs := [5, 24, 42]) (by kernel_rfl) (by simp) (AllReadyH.cons rfl (fun K hK => ?_) (AllReadyH.cons rfl (fun K hK => ?_) (AllReadyH.cons rfl (fun K hK => ?_) AllReadyH.nil)))
  · go_simp
    refine name_r HW2 r.name (fun w3 h3 h4 => ?_)
    have HW3 := hd h3
    have HC3 : Hid (Chg [b] w1 w3) := hd (HC2.out.trans h4 (fun q hq => .inl hq))
    have H34 := hd h4
    refine hK.out _ _ HC3.out (fun hHeld => ?_)
    clear hK K h3 h4
    try simp only [Act.put, List.setIfInBounds_toArray, List.set_cons_zero, List.set_cons_succ, List.getElem_toArray, List.getElem_cons_succ, List.getElem_cons_zero]
    have g1 : ¬ 9223372036854775807 < 4 + r.name.length := by have := HRN.out; omega
    have g2 : ¬ 9223372036854775807 < 4 + r.name.length + 3 := by have := HRN.out; omega
    refine wpAnyH_take (i := 6) (v := ?vn136) rfl (by kernel_rfl) (by kernel_rfl) (by kernel_rfl) (fun _ _ _ h => HPQ.out _ _ _ _ _ h) (Or.inl ⟨by kernel_rfl, ?hyn136⟩) (by assumption) ?rsn136
    case hyn136 => (intro w9 hSw; skip; go_simp; try with_reducible rfl)
    try simp only [Act.put, List.setIfInBounds_toArray, List.set_cons_zero, List.set_cons_succ, List.getElem_toArray, List.getElem_cons_succ, List.getElem_cons_zero]
    rw [show (⟨#[114, 111, 119, 32]⟩ : ByteArray) ++ ⟨r.name.toArray⟩ = ⟨(Pr.tRow ++ r.name).toArray⟩ from str2 _ _]
    have gz : (⟨(Pr.tRow ++ r.name).toArray⟩ : ByteArray).size = 4 + r.name.length := by rw [size_of9, List.length_append]; rfl
    refine wpAnyH_take (i := 7) (v := ?vm137) rfl (by kernel_rfl) (by kernel_rfl) (by kernel_rfl) (fun _ _ _ h => HPQ.out _ _ _ _ _ h) (Or.inl ⟨by kernel_rfl, ?hym137⟩) (by assumption) ?rsm137
    case hym137 => (intro w9 hSw; skip; go_simp; try with_reducible rfl)
    try simp only [Act.put, List.setIfInBounds_toArray, List.set_cons_zero, List.set_cons_succ, List.getElem_toArray, List.getElem_cons_succ, List.getElem_cons_zero]
    rw [show (⟨(Pr.tRow ++ r.name).toArray⟩ : ByteArray) ++ ⟨#[32, 97, 116]⟩ = ⟨(Pr.tRow ++ r.name ++ Pr.tAt).toArray⟩ from str2 _ _]
    have z := st1_13.out w3 (.string ⟨(r.name).toArray⟩) (.string ⟨(Pr.tRow ++ r.name).toArray⟩) X1 X3 (Pr.tRow ++ r.name ++ Pr.tAt) HW3 HC3 (hd ⟨rfl, by have := HRN.out; rw [List.length_append, List.length_append]; show 4 + _ + 3 ≤ _; omega⟩) (hd ⟨H34.out.blk HX1.out.1 (by simp [HX1.out.2]), HX1.out.2⟩) (hd ⟨H34.out.blk HX3.out.1 (by simp [HX3.out.2]), HX3.out.2⟩)
    rw [← HLIT.out, hA.out] at z
    try simp only [Act.put, List.setIfInBounds_toArray, List.set_cons_zero, List.set_cons_succ, List.getElem_toArray, List.getElem_cons_succ, List.getElem_cons_zero]
    exact wpAnyH_act (by kernel_rfl) z
  · go_simp
    obtain ⟨w3, hw3⟩ : ∃ W, W = w2.alloc (.cells #[.int .i64 r.f] 3) := ⟨_, rfl⟩
    rw [← hw3]
    obtain ⟨Y, hY⟩ : ∃ X, X = w2.heap.size := ⟨_, rfl⟩
    rw [← hY]
    have HY : Hid (Blk w3 Y [.int .i64 r.f] 3 ∧ Y ≠ b) := hd ⟨by rw [hw3, hY]; exact Blk.new w2 [.int .i64 r.f] _, by have := HW2.out.lt; omega⟩
    have C3 : Hid (Chg [] w2 w3) := hd (by rw [hw3]; exact (Chg.refl _ _).alloc _)
    have HC3 : Hid (Chg [b] w1 w3) := hd (HC2.out.trans C3.out (by simp))
    have HW3 := hd (HW2.out.quiet C3.out)
    refine hK.out _ _ HC3.out (fun hHeld => ?_)
    clear hK K hw3 hY
    have z := st0_123.out w3 X1 Y X3 HW3 HC3 (hd ⟨C3.out.blk HX1.out.1 (by simp), HX1.out.2⟩) HY (hd ⟨C3.out.blk HX3.out.1 (by simp), HX3.out.2⟩)
    rw [← HLIT.out, hA.out] at z
    try simp only [Act.put, List.setIfInBounds_toArray, List.set_cons_zero, List.set_cons_succ, List.getElem_toArray, List.getElem_cons_succ, List.getElem_cons_zero]
    exact wpAnyH_act (by kernel_rfl) z
  · go_simp
    obtain ⟨w3, hw3⟩ : ∃ W, W = w2.alloc (.cells #[.int .i64 r.step] 3) := ⟨_, rfl⟩
    rw [← hw3]
    obtain ⟨Y, hY⟩ : ∃ X, X = w2.heap.size := ⟨_, rfl⟩
    rw [← hY]
    have HY : Hid (Blk w3 Y [.int .i64 r.step] 3 ∧ Y ≠ b) := hd ⟨by rw [hw3, hY]; exact Blk.new w2 [.int .i64 r.step] _, by have := HW2.out.lt; omega⟩
    have C3 : Hid (Chg [] w2 w3) := hd (by rw [hw3]; exact (Chg.refl _ _).alloc _)
    have HC3 : Hid (Chg [b] w1 w3) := hd (HC2.out.trans C3.out (by simp))
    have HW3 := hd (HW2.out.quiet C3.out)
    refine hK.out _ _ HC3.out (fun hHeld => ?_)
    clear hK K hw3 hY
    have z := st0_134.out w3 X1 X3 Y HW3 HC3 (hd ⟨C3.out.blk HX1.out.1 (by simp), HX1.out.2⟩) (hd ⟨C3.out.blk HX3.out.1 (by simp), HX3.out.2⟩) HY
    rw [← HLIT.out, hA.out] at z
    try simp only [Act.put, List.setIfInBounds_toArray, List.set_cons_zero, List.set_cons_succ, List.getElem_toArray, List.getElem_cons_succ, List.getElem_cons_zero]
    exact wpAnyH_act (by kernel_rfl) z)
set_option maxHeartbeats 40000000 in
set_option maxRecDepth 100000 in
theorem rows0_14 {T : TypeId} {b deep : Nat} {w0 w1 : World} {bad : Bool} {out : Bytes} {v : Value} {r : Pr.Rw} {O : Array Oper} {Q0 : Exit → Act → World → Prop} {A0 : Act} (C : RowC w0 b w1 r) (hO : Hid (RowO O)) (HPQ : Hid (∀ c a d x w, Q0 (.panic c) (a.put d x) w → Q0 (.panic c) a w)) {M : Nat} {y1 y2 y3 y4 y5 y6 y7 y13 y14 y15 y23 y24 y25 y26 y32 y33 y34 y35 y41 y42 y43 y44 y50 y51 y52 y53 y54 y55 y56 y57 y58 y59 y60 y61 y62 y63 y64 y65 y66 y67 y68 y69 y70 y71 y72 y73 y74 y75 y76 y77 y78 y79 y80 y81 y82 y83 y84 y85 y86 y87 y88 y89 y90 y91 y92 y93 y94 y95 y96 y97 y98 y99 y100 y101 y102 y103 y104 y105 y106 y107 y108 y109 y110 y111 y112 y113 y114 y115 y116 : Value} (hA : Hid (A0 = RowA b M r y1 y2 y3 y4 y5 y6 y7 y13 y14 y15 y23 y24 y25 y26 y32 y33 y34 y35 y41 y42 y43 y44 y50 y51 y52 y53 y54 y55 y56 y57 y58 y59 y60 y61 y62 y63 y64 y65 y66 y67 y68 y69 y70 y71 y72 y73 y74 y75 y76 y77 y78 y79 y80 y81 y82 y83 y84 y85 y86 y87 y88 y89 y90 y91 y92 y93 y94 y95 y96 y97 y98 y99 y100 y101 y102 y103 y104 y105 y106 y107 y108 y109 y110 y111 y112 y113 y114 y115 y116)) (st1_14 : Hid (RowS1_14 T b deep w1 bad out v r O Q0 A0)) (st0_124 : Hid (RowS0_124 T b deep w1 bad out v r O Q0 A0)) (st0_134 : Hid (RowS0_134 T b deep w1 bad out v r O Q0 A0)) : Hid (RowS0_14 T b deep w1 bad out v r O Q0 A0) := hd (by
  have HL := C.HL
  have HB0 := C.HB0
  have HQ1 := C.HQ1
  have HRI := C.HRI
  have HRN := C.HRN
  clear C
  unfold RowS0_14
  have hlit := hO.out
  unfold RowO at hlit
  simp only [Tryd.f43, findR, Option.getD, if_true, if_false, Nat.reduceEqDiff] at hlit
  injection hlit with hlit
  have HLIT := hd hlit
  clear hlit hO
  intro w2 X1 X4 HW2 HC2 HX1 HX4
  rw [← HLIT.out, hA.out]
  unfold RowA
  try simp only [Act.put, List.setIfInBounds_toArray, List.set_cons_zero, List.set_cons_succ, List.getElem_toArray, List.getElem_cons_succ, List.getElem_cons_zero]
  refine wpAnyH_ready (rs := [5, 24, 33]) (by kernel_rfl) (by simp) (AllReadyH.cons rfl (fun K hK => ?_) (AllReadyH.cons rfl (fun K hK => ?_) (AllReadyH.cons rfl (fun K hK => ?_) AllReadyH.nil)))
  · go_simp
    refine name_r HW2 r.name (fun w3 h3 h4 => ?_)
    have HW3 := hd h3
    have HC3 : Hid (Chg [b] w1 w3) := hd (HC2.out.trans h4 (fun q hq => .inl hq))
    have H34 := hd h4
    refine hK.out _ _ HC3.out (fun hHeld => ?_)
    clear hK K h3 h4
    try simp only [Act.put, List.setIfInBounds_toArray, List.set_cons_zero, List.set_cons_succ, List.getElem_toArray, List.getElem_cons_succ, List.getElem_cons_zero]
    have g1 : ¬ 9223372036854775807 < 4 + r.name.length := by have := HRN.out; omega
    have g2 : ¬ 9223372036854775807 < 4 + r.name.length + 3 := by have := HRN.out; omega
    refine wpAnyH_take (i := 6) (v := ?vn146) rfl (by kernel_rfl) (by kernel_rfl) (by kernel_rfl) (fun _ _ _ h => HPQ.out _ _ _ _ _ h) (Or.inl ⟨by kernel_rfl, ?hyn146⟩) (by assumption) ?rsn146
    case hyn146 => (intro w9 hSw; skip; go_simp; try with_reducible rfl)
    try simp only [Act.put, List.setIfInBounds_toArray, List.set_cons_zero, List.set_cons_succ, List.getElem_toArray, List.getElem_cons_succ, List.getElem_cons_zero]
    rw [show (⟨#[114, 111, 119, 32]⟩ : ByteArray) ++ ⟨r.name.toArray⟩ = ⟨(Pr.tRow ++ r.name).toArray⟩ from str2 _ _]
    have gz : (⟨(Pr.tRow ++ r.name).toArray⟩ : ByteArray).size = 4 + r.name.length := by rw [size_of9, List.length_append]; rfl
    refine wpAnyH_take (i := 7) (v := ?vm147) rfl (by kernel_rfl) (by kernel_rfl) (by kernel_rfl) (fun _ _ _ h => HPQ.out _ _ _ _ _ h) (Or.inl ⟨by kernel_rfl, ?hym147⟩) (by assumption) ?rsm147
    case hym147 => (intro w9 hSw; skip; go_simp; try with_reducible rfl)
    try simp only [Act.put, List.setIfInBounds_toArray, List.set_cons_zero, List.set_cons_succ, List.getElem_toArray, List.getElem_cons_succ, List.getElem_cons_zero]
    rw [show (⟨(Pr.tRow ++ r.name).toArray⟩ : ByteArray) ++ ⟨#[32, 97, 116]⟩ = ⟨(Pr.tRow ++ r.name ++ Pr.tAt).toArray⟩ from str2 _ _]
    have z := st1_14.out w3 (.string ⟨(r.name).toArray⟩) (.string ⟨(Pr.tRow ++ r.name).toArray⟩) X1 X4 (Pr.tRow ++ r.name ++ Pr.tAt) HW3 HC3 (hd ⟨rfl, by have := HRN.out; rw [List.length_append, List.length_append]; show 4 + _ + 3 ≤ _; omega⟩) (hd ⟨H34.out.blk HX1.out.1 (by simp [HX1.out.2]), HX1.out.2⟩) (hd ⟨H34.out.blk HX4.out.1 (by simp [HX4.out.2]), HX4.out.2⟩)
    rw [← HLIT.out, hA.out] at z
    try simp only [Act.put, List.setIfInBounds_toArray, List.set_cons_zero, List.set_cons_succ, List.getElem_toArray, List.getElem_cons_succ, List.getElem_cons_zero]
    exact wpAnyH_act (by kernel_rfl) z
  · go_simp
    obtain ⟨w3, hw3⟩ : ∃ W, W = w2.alloc (.cells #[.int .i64 r.f] 3) := ⟨_, rfl⟩
    rw [← hw3]
    obtain ⟨Y, hY⟩ : ∃ X, X = w2.heap.size := ⟨_, rfl⟩
    rw [← hY]
    have HY : Hid (Blk w3 Y [.int .i64 r.f] 3 ∧ Y ≠ b) := hd ⟨by rw [hw3, hY]; exact Blk.new w2 [.int .i64 r.f] _, by have := HW2.out.lt; omega⟩
    have C3 : Hid (Chg [] w2 w3) := hd (by rw [hw3]; exact (Chg.refl _ _).alloc _)
    have HC3 : Hid (Chg [b] w1 w3) := hd (HC2.out.trans C3.out (by simp))
    have HW3 := hd (HW2.out.quiet C3.out)
    refine hK.out _ _ HC3.out (fun hHeld => ?_)
    clear hK K hw3 hY
    have z := st0_124.out w3 X1 Y X4 HW3 HC3 (hd ⟨C3.out.blk HX1.out.1 (by simp), HX1.out.2⟩) HY (hd ⟨C3.out.blk HX4.out.1 (by simp), HX4.out.2⟩)
    rw [← HLIT.out, hA.out] at z
    try simp only [Act.put, List.setIfInBounds_toArray, List.set_cons_zero, List.set_cons_succ, List.getElem_toArray, List.getElem_cons_succ, List.getElem_cons_zero]
    exact wpAnyH_act (by kernel_rfl) z
  · go_simp
    obtain ⟨w3, hw3⟩ : ∃ W, W = w2.alloc (.cells #[.int .i64 r.t] 3) := ⟨_, rfl⟩
    rw [← hw3]
    obtain ⟨Y, hY⟩ : ∃ X, X = w2.heap.size := ⟨_, rfl⟩
    rw [← hY]
    have HY : Hid (Blk w3 Y [.int .i64 r.t] 3 ∧ Y ≠ b) := hd ⟨by rw [hw3, hY]; exact Blk.new w2 [.int .i64 r.t] _, by have := HW2.out.lt; omega⟩
    have C3 : Hid (Chg [] w2 w3) := hd (by rw [hw3]; exact (Chg.refl _ _).alloc _)
    have HC3 : Hid (Chg [b] w1 w3) := hd (HC2.out.trans C3.out (by simp))
    have HW3 := hd (HW2.out.quiet C3.out)
    refine hK.out _ _ HC3.out (fun hHeld => ?_)
    clear hK K hw3 hY
    have z := st0_134.out w3 X1 Y X4 HW3 HC3 (hd ⟨C3.out.blk HX1.out.1 (by simp), HX1.out.2⟩) HY (hd ⟨C3.out.blk HX4.out.1 (by simp), HX4.out.2⟩)
    rw [← HLIT.out, hA.out] at z
    try simp only [Act.put, List.setIfInBounds_toArray, List.set_cons_zero, List.set_cons_succ, List.getElem_toArray, List.getElem_cons_succ, List.getElem_cons_zero]
    exact wpAnyH_act (by kernel_rfl) z)
set_option maxHeartbeats 40000000 in
set_option maxRecDepth 100000 in
theorem rows0_23 {T : TypeId} {b deep : Nat} {w0 w1 : World} {bad : Bool} {out : Bytes} {v : Value} {r : Pr.Rw} {O : Array Oper} {Q0 : Exit → Act → World → Prop} {A0 : Act} (C : RowC w0 b w1 r) (hO : Hid (RowO O)) (HPQ : Hid (∀ c a d x w, Q0 (.panic c) (a.put d x) w → Q0 (.panic c) a w)) {M : Nat} {y1 y2 y3 y4 y5 y6 y7 y13 y14 y15 y23 y24 y25 y26 y32 y33 y34 y35 y41 y42 y43 y44 y50 y51 y52 y53 y54 y55 y56 y57 y58 y59 y60 y61 y62 y63 y64 y65 y66 y67 y68 y69 y70 y71 y72 y73 y74 y75 y76 y77 y78 y79 y80 y81 y82 y83 y84 y85 y86 y87 y88 y89 y90 y91 y92 y93 y94 y95 y96 y97 y98 y99 y100 y101 y102 y103 y104 y105 y106 y107 y108 y109 y110 y111 y112 y113 y114 y115 y116 : Value} (hA : Hid (A0 = RowA b M r y1 y2 y3 y4 y5 y6 y7 y13 y14 y15 y23 y24 y25 y26 y32 y33 y34 y35 y41 y42 y43 y44 y50 y51 y52 y53 y54 y55 y56 y57 y58 y59 y60 y61 y62 y63 y64 y65 y66 y67 y68 y69 y70 y71 y72 y73 y74 y75 y76 y77 y78 y79 y80 y81 y82 y83 y84 y85 y86 y87 y88 y89 y90 y91 y92 y93 y94 y95 y96 y97 y98 y99 y100 y101 y102 y103 y104 y105 y106 y107 y108 y109 y110 y111 y112 y113 y114 y115 y116)) (st1_23 : Hid (RowS1_23 T b deep w1 bad out v r O Q0 A0)) (st0_123 : Hid (RowS0_123 T b deep w1 bad out v r O Q0 A0)) (st0_234 : Hid (RowS0_234 T b deep w1 bad out v r O Q0 A0)) : Hid (RowS0_23 T b deep w1 bad out v r O Q0 A0) := hd (by
  have HL := C.HL
  have HB0 := C.HB0
  have HQ1 := C.HQ1
  have HRI := C.HRI
  have HRN := C.HRN
  clear C
  unfold RowS0_23
  have hlit := hO.out
  unfold RowO at hlit
  simp only [Tryd.f43, findR, Option.getD, if_true, if_false, Nat.reduceEqDiff] at hlit
  injection hlit with hlit
  have HLIT := hd hlit
  clear hlit hO
  intro w2 X2 X3 HW2 HC2 HX2 HX3
  rw [← HLIT.out, hA.out]
  unfold RowA
  try simp only [Act.put, List.setIfInBounds_toArray, List.set_cons_zero, List.set_cons_succ, List.getElem_toArray, List.getElem_cons_succ, List.getElem_cons_zero]
  refine wpAnyH_ready (rs := [5, 15, 42]) (by kernel_rfl) (by simp) (AllReadyH.cons rfl (fun K hK => ?_) (AllReadyH.cons rfl (fun K hK => ?_) (AllReadyH.cons rfl (fun K hK => ?_) AllReadyH.nil)))
  · go_simp
    refine name_r HW2 r.name (fun w3 h3 h4 => ?_)
    have HW3 := hd h3
    have HC3 : Hid (Chg [b] w1 w3) := hd (HC2.out.trans h4 (fun q hq => .inl hq))
    have H34 := hd h4
    refine hK.out _ _ HC3.out (fun hHeld => ?_)
    clear hK K h3 h4
    try simp only [Act.put, List.setIfInBounds_toArray, List.set_cons_zero, List.set_cons_succ, List.getElem_toArray, List.getElem_cons_succ, List.getElem_cons_zero]
    have g1 : ¬ 9223372036854775807 < 4 + r.name.length := by have := HRN.out; omega
    have g2 : ¬ 9223372036854775807 < 4 + r.name.length + 3 := by have := HRN.out; omega
    refine wpAnyH_take (i := 6) (v := ?vn236) rfl (by kernel_rfl) (by kernel_rfl) (by kernel_rfl) (fun _ _ _ h => HPQ.out _ _ _ _ _ h) (Or.inl ⟨by kernel_rfl, ?hyn236⟩) (by assumption) ?rsn236
    case hyn236 => (intro w9 hSw; skip; go_simp; try with_reducible rfl)
    try simp only [Act.put, List.setIfInBounds_toArray, List.set_cons_zero, List.set_cons_succ, List.getElem_toArray, List.getElem_cons_succ, List.getElem_cons_zero]
    rw [show (⟨#[114, 111, 119, 32]⟩ : ByteArray) ++ ⟨r.name.toArray⟩ = ⟨(Pr.tRow ++ r.name).toArray⟩ from str2 _ _]
    have gz : (⟨(Pr.tRow ++ r.name).toArray⟩ : ByteArray).size = 4 + r.name.length := by rw [size_of9, List.length_append]; rfl
    refine wpAnyH_take (i := 7) (v := ?vm237) rfl (by kernel_rfl) (by kernel_rfl) (by kernel_rfl) (fun _ _ _ h => HPQ.out _ _ _ _ _ h) (Or.inl ⟨by kernel_rfl, ?hym237⟩) (by assumption) ?rsm237
    case hym237 => (intro w9 hSw; skip; go_simp; try with_reducible rfl)
    try simp only [Act.put, List.setIfInBounds_toArray, List.set_cons_zero, List.set_cons_succ, List.getElem_toArray, List.getElem_cons_succ, List.getElem_cons_zero]
    rw [show (⟨(Pr.tRow ++ r.name).toArray⟩ : ByteArray) ++ ⟨#[32, 97, 116]⟩ = ⟨(Pr.tRow ++ r.name ++ Pr.tAt).toArray⟩ from str2 _ _]
    have z := st1_23.out w3 (.string ⟨(r.name).toArray⟩) (.string ⟨(Pr.tRow ++ r.name).toArray⟩) X2 X3 (Pr.tRow ++ r.name ++ Pr.tAt) HW3 HC3 (hd ⟨rfl, by have := HRN.out; rw [List.length_append, List.length_append]; show 4 + _ + 3 ≤ _; omega⟩) (hd ⟨H34.out.blk HX2.out.1 (by simp [HX2.out.2]), HX2.out.2⟩) (hd ⟨H34.out.blk HX3.out.1 (by simp [HX3.out.2]), HX3.out.2⟩)
    rw [← HLIT.out, hA.out] at z
    try simp only [Act.put, List.setIfInBounds_toArray, List.set_cons_zero, List.set_cons_succ, List.getElem_toArray, List.getElem_cons_succ, List.getElem_cons_zero]
    exact wpAnyH_act (by kernel_rfl) z
  · go_simp
    obtain ⟨w3, hw3⟩ : ∃ W, W = w2.alloc (.cells #[.int .i64 r.x, .int .i64 r.y] 3) := ⟨_, rfl⟩
    rw [← hw3]
    obtain ⟨Y, hY⟩ : ∃ X, X = w2.heap.size := ⟨_, rfl⟩
    rw [← hY]
    have HY : Hid (Blk w3 Y [.int .i64 r.x, .int .i64 r.y] 3 ∧ Y ≠ b) := hd ⟨by rw [hw3, hY]; exact Blk.new w2 [.int .i64 r.x, .int .i64 r.y] _, by have := HW2.out.lt; omega⟩
    have C3 : Hid (Chg [] w2 w3) := hd (by rw [hw3]; exact (Chg.refl _ _).alloc _)
    have HC3 : Hid (Chg [b] w1 w3) := hd (HC2.out.trans C3.out (by simp))
    have HW3 := hd (HW2.out.quiet C3.out)
    refine hK.out _ _ HC3.out (fun hHeld => ?_)
    clear hK K hw3 hY
    have z := st0_123.out w3 Y X2 X3 HW3 HC3 HY (hd ⟨C3.out.blk HX2.out.1 (by simp), HX2.out.2⟩) (hd ⟨C3.out.blk HX3.out.1 (by simp), HX3.out.2⟩)
    rw [← HLIT.out, hA.out] at z
    try simp only [Act.put, List.setIfInBounds_toArray, List.set_cons_zero, List.set_cons_succ, List.getElem_toArray, List.getElem_cons_succ, List.getElem_cons_zero]
    exact wpAnyH_act (by kernel_rfl) z
  · go_simp
    obtain ⟨w3, hw3⟩ : ∃ W, W = w2.alloc (.cells #[.int .i64 r.step] 3) := ⟨_, rfl⟩
    rw [← hw3]
    obtain ⟨Y, hY⟩ : ∃ X, X = w2.heap.size := ⟨_, rfl⟩
    rw [← hY]
    have HY : Hid (Blk w3 Y [.int .i64 r.step] 3 ∧ Y ≠ b) := hd ⟨by rw [hw3, hY]; exact Blk.new w2 [.int .i64 r.step] _, by have := HW2.out.lt; omega⟩
    have C3 : Hid (Chg [] w2 w3) := hd (by rw [hw3]; exact (Chg.refl _ _).alloc _)
    have HC3 : Hid (Chg [b] w1 w3) := hd (HC2.out.trans C3.out (by simp))
    have HW3 := hd (HW2.out.quiet C3.out)
    refine hK.out _ _ HC3.out (fun hHeld => ?_)
    clear hK K hw3 hY
    have z := st0_234.out w3 X2 X3 Y HW3 HC3 (hd ⟨C3.out.blk HX2.out.1 (by simp), HX2.out.2⟩) (hd ⟨C3.out.blk HX3.out.1 (by simp), HX3.out.2⟩) HY
    rw [← HLIT.out, hA.out] at z
    try simp only [Act.put, List.setIfInBounds_toArray, List.set_cons_zero, List.set_cons_succ, List.getElem_toArray, List.getElem_cons_succ, List.getElem_cons_zero]
    exact wpAnyH_act (by kernel_rfl) z)
set_option maxHeartbeats 40000000 in
set_option maxRecDepth 100000 in
theorem rows0_24 {T : TypeId} {b deep : Nat} {w0 w1 : World} {bad : Bool} {out : Bytes} {v : Value} {r : Pr.Rw} {O : Array Oper} {Q0 : Exit → Act → World → Prop} {A0 : Act} (C : RowC w0 b w1 r) (hO : Hid (RowO O)) (HPQ : Hid (∀ c a d x w, Q0 (.panic c) (a.put d x) w → Q0 (.panic c) a w)) {M : Nat} {y1 y2 y3 y4 y5 y6 y7 y13 y14 y15 y23 y24 y25 y26 y32 y33 y34 y35 y41 y42 y43 y44 y50 y51 y52 y53 y54 y55 y56 y57 y58 y59 y60 y61 y62 y63 y64 y65 y66 y67 y68 y69 y70 y71 y72 y73 y74 y75 y76 y77 y78 y79 y80 y81 y82 y83 y84 y85 y86 y87 y88 y89 y90 y91 y92 y93 y94 y95 y96 y97 y98 y99 y100 y101 y102 y103 y104 y105 y106 y107 y108 y109 y110 y111 y112 y113 y114 y115 y116 : Value} (hA : Hid (A0 = RowA b M r y1 y2 y3 y4 y5 y6 y7 y13 y14 y15 y23 y24 y25 y26 y32 y33 y34 y35 y41 y42 y43 y44 y50 y51 y52 y53 y54 y55 y56 y57 y58 y59 y60 y61 y62 y63 y64 y65 y66 y67 y68 y69 y70 y71 y72 y73 y74 y75 y76 y77 y78 y79 y80 y81 y82 y83 y84 y85 y86 y87 y88 y89 y90 y91 y92 y93 y94 y95 y96 y97 y98 y99 y100 y101 y102 y103 y104 y105 y106 y107 y108 y109 y110 y111 y112 y113 y114 y115 y116)) (st1_24 : Hid (RowS1_24 T b deep w1 bad out v r O Q0 A0)) (st0_124 : Hid (RowS0_124 T b deep w1 bad out v r O Q0 A0)) (st0_234 : Hid (RowS0_234 T b deep w1 bad out v r O Q0 A0)) : Hid (RowS0_24 T b deep w1 bad out v r O Q0 A0) := hd (by
  have HL := C.HL
  have HB0 := C.HB0
  have HQ1 := C.HQ1
  have HRI := C.HRI
  have HRN := C.HRN
  clear C
  unfold RowS0_24
  have hlit := hO.out
  unfold RowO at hlit
  simp only [Tryd.f43, findR, Option.getD, if_true, if_false, Nat.reduceEqDiff] at hlit
  injection hlit with hlit
  have HLIT := hd hlit
  clear hlit hO
  intro w2 X2 X4 HW2 HC2 HX2 HX4
  rw [← HLIT.out, hA.out]
  unfold RowA
  try simp only [Act.put, List.setIfInBounds_toArray, List.set_cons_zero, List.set_cons_succ, List.getElem_toArray, List.getElem_cons_succ, List.getElem_cons_zero]
  refine wpAnyH_ready (rs := [5, 15, 33]) (by kernel_rfl) (by simp) (AllReadyH.cons rfl (fun K hK => ?_) (AllReadyH.cons rfl (fun K hK => ?_) (AllReadyH.cons rfl (fun K hK => ?_) AllReadyH.nil)))
  · go_simp
    refine name_r HW2 r.name (fun w3 h3 h4 => ?_)
    have HW3 := hd h3
    have HC3 : Hid (Chg [b] w1 w3) := hd (HC2.out.trans h4 (fun q hq => .inl hq))
    have H34 := hd h4
    refine hK.out _ _ HC3.out (fun hHeld => ?_)
    clear hK K h3 h4
    try simp only [Act.put, List.setIfInBounds_toArray, List.set_cons_zero, List.set_cons_succ, List.getElem_toArray, List.getElem_cons_succ, List.getElem_cons_zero]
    have g1 : ¬ 9223372036854775807 < 4 + r.name.length := by have := HRN.out; omega
    have g2 : ¬ 9223372036854775807 < 4 + r.name.length + 3 := by have := HRN.out; omega
    refine wpAnyH_take (i := 6) (v := ?vn246) rfl (by kernel_rfl) (by kernel_rfl) (by kernel_rfl) (fun _ _ _ h => HPQ.out _ _ _ _ _ h) (Or.inl ⟨by kernel_rfl, ?hyn246⟩) (by assumption) ?rsn246
    case hyn246 => (intro w9 hSw; skip; go_simp; try with_reducible rfl)
    try simp only [Act.put, List.setIfInBounds_toArray, List.set_cons_zero, List.set_cons_succ, List.getElem_toArray, List.getElem_cons_succ, List.getElem_cons_zero]
    rw [show (⟨#[114, 111, 119, 32]⟩ : ByteArray) ++ ⟨r.name.toArray⟩ = ⟨(Pr.tRow ++ r.name).toArray⟩ from str2 _ _]
    have gz : (⟨(Pr.tRow ++ r.name).toArray⟩ : ByteArray).size = 4 + r.name.length := by rw [size_of9, List.length_append]; rfl
    refine wpAnyH_take (i := 7) (v := ?vm247) rfl (by kernel_rfl) (by kernel_rfl) (by kernel_rfl) (fun _ _ _ h => HPQ.out _ _ _ _ _ h) (Or.inl ⟨by kernel_rfl, ?hym247⟩) (by assumption) ?rsm247
    case hym247 => (intro w9 hSw; skip; go_simp; try with_reducible rfl)
    try simp only [Act.put, List.setIfInBounds_toArray, List.set_cons_zero, List.set_cons_succ, List.getElem_toArray, List.getElem_cons_succ, List.getElem_cons_zero]
    rw [show (⟨(Pr.tRow ++ r.name).toArray⟩ : ByteArray) ++ ⟨#[32, 97, 116]⟩ = ⟨(Pr.tRow ++ r.name ++ Pr.tAt).toArray⟩ from str2 _ _]
    have z := st1_24.out w3 (.string ⟨(r.name).toArray⟩) (.string ⟨(Pr.tRow ++ r.name).toArray⟩) X2 X4 (Pr.tRow ++ r.name ++ Pr.tAt) HW3 HC3 (hd ⟨rfl, by have := HRN.out; rw [List.length_append, List.length_append]; show 4 + _ + 3 ≤ _; omega⟩) (hd ⟨H34.out.blk HX2.out.1 (by simp [HX2.out.2]), HX2.out.2⟩) (hd ⟨H34.out.blk HX4.out.1 (by simp [HX4.out.2]), HX4.out.2⟩)
    rw [← HLIT.out, hA.out] at z
    try simp only [Act.put, List.setIfInBounds_toArray, List.set_cons_zero, List.set_cons_succ, List.getElem_toArray, List.getElem_cons_succ, List.getElem_cons_zero]
    exact wpAnyH_act (by kernel_rfl) z
  · go_simp
    obtain ⟨w3, hw3⟩ : ∃ W, W = w2.alloc (.cells #[.int .i64 r.x, .int .i64 r.y] 3) := ⟨_, rfl⟩
    rw [← hw3]
    obtain ⟨Y, hY⟩ : ∃ X, X = w2.heap.size := ⟨_, rfl⟩
    rw [← hY]
    have HY : Hid (Blk w3 Y [.int .i64 r.x, .int .i64 r.y] 3 ∧ Y ≠ b) := hd ⟨by rw [hw3, hY]; exact Blk.new w2 [.int .i64 r.x, .int .i64 r.y] _, by have := HW2.out.lt; omega⟩
    have C3 : Hid (Chg [] w2 w3) := hd (by rw [hw3]; exact (Chg.refl _ _).alloc _)
    have HC3 : Hid (Chg [b] w1 w3) := hd (HC2.out.trans C3.out (by simp))
    have HW3 := hd (HW2.out.quiet C3.out)
    refine hK.out _ _ HC3.out (fun hHeld => ?_)
    clear hK K hw3 hY
    have z := st0_124.out w3 Y X2 X4 HW3 HC3 HY (hd ⟨C3.out.blk HX2.out.1 (by simp), HX2.out.2⟩) (hd ⟨C3.out.blk HX4.out.1 (by simp), HX4.out.2⟩)
    rw [← HLIT.out, hA.out] at z
    try simp only [Act.put, List.setIfInBounds_toArray, List.set_cons_zero, List.set_cons_succ, List.getElem_toArray, List.getElem_cons_succ, List.getElem_cons_zero]
    exact wpAnyH_act (by kernel_rfl) z
  · go_simp
    obtain ⟨w3, hw3⟩ : ∃ W, W = w2.alloc (.cells #[.int .i64 r.t] 3) := ⟨_, rfl⟩
    rw [← hw3]
    obtain ⟨Y, hY⟩ : ∃ X, X = w2.heap.size := ⟨_, rfl⟩
    rw [← hY]
    have HY : Hid (Blk w3 Y [.int .i64 r.t] 3 ∧ Y ≠ b) := hd ⟨by rw [hw3, hY]; exact Blk.new w2 [.int .i64 r.t] _, by have := HW2.out.lt; omega⟩
    have C3 : Hid (Chg [] w2 w3) := hd (by rw [hw3]; exact (Chg.refl _ _).alloc _)
    have HC3 : Hid (Chg [b] w1 w3) := hd (HC2.out.trans C3.out (by simp))
    have HW3 := hd (HW2.out.quiet C3.out)
    refine hK.out _ _ HC3.out (fun hHeld => ?_)
    clear hK K hw3 hY
    have z := st0_234.out w3 X2 Y X4 HW3 HC3 (hd ⟨C3.out.blk HX2.out.1 (by simp), HX2.out.2⟩) HY (hd ⟨C3.out.blk HX4.out.1 (by simp), HX4.out.2⟩)
    rw [← HLIT.out, hA.out] at z
    try simp only [Act.put, List.setIfInBounds_toArray, List.set_cons_zero, List.set_cons_succ, List.getElem_toArray, List.getElem_cons_succ, List.getElem_cons_zero]
    exact wpAnyH_act (by kernel_rfl) z)
set_option maxHeartbeats 40000000 in
set_option maxRecDepth 100000 in
theorem rows0_34 {T : TypeId} {b deep : Nat} {w0 w1 : World} {bad : Bool} {out : Bytes} {v : Value} {r : Pr.Rw} {O : Array Oper} {Q0 : Exit → Act → World → Prop} {A0 : Act} (C : RowC w0 b w1 r) (hO : Hid (RowO O)) (HPQ : Hid (∀ c a d x w, Q0 (.panic c) (a.put d x) w → Q0 (.panic c) a w)) {M : Nat} {y1 y2 y3 y4 y5 y6 y7 y13 y14 y15 y23 y24 y25 y26 y32 y33 y34 y35 y41 y42 y43 y44 y50 y51 y52 y53 y54 y55 y56 y57 y58 y59 y60 y61 y62 y63 y64 y65 y66 y67 y68 y69 y70 y71 y72 y73 y74 y75 y76 y77 y78 y79 y80 y81 y82 y83 y84 y85 y86 y87 y88 y89 y90 y91 y92 y93 y94 y95 y96 y97 y98 y99 y100 y101 y102 y103 y104 y105 y106 y107 y108 y109 y110 y111 y112 y113 y114 y115 y116 : Value} (hA : Hid (A0 = RowA b M r y1 y2 y3 y4 y5 y6 y7 y13 y14 y15 y23 y24 y25 y26 y32 y33 y34 y35 y41 y42 y43 y44 y50 y51 y52 y53 y54 y55 y56 y57 y58 y59 y60 y61 y62 y63 y64 y65 y66 y67 y68 y69 y70 y71 y72 y73 y74 y75 y76 y77 y78 y79 y80 y81 y82 y83 y84 y85 y86 y87 y88 y89 y90 y91 y92 y93 y94 y95 y96 y97 y98 y99 y100 y101 y102 y103 y104 y105 y106 y107 y108 y109 y110 y111 y112 y113 y114 y115 y116)) (st1_34 : Hid (RowS1_34 T b deep w1 bad out v r O Q0 A0)) (st0_134 : Hid (RowS0_134 T b deep w1 bad out v r O Q0 A0)) (st0_234 : Hid (RowS0_234 T b deep w1 bad out v r O Q0 A0)) : Hid (RowS0_34 T b deep w1 bad out v r O Q0 A0) := hd (by
  have HL := C.HL
  have HB0 := C.HB0
  have HQ1 := C.HQ1
  have HRI := C.HRI
  have HRN := C.HRN
  clear C
  unfold RowS0_34
  have hlit := hO.out
  unfold RowO at hlit
  simp only [Tryd.f43, findR, Option.getD, if_true, if_false, Nat.reduceEqDiff] at hlit
  injection hlit with hlit
  have HLIT := hd hlit
  clear hlit hO
  intro w2 X3 X4 HW2 HC2 HX3 HX4
  rw [← HLIT.out, hA.out]
  unfold RowA
  try simp only [Act.put, List.setIfInBounds_toArray, List.set_cons_zero, List.set_cons_succ, List.getElem_toArray, List.getElem_cons_succ, List.getElem_cons_zero]
  refine wpAnyH_ready (rs := [5, 15, 24]) (by kernel_rfl) (by simp) (AllReadyH.cons rfl (fun K hK => ?_) (AllReadyH.cons rfl (fun K hK => ?_) (AllReadyH.cons rfl (fun K hK => ?_) AllReadyH.nil)))
  · go_simp
    refine name_r HW2 r.name (fun w3 h3 h4 => ?_)
    have HW3 := hd h3
    have HC3 : Hid (Chg [b] w1 w3) := hd (HC2.out.trans h4 (fun q hq => .inl hq))
    have H34 := hd h4
    refine hK.out _ _ HC3.out (fun hHeld => ?_)
    clear hK K h3 h4
    try simp only [Act.put, List.setIfInBounds_toArray, List.set_cons_zero, List.set_cons_succ, List.getElem_toArray, List.getElem_cons_succ, List.getElem_cons_zero]
    have g1 : ¬ 9223372036854775807 < 4 + r.name.length := by have := HRN.out; omega
    have g2 : ¬ 9223372036854775807 < 4 + r.name.length + 3 := by have := HRN.out; omega
    refine wpAnyH_take (i := 6) (v := ?vn346) rfl (by kernel_rfl) (by kernel_rfl) (by kernel_rfl) (fun _ _ _ h => HPQ.out _ _ _ _ _ h) (Or.inl ⟨by kernel_rfl, ?hyn346⟩) (by assumption) ?rsn346
    case hyn346 => (intro w9 hSw; skip; go_simp; try with_reducible rfl)
    try simp only [Act.put, List.setIfInBounds_toArray, List.set_cons_zero, List.set_cons_succ, List.getElem_toArray, List.getElem_cons_succ, List.getElem_cons_zero]
    rw [show (⟨#[114, 111, 119, 32]⟩ : ByteArray) ++ ⟨r.name.toArray⟩ = ⟨(Pr.tRow ++ r.name).toArray⟩ from str2 _ _]
    have gz : (⟨(Pr.tRow ++ r.name).toArray⟩ : ByteArray).size = 4 + r.name.length := by rw [size_of9, List.length_append]; rfl
    refine wpAnyH_take (i := 7) (v := ?vm347) rfl (by kernel_rfl) (by kernel_rfl) (by kernel_rfl) (fun _ _ _ h => HPQ.out _ _ _ _ _ h) (Or.inl ⟨by kernel_rfl, ?hym347⟩) (by assumption) ?rsm347
    case hym347 => (intro w9 hSw; skip; go_simp; try with_reducible rfl)
    try simp only [Act.put, List.setIfInBounds_toArray, List.set_cons_zero, List.set_cons_succ, List.getElem_toArray, List.getElem_cons_succ, List.getElem_cons_zero]
    rw [show (⟨(Pr.tRow ++ r.name).toArray⟩ : ByteArray) ++ ⟨#[32, 97, 116]⟩ = ⟨(Pr.tRow ++ r.name ++ Pr.tAt).toArray⟩ from str2 _ _]
    have z := st1_34.out w3 (.string ⟨(r.name).toArray⟩) (.string ⟨(Pr.tRow ++ r.name).toArray⟩) X3 X4 (Pr.tRow ++ r.name ++ Pr.tAt) HW3 HC3 (hd ⟨rfl, by have := HRN.out; rw [List.length_append, List.length_append]; show 4 + _ + 3 ≤ _; omega⟩) (hd ⟨H34.out.blk HX3.out.1 (by simp [HX3.out.2]), HX3.out.2⟩) (hd ⟨H34.out.blk HX4.out.1 (by simp [HX4.out.2]), HX4.out.2⟩)
    rw [← HLIT.out, hA.out] at z
    try simp only [Act.put, List.setIfInBounds_toArray, List.set_cons_zero, List.set_cons_succ, List.getElem_toArray, List.getElem_cons_succ, List.getElem_cons_zero]
    exact wpAnyH_act (by kernel_rfl) z
  · go_simp
    obtain ⟨w3, hw3⟩ : ∃ W, W = w2.alloc (.cells #[.int .i64 r.x, .int .i64 r.y] 3) := ⟨_, rfl⟩
    rw [← hw3]
    obtain ⟨Y, hY⟩ : ∃ X, X = w2.heap.size := ⟨_, rfl⟩
    rw [← hY]
    have HY : Hid (Blk w3 Y [.int .i64 r.x, .int .i64 r.y] 3 ∧ Y ≠ b) := hd ⟨by rw [hw3, hY]; exact Blk.new w2 [.int .i64 r.x, .int .i64 r.y] _, by have := HW2.out.lt; omega⟩
    have C3 : Hid (Chg [] w2 w3) := hd (by rw [hw3]; exact (Chg.refl _ _).alloc _)
    have HC3 : Hid (Chg [b] w1 w3) := hd (HC2.out.trans C3.out (by simp))
    have HW3 := hd (HW2.out.quiet C3.out)
    refine hK.out _ _ HC3.out (fun hHeld => ?_)
    clear hK K hw3 hY
    have z := st0_134.out w3 Y X3 X4 HW3 HC3 HY (hd ⟨C3.out.blk HX3.out.1 (by simp), HX3.out.2⟩) (hd ⟨C3.out.blk HX4.out.1 (by simp), HX4.out.2⟩)
    rw [← HLIT.out, hA.out] at z
    try simp only [Act.put, List.setIfInBounds_toArray, List.set_cons_zero, List.set_cons_succ, List.getElem_toArray, List.getElem_cons_succ, List.getElem_cons_zero]
    exact wpAnyH_act (by kernel_rfl) z
  · go_simp
    obtain ⟨w3, hw3⟩ : ∃ W, W = w2.alloc (.cells #[.int .i64 r.f] 3) := ⟨_, rfl⟩
    rw [← hw3]
    obtain ⟨Y, hY⟩ : ∃ X, X = w2.heap.size := ⟨_, rfl⟩
    rw [← hY]
    have HY : Hid (Blk w3 Y [.int .i64 r.f] 3 ∧ Y ≠ b) := hd ⟨by rw [hw3, hY]; exact Blk.new w2 [.int .i64 r.f] _, by have := HW2.out.lt; omega⟩
    have C3 : Hid (Chg [] w2 w3) := hd (by rw [hw3]; exact (Chg.refl _ _).alloc _)
    have HC3 : Hid (Chg [b] w1 w3) := hd (HC2.out.trans C3.out (by simp))
    have HW3 := hd (HW2.out.quiet C3.out)
    refine hK.out _ _ HC3.out (fun hHeld => ?_)
    clear hK K hw3 hY
    have z := st0_234.out w3 Y X3 X4 HW3 HC3 HY (hd ⟨C3.out.blk HX3.out.1 (by simp), HX3.out.2⟩) (hd ⟨C3.out.blk HX4.out.1 (by simp), HX4.out.2⟩)
    rw [← HLIT.out, hA.out] at z
    try simp only [Act.put, List.setIfInBounds_toArray, List.set_cons_zero, List.set_cons_succ, List.getElem_toArray, List.getElem_cons_succ, List.getElem_cons_zero]
    exact wpAnyH_act (by kernel_rfl) z)
set_option maxHeartbeats 40000000 in
set_option maxRecDepth 100000 in
theorem rows0_1 {T : TypeId} {b deep : Nat} {w0 w1 : World} {bad : Bool} {out : Bytes} {v : Value} {r : Pr.Rw} {O : Array Oper} {Q0 : Exit → Act → World → Prop} {A0 : Act} (C : RowC w0 b w1 r) (hO : Hid (RowO O)) (HPQ : Hid (∀ c a d x w, Q0 (.panic c) (a.put d x) w → Q0 (.panic c) a w)) {M : Nat} {y1 y2 y3 y4 y5 y6 y7 y13 y14 y15 y23 y24 y25 y26 y32 y33 y34 y35 y41 y42 y43 y44 y50 y51 y52 y53 y54 y55 y56 y57 y58 y59 y60 y61 y62 y63 y64 y65 y66 y67 y68 y69 y70 y71 y72 y73 y74 y75 y76 y77 y78 y79 y80 y81 y82 y83 y84 y85 y86 y87 y88 y89 y90 y91 y92 y93 y94 y95 y96 y97 y98 y99 y100 y101 y102 y103 y104 y105 y106 y107 y108 y109 y110 y111 y112 y113 y114 y115 y116 : Value} (hA : Hid (A0 = RowA b M r y1 y2 y3 y4 y5 y6 y7 y13 y14 y15 y23 y24 y25 y26 y32 y33 y34 y35 y41 y42 y43 y44 y50 y51 y52 y53 y54 y55 y56 y57 y58 y59 y60 y61 y62 y63 y64 y65 y66 y67 y68 y69 y70 y71 y72 y73 y74 y75 y76 y77 y78 y79 y80 y81 y82 y83 y84 y85 y86 y87 y88 y89 y90 y91 y92 y93 y94 y95 y96 y97 y98 y99 y100 y101 y102 y103 y104 y105 y106 y107 y108 y109 y110 y111 y112 y113 y114 y115 y116)) (st1_1 : Hid (RowS1_1 T b deep w1 bad out v r O Q0 A0)) (st0_12 : Hid (RowS0_12 T b deep w1 bad out v r O Q0 A0)) (st0_13 : Hid (RowS0_13 T b deep w1 bad out v r O Q0 A0)) (st0_14 : Hid (RowS0_14 T b deep w1 bad out v r O Q0 A0)) : Hid (RowS0_1 T b deep w1 bad out v r O Q0 A0) := hd (by
  have HL := C.HL
  have HB0 := C.HB0
  have HQ1 := C.HQ1
  have HRI := C.HRI
  have HRN := C.HRN
  clear C
  unfold RowS0_1
  have hlit := hO.out
  unfold RowO at hlit
  simp only [Tryd.f43, findR, Option.getD, if_true, if_false, Nat.reduceEqDiff] at hlit
  injection hlit with hlit
  have HLIT := hd hlit
  clear hlit hO
  intro w2 X1 HW2 HC2 HX1
  rw [← HLIT.out, hA.out]
  unfold RowA
  try simp only [Act.put, List.setIfInBounds_toArray, List.set_cons_zero, List.set_cons_succ, List.getElem_toArray, List.getElem_cons_succ, List.getElem_cons_zero]
  refine wpAnyH_ready (rs := [5, 24, 33, 42]) (by kernel_rfl) (by simp) (AllReadyH.cons rfl (fun K hK => ?_) (AllReadyH.cons rfl (fun K hK => ?_) (AllReadyH.cons rfl (fun K hK => ?_) (AllReadyH.cons rfl (fun K hK => ?_) AllReadyH.nil))))
  · go_simp
    refine name_r HW2 r.name (fun w3 h3 h4 => ?_)
    have HW3 := hd h3
    have HC3 : Hid (Chg [b] w1 w3) := hd (HC2.out.trans h4 (fun q hq => .inl hq))
    have H34 := hd h4
    refine hK.out _ _ HC3.out (fun hHeld => ?_)
    clear hK K h3 h4
    try simp only [Act.put, List.setIfInBounds_toArray, List.set_cons_zero, List.set_cons_succ, List.getElem_toArray, List.getElem_cons_succ, List.getElem_cons_zero]
    have g1 : ¬ 9223372036854775807 < 4 + r.name.length := by have := HRN.out; omega
    have g2 : ¬ 9223372036854775807 < 4 + r.name.length + 3 := by have := HRN.out; omega
    refine wpAnyH_take (i := 6) (v := ?vn16) rfl (by kernel_rfl) (by kernel_rfl) (by kernel_rfl) (fun _ _ _ h => HPQ.out _ _ _ _ _ h) (Or.inl ⟨by kernel_rfl, ?hyn16⟩) (by assumption) ?rsn16
    case hyn16 => (intro w9 hSw; skip; go_simp; try with_reducible rfl)
    try simp only [Act.put, List.setIfInBounds_toArray, List.set_cons_zero, List.set_cons_succ, List.getElem_toArray, List.getElem_cons_succ, List.getElem_cons_zero]
    rw [show (⟨#[114, 111, 119, 32]⟩ : ByteArray) ++ ⟨r.name.toArray⟩ = ⟨(Pr.tRow ++ r.name).toArray⟩ from str2 _ _]
    have gz : (⟨(Pr.tRow ++ r.name).toArray⟩ : ByteArray).size = 4 + r.name.length := by rw [size_of9, List.length_append]; rfl
    refine wpAnyH_take (i := 7) (v := ?vm17) rfl (by kernel_rfl) (by kernel_rfl) (by kernel_rfl) (fun _ _ _ h => HPQ.out _ _ _ _ _ h) (Or.inl ⟨by kernel_rfl, ?hym17⟩) (by assumption) ?rsm17
    case hym17 => (intro w9 hSw; skip; go_simp; try with_reducible rfl)
    try simp only [Act.put, List.setIfInBounds_toArray, List.set_cons_zero, List.set_cons_succ, List.getElem_toArray, List.getElem_cons_succ, List.getElem_cons_zero]
    rw [show (⟨(Pr.tRow ++ r.name).toArray⟩ : ByteArray) ++ ⟨#[32, 97, 116]⟩ = ⟨(Pr.tRow ++ r.name ++ Pr.tAt).toArray⟩ from str2 _ _]
    have z := st1_1.out w3 (.string ⟨(r.name).toArray⟩) (.string ⟨(Pr.tRow ++ r.name).toArray⟩) X1 (Pr.tRow ++ r.name ++ Pr.tAt) HW3 HC3 (hd ⟨rfl, by have := HRN.out; rw [List.length_append, List.length_append]; show 4 + _ + 3 ≤ _; omega⟩) (hd ⟨H34.out.blk HX1.out.1 (by simp [HX1.out.2]), HX1.out.2⟩)
    rw [← HLIT.out, hA.out] at z
    try simp only [Act.put, List.setIfInBounds_toArray, List.set_cons_zero, List.set_cons_succ, List.getElem_toArray, List.getElem_cons_succ, List.getElem_cons_zero]
    exact wpAnyH_act (by kernel_rfl) z
  · go_simp
    obtain ⟨w3, hw3⟩ : ∃ W, W = w2.alloc (.cells #[.int .i64 r.f] 3) := ⟨_, rfl⟩
    rw [← hw3]
    obtain ⟨Y, hY⟩ : ∃ X, X = w2.heap.size := ⟨_, rfl⟩
    rw [← hY]
    have HY : Hid (Blk w3 Y [.int .i64 r.f] 3 ∧ Y ≠ b) := hd ⟨by rw [hw3, hY]; exact Blk.new w2 [.int .i64 r.f] _, by have := HW2.out.lt; omega⟩
    have C3 : Hid (Chg [] w2 w3) := hd (by rw [hw3]; exact (Chg.refl _ _).alloc _)
    have HC3 : Hid (Chg [b] w1 w3) := hd (HC2.out.trans C3.out (by simp))
    have HW3 := hd (HW2.out.quiet C3.out)
    refine hK.out _ _ HC3.out (fun hHeld => ?_)
    clear hK K hw3 hY
    have z := st0_12.out w3 X1 Y HW3 HC3 (hd ⟨C3.out.blk HX1.out.1 (by simp), HX1.out.2⟩) HY
    rw [← HLIT.out, hA.out] at z
    try simp only [Act.put, List.setIfInBounds_toArray, List.set_cons_zero, List.set_cons_succ, List.getElem_toArray, List.getElem_cons_succ, List.getElem_cons_zero]
    exact wpAnyH_act (by kernel_rfl) z
  · go_simp
    obtain ⟨w3, hw3⟩ : ∃ W, W = w2.alloc (.cells #[.int .i64 r.t] 3) := ⟨_, rfl⟩
    rw [← hw3]
    obtain ⟨Y, hY⟩ : ∃ X, X = w2.heap.size := ⟨_, rfl⟩
    rw [← hY]
    have HY : Hid (Blk w3 Y [.int .i64 r.t] 3 ∧ Y ≠ b) := hd ⟨by rw [hw3, hY]; exact Blk.new w2 [.int .i64 r.t] _, by have := HW2.out.lt; omega⟩
    have C3 : Hid (Chg [] w2 w3) := hd (by rw [hw3]; exact (Chg.refl _ _).alloc _)
    have HC3 : Hid (Chg [b] w1 w3) := hd (HC2.out.trans C3.out (by simp))
    have HW3 := hd (HW2.out.quiet C3.out)
    refine hK.out _ _ HC3.out (fun hHeld => ?_)
    clear hK K hw3 hY
    have z := st0_13.out w3 X1 Y HW3 HC3 (hd ⟨C3.out.blk HX1.out.1 (by simp), HX1.out.2⟩) HY
    rw [← HLIT.out, hA.out] at z
    try simp only [Act.put, List.setIfInBounds_toArray, List.set_cons_zero, List.set_cons_succ, List.getElem_toArray, List.getElem_cons_succ, List.getElem_cons_zero]
    exact wpAnyH_act (by kernel_rfl) z
  · go_simp
    obtain ⟨w3, hw3⟩ : ∃ W, W = w2.alloc (.cells #[.int .i64 r.step] 3) := ⟨_, rfl⟩
    rw [← hw3]
    obtain ⟨Y, hY⟩ : ∃ X, X = w2.heap.size := ⟨_, rfl⟩
    rw [← hY]
    have HY : Hid (Blk w3 Y [.int .i64 r.step] 3 ∧ Y ≠ b) := hd ⟨by rw [hw3, hY]; exact Blk.new w2 [.int .i64 r.step] _, by have := HW2.out.lt; omega⟩
    have C3 : Hid (Chg [] w2 w3) := hd (by rw [hw3]; exact (Chg.refl _ _).alloc _)
    have HC3 : Hid (Chg [b] w1 w3) := hd (HC2.out.trans C3.out (by simp))
    have HW3 := hd (HW2.out.quiet C3.out)
    refine hK.out _ _ HC3.out (fun hHeld => ?_)
    clear hK K hw3 hY
    have z := st0_14.out w3 X1 Y HW3 HC3 (hd ⟨C3.out.blk HX1.out.1 (by simp), HX1.out.2⟩) HY
    rw [← HLIT.out, hA.out] at z
    try simp only [Act.put, List.setIfInBounds_toArray, List.set_cons_zero, List.set_cons_succ, List.getElem_toArray, List.getElem_cons_succ, List.getElem_cons_zero]
    exact wpAnyH_act (by kernel_rfl) z)
set_option maxHeartbeats 40000000 in
set_option maxRecDepth 100000 in
theorem rows0_2 {T : TypeId} {b deep : Nat} {w0 w1 : World} {bad : Bool} {out : Bytes} {v : Value} {r : Pr.Rw} {O : Array Oper} {Q0 : Exit → Act → World → Prop} {A0 : Act} (C : RowC w0 b w1 r) (hO : Hid (RowO O)) (HPQ : Hid (∀ c a d x w, Q0 (.panic c) (a.put d x) w → Q0 (.panic c) a w)) {M : Nat} {y1 y2 y3 y4 y5 y6 y7 y13 y14 y15 y23 y24 y25 y26 y32 y33 y34 y35 y41 y42 y43 y44 y50 y51 y52 y53 y54 y55 y56 y57 y58 y59 y60 y61 y62 y63 y64 y65 y66 y67 y68 y69 y70 y71 y72 y73 y74 y75 y76 y77 y78 y79 y80 y81 y82 y83 y84 y85 y86 y87 y88 y89 y90 y91 y92 y93 y94 y95 y96 y97 y98 y99 y100 y101 y102 y103 y104 y105 y106 y107 y108 y109 y110 y111 y112 y113 y114 y115 y116 : Value} (hA : Hid (A0 = RowA b M r y1 y2 y3 y4 y5 y6 y7 y13 y14 y15 y23 y24 y25 y26 y32 y33 y34 y35 y41 y42 y43 y44 y50 y51 y52 y53 y54 y55 y56 y57 y58 y59 y60 y61 y62 y63 y64 y65 y66 y67 y68 y69 y70 y71 y72 y73 y74 y75 y76 y77 y78 y79 y80 y81 y82 y83 y84 y85 y86 y87 y88 y89 y90 y91 y92 y93 y94 y95 y96 y97 y98 y99 y100 y101 y102 y103 y104 y105 y106 y107 y108 y109 y110 y111 y112 y113 y114 y115 y116)) (st1_2 : Hid (RowS1_2 T b deep w1 bad out v r O Q0 A0)) (st0_12 : Hid (RowS0_12 T b deep w1 bad out v r O Q0 A0)) (st0_23 : Hid (RowS0_23 T b deep w1 bad out v r O Q0 A0)) (st0_24 : Hid (RowS0_24 T b deep w1 bad out v r O Q0 A0)) : Hid (RowS0_2 T b deep w1 bad out v r O Q0 A0) := hd (by
  have HL := C.HL
  have HB0 := C.HB0
  have HQ1 := C.HQ1
  have HRI := C.HRI
  have HRN := C.HRN
  clear C
  unfold RowS0_2
  have hlit := hO.out
  unfold RowO at hlit
  simp only [Tryd.f43, findR, Option.getD, if_true, if_false, Nat.reduceEqDiff] at hlit
  injection hlit with hlit
  have HLIT := hd hlit
  clear hlit hO
  intro w2 X2 HW2 HC2 HX2
  rw [← HLIT.out, hA.out]
  unfold RowA
  try simp only [Act.put, List.setIfInBounds_toArray, List.set_cons_zero, List.set_cons_succ, List.getElem_toArray, List.getElem_cons_succ, List.getElem_cons_zero]
  refine wpAnyH_ready (rs := [5, 15, 33, 42]) (by kernel_rfl) (by simp) (AllReadyH.cons rfl (fun K hK => ?_) (AllReadyH.cons rfl (fun K hK => ?_) (AllReadyH.cons rfl (fun K hK => ?_) (AllReadyH.cons rfl (fun K hK => ?_) AllReadyH.nil))))
  · go_simp
    refine name_r HW2 r.name (fun w3 h3 h4 => ?_)
    have HW3 := hd h3
    have HC3 : Hid (Chg [b] w1 w3) := hd (HC2.out.trans h4 (fun q hq => .inl hq))
    have H34 := hd h4
    refine hK.out _ _ HC3.out (fun hHeld => ?_)
    clear hK K h3 h4
    try simp only [Act.put, List.setIfInBounds_toArray, List.set_cons_zero, List.set_cons_succ, List.getElem_toArray, List.getElem_cons_succ, List.getElem_cons_zero]
    have g1 : ¬ 9223372036854775807 < 4 + r.name.length := by have := HRN.out; omega
    have g2 : ¬ 9223372036854775807 < 4 + r.name.length + 3 := by have := HRN.out; omega
    refine wpAnyH_take (i := 6) (v := ?vn26) rfl (by kernel_rfl) (by kernel_rfl) (by kernel_rfl) (fun _ _ _ h => HPQ.out _ _ _ _ _ h) (Or.inl ⟨by kernel_rfl, ?hyn26⟩) (by assumption) ?rsn26
    case hyn26 => (intro w9 hSw; skip; go_simp; try with_reducible rfl)
    try simp only [Act.put, List.setIfInBounds_toArray, List.set_cons_zero, List.set_cons_succ, List.getElem_toArray, List.getElem_cons_succ, List.getElem_cons_zero]
    rw [show (⟨#[114, 111, 119, 32]⟩ : ByteArray) ++ ⟨r.name.toArray⟩ = ⟨(Pr.tRow ++ r.name).toArray⟩ from str2 _ _]
    have gz : (⟨(Pr.tRow ++ r.name).toArray⟩ : ByteArray).size = 4 + r.name.length := by rw [size_of9, List.length_append]; rfl
    refine wpAnyH_take (i := 7) (v := ?vm27) rfl (by kernel_rfl) (by kernel_rfl) (by kernel_rfl) (fun _ _ _ h => HPQ.out _ _ _ _ _ h) (Or.inl ⟨by kernel_rfl, ?hym27⟩) (by assumption) ?rsm27
    case hym27 => (intro w9 hSw; skip; go_simp; try with_reducible rfl)
    try simp only [Act.put, List.setIfInBounds_toArray, List.set_cons_zero, List.set_cons_succ, List.getElem_toArray, List.getElem_cons_succ, List.getElem_cons_zero]
    rw [show (⟨(Pr.tRow ++ r.name).toArray⟩ : ByteArray) ++ ⟨#[32, 97, 116]⟩ = ⟨(Pr.tRow ++ r.name ++ Pr.tAt).toArray⟩ from str2 _ _]
    have z := st1_2.out w3 (.string ⟨(r.name).toArray⟩) (.string ⟨(Pr.tRow ++ r.name).toArray⟩) X2 (Pr.tRow ++ r.name ++ Pr.tAt) HW3 HC3 (hd ⟨rfl, by have := HRN.out; rw [List.length_append, List.length_append]; show 4 + _ + 3 ≤ _; omega⟩) (hd ⟨H34.out.blk HX2.out.1 (by simp [HX2.out.2]), HX2.out.2⟩)
    rw [← HLIT.out, hA.out] at z
    try simp only [Act.put, List.setIfInBounds_toArray, List.set_cons_zero, List.set_cons_succ, List.getElem_toArray, List.getElem_cons_succ, List.getElem_cons_zero]
    exact wpAnyH_act (by kernel_rfl) z
  · go_simp
    obtain ⟨w3, hw3⟩ : ∃ W, W = w2.alloc (.cells #[.int .i64 r.x, .int .i64 r.y] 3) := ⟨_, rfl⟩
    rw [← hw3]
    obtain ⟨Y, hY⟩ : ∃ X, X = w2.heap.size := ⟨_, rfl⟩
    rw [← hY]
    have HY : Hid (Blk w3 Y [.int .i64 r.x, .int .i64 r.y] 3 ∧ Y ≠ b) := hd ⟨by rw [hw3, hY]; exact Blk.new w2 [.int .i64 r.x, .int .i64 r.y] _, by have := HW2.out.lt; omega⟩
    have C3 : Hid (Chg [] w2 w3) := hd (by rw [hw3]; exact (Chg.refl _ _).alloc _)
    have HC3 : Hid (Chg [b] w1 w3) := hd (HC2.out.trans C3.out (by simp))
    have HW3 := hd (HW2.out.quiet C3.out)
    refine hK.out _ _ HC3.out (fun hHeld => ?_)
    clear hK K hw3 hY
    have z := st0_12.out w3 Y X2 HW3 HC3 HY (hd ⟨C3.out.blk HX2.out.1 (by simp), HX2.out.2⟩)
    rw [← HLIT.out, hA.out] at z
    try simp only [Act.put, List.setIfInBounds_toArray, List.set_cons_zero, List.set_cons_succ, List.getElem_toArray, List.getElem_cons_succ, List.getElem_cons_zero]
    exact wpAnyH_act (by kernel_rfl) z
  · go_simp
    obtain ⟨w3, hw3⟩ : ∃ W, W = w2.alloc (.cells #[.int .i64 r.t] 3) := ⟨_, rfl⟩
    rw [← hw3]
    obtain ⟨Y, hY⟩ : ∃ X, X = w2.heap.size := ⟨_, rfl⟩
    rw [← hY]
    have HY : Hid (Blk w3 Y [.int .i64 r.t] 3 ∧ Y ≠ b) := hd ⟨by rw [hw3, hY]; exact Blk.new w2 [.int .i64 r.t] _, by have := HW2.out.lt; omega⟩
    have C3 : Hid (Chg [] w2 w3) := hd (by rw [hw3]; exact (Chg.refl _ _).alloc _)
    have HC3 : Hid (Chg [b] w1 w3) := hd (HC2.out.trans C3.out (by simp))
    have HW3 := hd (HW2.out.quiet C3.out)
    refine hK.out _ _ HC3.out (fun hHeld => ?_)
    clear hK K hw3 hY
    have z := st0_23.out w3 X2 Y HW3 HC3 (hd ⟨C3.out.blk HX2.out.1 (by simp), HX2.out.2⟩) HY
    rw [← HLIT.out, hA.out] at z
    try simp only [Act.put, List.setIfInBounds_toArray, List.set_cons_zero, List.set_cons_succ, List.getElem_toArray, List.getElem_cons_succ, List.getElem_cons_zero]
    exact wpAnyH_act (by kernel_rfl) z
  · go_simp
    obtain ⟨w3, hw3⟩ : ∃ W, W = w2.alloc (.cells #[.int .i64 r.step] 3) := ⟨_, rfl⟩
    rw [← hw3]
    obtain ⟨Y, hY⟩ : ∃ X, X = w2.heap.size := ⟨_, rfl⟩
    rw [← hY]
    have HY : Hid (Blk w3 Y [.int .i64 r.step] 3 ∧ Y ≠ b) := hd ⟨by rw [hw3, hY]; exact Blk.new w2 [.int .i64 r.step] _, by have := HW2.out.lt; omega⟩
    have C3 : Hid (Chg [] w2 w3) := hd (by rw [hw3]; exact (Chg.refl _ _).alloc _)
    have HC3 : Hid (Chg [b] w1 w3) := hd (HC2.out.trans C3.out (by simp))
    have HW3 := hd (HW2.out.quiet C3.out)
    refine hK.out _ _ HC3.out (fun hHeld => ?_)
    clear hK K hw3 hY
    have z := st0_24.out w3 X2 Y HW3 HC3 (hd ⟨C3.out.blk HX2.out.1 (by simp), HX2.out.2⟩) HY
    rw [← HLIT.out, hA.out] at z
    try simp only [Act.put, List.setIfInBounds_toArray, List.set_cons_zero, List.set_cons_succ, List.getElem_toArray, List.getElem_cons_succ, List.getElem_cons_zero]
    exact wpAnyH_act (by kernel_rfl) z)
set_option maxHeartbeats 40000000 in
set_option maxRecDepth 100000 in
theorem rows0_3 {T : TypeId} {b deep : Nat} {w0 w1 : World} {bad : Bool} {out : Bytes} {v : Value} {r : Pr.Rw} {O : Array Oper} {Q0 : Exit → Act → World → Prop} {A0 : Act} (C : RowC w0 b w1 r) (hO : Hid (RowO O)) (HPQ : Hid (∀ c a d x w, Q0 (.panic c) (a.put d x) w → Q0 (.panic c) a w)) {M : Nat} {y1 y2 y3 y4 y5 y6 y7 y13 y14 y15 y23 y24 y25 y26 y32 y33 y34 y35 y41 y42 y43 y44 y50 y51 y52 y53 y54 y55 y56 y57 y58 y59 y60 y61 y62 y63 y64 y65 y66 y67 y68 y69 y70 y71 y72 y73 y74 y75 y76 y77 y78 y79 y80 y81 y82 y83 y84 y85 y86 y87 y88 y89 y90 y91 y92 y93 y94 y95 y96 y97 y98 y99 y100 y101 y102 y103 y104 y105 y106 y107 y108 y109 y110 y111 y112 y113 y114 y115 y116 : Value} (hA : Hid (A0 = RowA b M r y1 y2 y3 y4 y5 y6 y7 y13 y14 y15 y23 y24 y25 y26 y32 y33 y34 y35 y41 y42 y43 y44 y50 y51 y52 y53 y54 y55 y56 y57 y58 y59 y60 y61 y62 y63 y64 y65 y66 y67 y68 y69 y70 y71 y72 y73 y74 y75 y76 y77 y78 y79 y80 y81 y82 y83 y84 y85 y86 y87 y88 y89 y90 y91 y92 y93 y94 y95 y96 y97 y98 y99 y100 y101 y102 y103 y104 y105 y106 y107 y108 y109 y110 y111 y112 y113 y114 y115 y116)) (st1_3 : Hid (RowS1_3 T b deep w1 bad out v r O Q0 A0)) (st0_13 : Hid (RowS0_13 T b deep w1 bad out v r O Q0 A0)) (st0_23 : Hid (RowS0_23 T b deep w1 bad out v r O Q0 A0)) (st0_34 : Hid (RowS0_34 T b deep w1 bad out v r O Q0 A0)) : Hid (RowS0_3 T b deep w1 bad out v r O Q0 A0) := hd (by
  have HL := C.HL
  have HB0 := C.HB0
  have HQ1 := C.HQ1
  have HRI := C.HRI
  have HRN := C.HRN
  clear C
  unfold RowS0_3
  have hlit := hO.out
  unfold RowO at hlit
  simp only [Tryd.f43, findR, Option.getD, if_true, if_false, Nat.reduceEqDiff] at hlit
  injection hlit with hlit
  have HLIT := hd hlit
  clear hlit hO
  intro w2 X3 HW2 HC2 HX3
  rw [← HLIT.out, hA.out]
  unfold RowA
  try simp only [Act.put, List.setIfInBounds_toArray, List.set_cons_zero, List.set_cons_succ, List.getElem_toArray, List.getElem_cons_succ, List.getElem_cons_zero]
  refine wpAnyH_ready (rs := [5, 15, 24, 42]) (by kernel_rfl) (by simp) (AllReadyH.cons rfl (fun K hK => ?_) (AllReadyH.cons rfl (fun K hK => ?_) (AllReadyH.cons rfl (fun K hK => ?_) (AllReadyH.cons rfl (fun K hK => ?_) AllReadyH.nil))))
  · go_simp
    refine name_r HW2 r.name (fun w3 h3 h4 => ?_)
    have HW3 := hd h3
    have HC3 : Hid (Chg [b] w1 w3) := hd (HC2.out.trans h4 (fun q hq => .inl hq))
    have H34 := hd h4
    refine hK.out _ _ HC3.out (fun hHeld => ?_)
    clear hK K h3 h4
    try simp only [Act.put, List.setIfInBounds_toArray, List.set_cons_zero, List.set_cons_succ, List.getElem_toArray, List.getElem_cons_succ, List.getElem_cons_zero]
    have g1 : ¬ 9223372036854775807 < 4 + r.name.length := by have := HRN.out; omega
    have g2 : ¬ 9223372036854775807 < 4 + r.name.length + 3 := by have := HRN.out; omega
    refine wpAnyH_take (i := 6) (v := ?vn36) rfl (by kernel_rfl) (by kernel_rfl) (by kernel_rfl) (fun _ _ _ h => HPQ.out _ _ _ _ _ h) (Or.inl ⟨by kernel_rfl, ?hyn36⟩) (by assumption) ?rsn36
    case hyn36 => (intro w9 hSw; skip; go_simp; try with_reducible rfl)
    try simp only [Act.put, List.setIfInBounds_toArray, List.set_cons_zero, List.set_cons_succ, List.getElem_toArray, List.getElem_cons_succ, List.getElem_cons_zero]
    rw [show (⟨#[114, 111, 119, 32]⟩ : ByteArray) ++ ⟨r.name.toArray⟩ = ⟨(Pr.tRow ++ r.name).toArray⟩ from str2 _ _]
    have gz : (⟨(Pr.tRow ++ r.name).toArray⟩ : ByteArray).size = 4 + r.name.length := by rw [size_of9, List.length_append]; rfl
    refine wpAnyH_take (i := 7) (v := ?vm37) rfl (by kernel_rfl) (by kernel_rfl) (by kernel_rfl) (fun _ _ _ h => HPQ.out _ _ _ _ _ h) (Or.inl ⟨by kernel_rfl, ?hym37⟩) (by assumption) ?rsm37
    case hym37 => (intro w9 hSw; skip; go_simp; try with_reducible rfl)
    try simp only [Act.put, List.setIfInBounds_toArray, List.set_cons_zero, List.set_cons_succ, List.getElem_toArray, List.getElem_cons_succ, List.getElem_cons_zero]
    rw [show (⟨(Pr.tRow ++ r.name).toArray⟩ : ByteArray) ++ ⟨#[32, 97, 116]⟩ = ⟨(Pr.tRow ++ r.name ++ Pr.tAt).toArray⟩ from str2 _ _]
    have z := st1_3.out w3 (.string ⟨(r.name).toArray⟩) (.string ⟨(Pr.tRow ++ r.name).toArray⟩) X3 (Pr.tRow ++ r.name ++ Pr.tAt) HW3 HC3 (hd ⟨rfl, by have := HRN.out; rw [List.length_append, List.length_append]; show 4 + _ + 3 ≤ _; omega⟩) (hd ⟨H34.out.blk HX3.out.1 (by simp [HX3.out.2]), HX3.out.2⟩)
    rw [← HLIT.out, hA.out] at z
    try simp only [Act.put, List.setIfInBounds_toArray, List.set_cons_zero, List.set_cons_succ, List.getElem_toArray, List.getElem_cons_succ, List.getElem_cons_zero]
    exact wpAnyH_act (by kernel_rfl) z
  · go_simp
    obtain ⟨w3, hw3⟩ : ∃ W, W = w2.alloc (.cells #[.int .i64 r.x, .int .i64 r.y] 3) := ⟨_, rfl⟩
    rw [← hw3]
    obtain ⟨Y, hY⟩ : ∃ X, X = w2.heap.size := ⟨_, rfl⟩
    rw [← hY]
    have HY : Hid (Blk w3 Y [.int .i64 r.x, .int .i64 r.y] 3 ∧ Y ≠ b) := hd ⟨by rw [hw3, hY]; exact Blk.new w2 [.int .i64 r.x, .int .i64 r.y] _, by have := HW2.out.lt; omega⟩
    have C3 : Hid (Chg [] w2 w3) := hd (by rw [hw3]; exact (Chg.refl _ _).alloc _)
    have HC3 : Hid (Chg [b] w1 w3) := hd (HC2.out.trans C3.out (by simp))
    have HW3 := hd (HW2.out.quiet C3.out)
    refine hK.out _ _ HC3.out (fun hHeld => ?_)
    clear hK K hw3 hY
    have z := st0_13.out w3 Y X3 HW3 HC3 HY (hd ⟨C3.out.blk HX3.out.1 (by simp), HX3.out.2⟩)
    rw [← HLIT.out, hA.out] at z
    try simp only [Act.put, List.setIfInBounds_toArray, List.set_cons_zero, List.set_cons_succ, List.getElem_toArray, List.getElem_cons_succ, List.getElem_cons_zero]
    exact wpAnyH_act (by kernel_rfl) z
  · go_simp
    obtain ⟨w3, hw3⟩ : ∃ W, W = w2.alloc (.cells #[.int .i64 r.f] 3) := ⟨_, rfl⟩
    rw [← hw3]
    obtain ⟨Y, hY⟩ : ∃ X, X = w2.heap.size := ⟨_, rfl⟩
    rw [← hY]
    have HY : Hid (Blk w3 Y [.int .i64 r.f] 3 ∧ Y ≠ b) := hd ⟨by rw [hw3, hY]; exact Blk.new w2 [.int .i64 r.f] _, by have := HW2.out.lt; omega⟩
    have C3 : Hid (Chg [] w2 w3) := hd (by rw [hw3]; exact (Chg.refl _ _).alloc _)
    have HC3 : Hid (Chg [b] w1 w3) := hd (HC2.out.trans C3.out (by simp))
    have HW3 := hd (HW2.out.quiet C3.out)
    refine hK.out _ _ HC3.out (fun hHeld => ?_)
    clear hK K hw3 hY
    have z := st0_23.out w3 Y X3 HW3 HC3 HY (hd ⟨C3.out.blk HX3.out.1 (by simp), HX3.out.2⟩)
    rw [← HLIT.out, hA.out] at z
    try simp only [Act.put, List.setIfInBounds_toArray, List.set_cons_zero, List.set_cons_succ, List.getElem_toArray, List.getElem_cons_succ, List.getElem_cons_zero]
    exact wpAnyH_act (by kernel_rfl) z
  · go_simp
    obtain ⟨w3, hw3⟩ : ∃ W, W = w2.alloc (.cells #[.int .i64 r.step] 3) := ⟨_, rfl⟩
    rw [← hw3]
    obtain ⟨Y, hY⟩ : ∃ X, X = w2.heap.size := ⟨_, rfl⟩
    rw [← hY]
    have HY : Hid (Blk w3 Y [.int .i64 r.step] 3 ∧ Y ≠ b) := hd ⟨by rw [hw3, hY]; exact Blk.new w2 [.int .i64 r.step] _, by have := HW2.out.lt; omega⟩
    have C3 : Hid (Chg [] w2 w3) := hd (by rw [hw3]; exact (Chg.refl _ _).alloc _)
    have HC3 : Hid (Chg [b] w1 w3) := hd (HC2.out.trans C3.out (by simp))
    have HW3 := hd (HW2.out.quiet C3.out)
    refine hK.out _ _ HC3.out (fun hHeld => ?_)
    clear hK K hw3 hY
    have z := st0_34.out w3 X3 Y HW3 HC3 (hd ⟨C3.out.blk HX3.out.1 (by simp), HX3.out.2⟩) HY
    rw [← HLIT.out, hA.out] at z
    try simp only [Act.put, List.setIfInBounds_toArray, List.set_cons_zero, List.set_cons_succ, List.getElem_toArray, List.getElem_cons_succ, List.getElem_cons_zero]
    exact wpAnyH_act (by kernel_rfl) z)
set_option maxHeartbeats 40000000 in
set_option maxRecDepth 100000 in
theorem rows0_4 {T : TypeId} {b deep : Nat} {w0 w1 : World} {bad : Bool} {out : Bytes} {v : Value} {r : Pr.Rw} {O : Array Oper} {Q0 : Exit → Act → World → Prop} {A0 : Act} (C : RowC w0 b w1 r) (hO : Hid (RowO O)) (HPQ : Hid (∀ c a d x w, Q0 (.panic c) (a.put d x) w → Q0 (.panic c) a w)) {M : Nat} {y1 y2 y3 y4 y5 y6 y7 y13 y14 y15 y23 y24 y25 y26 y32 y33 y34 y35 y41 y42 y43 y44 y50 y51 y52 y53 y54 y55 y56 y57 y58 y59 y60 y61 y62 y63 y64 y65 y66 y67 y68 y69 y70 y71 y72 y73 y74 y75 y76 y77 y78 y79 y80 y81 y82 y83 y84 y85 y86 y87 y88 y89 y90 y91 y92 y93 y94 y95 y96 y97 y98 y99 y100 y101 y102 y103 y104 y105 y106 y107 y108 y109 y110 y111 y112 y113 y114 y115 y116 : Value} (hA : Hid (A0 = RowA b M r y1 y2 y3 y4 y5 y6 y7 y13 y14 y15 y23 y24 y25 y26 y32 y33 y34 y35 y41 y42 y43 y44 y50 y51 y52 y53 y54 y55 y56 y57 y58 y59 y60 y61 y62 y63 y64 y65 y66 y67 y68 y69 y70 y71 y72 y73 y74 y75 y76 y77 y78 y79 y80 y81 y82 y83 y84 y85 y86 y87 y88 y89 y90 y91 y92 y93 y94 y95 y96 y97 y98 y99 y100 y101 y102 y103 y104 y105 y106 y107 y108 y109 y110 y111 y112 y113 y114 y115 y116)) (st1_4 : Hid (RowS1_4 T b deep w1 bad out v r O Q0 A0)) (st0_14 : Hid (RowS0_14 T b deep w1 bad out v r O Q0 A0)) (st0_24 : Hid (RowS0_24 T b deep w1 bad out v r O Q0 A0)) (st0_34 : Hid (RowS0_34 T b deep w1 bad out v r O Q0 A0)) : Hid (RowS0_4 T b deep w1 bad out v r O Q0 A0) := hd (by
  have HL := C.HL
  have HB0 := C.HB0
  have HQ1 := C.HQ1
  have HRI := C.HRI
  have HRN := C.HRN
  clear C
  unfold RowS0_4
  have hlit := hO.out
  unfold RowO at hlit
  simp only [Tryd.f43, findR, Option.getD, if_true, if_false, Nat.reduceEqDiff] at hlit
  injection hlit with hlit
  have HLIT := hd hlit
  clear hlit hO
  intro w2 X4 HW2 HC2 HX4
  rw [← HLIT.out, hA.out]
  unfold RowA
  try simp only [Act.put, List.setIfInBounds_toArray, List.set_cons_zero, List.set_cons_succ, List.getElem_toArray, List.getElem_cons_succ, List.getElem_cons_zero]
  refine wpAnyH_ready (rs := [5, 15, 24, 33]) (by kernel_rfl) (by simp) (AllReadyH.cons rfl (fun K hK => ?_) (AllReadyH.cons rfl (fun K hK => ?_) (AllReadyH.cons rfl (fun K hK => ?_) (AllReadyH.cons rfl (fun K hK => ?_) AllReadyH.nil))))
  · go_simp
    refine name_r HW2 r.name (fun w3 h3 h4 => ?_)
    have HW3 := hd h3
    have HC3 : Hid (Chg [b] w1 w3) := hd (HC2.out.trans h4 (fun q hq => .inl hq))
    have H34 := hd h4
    refine hK.out _ _ HC3.out (fun hHeld => ?_)
    clear hK K h3 h4
    try simp only [Act.put, List.setIfInBounds_toArray, List.set_cons_zero, List.set_cons_succ, List.getElem_toArray, List.getElem_cons_succ, List.getElem_cons_zero]
    have g1 : ¬ 9223372036854775807 < 4 + r.name.length := by have := HRN.out; omega
    have g2 : ¬ 9223372036854775807 < 4 + r.name.length + 3 := by have := HRN.out; omega
    refine wpAnyH_take (i := 6) (v := ?vn46) rfl (by kernel_rfl) (by kernel_rfl) (by kernel_rfl) (fun _ _ _ h => HPQ.out _ _ _ _ _ h) (Or.inl ⟨by kernel_rfl, ?hyn46⟩) (by assumption) ?rsn46
    case hyn46 => (intro w9 hSw; skip; go_simp; try with_reducible rfl)
    try simp only [Act.put, List.setIfInBounds_toArray, List.set_cons_zero, List.set_cons_succ, List.getElem_toArray, List.getElem_cons_succ, List.getElem_cons_zero]
    rw [show (⟨#[114, 111, 119, 32]⟩ : ByteArray) ++ ⟨r.name.toArray⟩ = ⟨(Pr.tRow ++ r.name).toArray⟩ from str2 _ _]
    have gz : (⟨(Pr.tRow ++ r.name).toArray⟩ : ByteArray).size = 4 + r.name.length := by rw [size_of9, List.length_append]; rfl
    refine wpAnyH_take (i := 7) (v := ?vm47) rfl (by kernel_rfl) (by kernel_rfl) (by kernel_rfl) (fun _ _ _ h => HPQ.out _ _ _ _ _ h) (Or.inl ⟨by kernel_rfl, ?hym47⟩) (by assumption) ?rsm47
    case hym47 => (intro w9 hSw; skip; go_simp; try with_reducible rfl)
    try simp only [Act.put, List.setIfInBounds_toArray, List.set_cons_zero, List.set_cons_succ, List.getElem_toArray, List.getElem_cons_succ, List.getElem_cons_zero]
    rw [show (⟨(Pr.tRow ++ r.name).toArray⟩ : ByteArray) ++ ⟨#[32, 97, 116]⟩ = ⟨(Pr.tRow ++ r.name ++ Pr.tAt).toArray⟩ from str2 _ _]
    have z := st1_4.out w3 (.string ⟨(r.name).toArray⟩) (.string ⟨(Pr.tRow ++ r.name).toArray⟩) X4 (Pr.tRow ++ r.name ++ Pr.tAt) HW3 HC3 (hd ⟨rfl, by have := HRN.out; rw [List.length_append, List.length_append]; show 4 + _ + 3 ≤ _; omega⟩) (hd ⟨H34.out.blk HX4.out.1 (by simp [HX4.out.2]), HX4.out.2⟩)
    rw [← HLIT.out, hA.out] at z
    try simp only [Act.put, List.setIfInBounds_toArray, List.set_cons_zero, List.set_cons_succ, List.getElem_toArray, List.getElem_cons_succ, List.getElem_cons_zero]
    exact wpAnyH_act (by kernel_rfl) z
  · go_simp
    obtain ⟨w3, hw3⟩ : ∃ W, W = w2.alloc (.cells #[.int .i64 r.x, .int .i64 r.y] 3) := ⟨_, rfl⟩
    rw [← hw3]
    obtain ⟨Y, hY⟩ : ∃ X, X = w2.heap.size := ⟨_, rfl⟩
    rw [← hY]
    have HY : Hid (Blk w3 Y [.int .i64 r.x, .int .i64 r.y] 3 ∧ Y ≠ b) := hd ⟨by rw [hw3, hY]; exact Blk.new w2 [.int .i64 r.x, .int .i64 r.y] _, by have := HW2.out.lt; omega⟩
    have C3 : Hid (Chg [] w2 w3) := hd (by rw [hw3]; exact (Chg.refl _ _).alloc _)
    have HC3 : Hid (Chg [b] w1 w3) := hd (HC2.out.trans C3.out (by simp))
    have HW3 := hd (HW2.out.quiet C3.out)
    refine hK.out _ _ HC3.out (fun hHeld => ?_)
    clear hK K hw3 hY
    have z := st0_14.out w3 Y X4 HW3 HC3 HY (hd ⟨C3.out.blk HX4.out.1 (by simp), HX4.out.2⟩)
    rw [← HLIT.out, hA.out] at z
    try simp only [Act.put, List.setIfInBounds_toArray, List.set_cons_zero, List.set_cons_succ, List.getElem_toArray, List.getElem_cons_succ, List.getElem_cons_zero]
    exact wpAnyH_act (by kernel_rfl) z
  · go_simp
    obtain ⟨w3, hw3⟩ : ∃ W, W = w2.alloc (.cells #[.int .i64 r.f] 3) := ⟨_, rfl⟩
    rw [← hw3]
    obtain ⟨Y, hY⟩ : ∃ X, X = w2.heap.size := ⟨_, rfl⟩
    rw [← hY]
    have HY : Hid (Blk w3 Y [.int .i64 r.f] 3 ∧ Y ≠ b) := hd ⟨by rw [hw3, hY]; exact Blk.new w2 [.int .i64 r.f] _, by have := HW2.out.lt; omega⟩
    have C3 : Hid (Chg [] w2 w3) := hd (by rw [hw3]; exact (Chg.refl _ _).alloc _)
    have HC3 : Hid (Chg [b] w1 w3) := hd (HC2.out.trans C3.out (by simp))
    have HW3 := hd (HW2.out.quiet C3.out)
    refine hK.out _ _ HC3.out (fun hHeld => ?_)
    clear hK K hw3 hY
    have z := st0_24.out w3 Y X4 HW3 HC3 HY (hd ⟨C3.out.blk HX4.out.1 (by simp), HX4.out.2⟩)
    rw [← HLIT.out, hA.out] at z
    try simp only [Act.put, List.setIfInBounds_toArray, List.set_cons_zero, List.set_cons_succ, List.getElem_toArray, List.getElem_cons_succ, List.getElem_cons_zero]
    exact wpAnyH_act (by kernel_rfl) z
  · go_simp
    obtain ⟨w3, hw3⟩ : ∃ W, W = w2.alloc (.cells #[.int .i64 r.t] 3) := ⟨_, rfl⟩
    rw [← hw3]
    obtain ⟨Y, hY⟩ : ∃ X, X = w2.heap.size := ⟨_, rfl⟩
    rw [← hY]
    have HY : Hid (Blk w3 Y [.int .i64 r.t] 3 ∧ Y ≠ b) := hd ⟨by rw [hw3, hY]; exact Blk.new w2 [.int .i64 r.t] _, by have := HW2.out.lt; omega⟩
    have C3 : Hid (Chg [] w2 w3) := hd (by rw [hw3]; exact (Chg.refl _ _).alloc _)
    have HC3 : Hid (Chg [b] w1 w3) := hd (HC2.out.trans C3.out (by simp))
    have HW3 := hd (HW2.out.quiet C3.out)
    refine hK.out _ _ HC3.out (fun hHeld => ?_)
    clear hK K hw3 hY
    have z := st0_34.out w3 Y X4 HW3 HC3 HY (hd ⟨C3.out.blk HX4.out.1 (by simp), HX4.out.2⟩)
    rw [← HLIT.out, hA.out] at z
    try simp only [Act.put, List.setIfInBounds_toArray, List.set_cons_zero, List.set_cons_succ, List.getElem_toArray, List.getElem_cons_succ, List.getElem_cons_zero]
    exact wpAnyH_act (by kernel_rfl) z)
set_option maxHeartbeats 40000000 in
set_option maxRecDepth 100000 in
theorem rows0_ {T : TypeId} {b deep : Nat} {w0 w1 : World} {bad : Bool} {out : Bytes} {v : Value} {r : Pr.Rw} {O : Array Oper} {Q0 : Exit → Act → World → Prop} {A0 : Act} (C : RowC w0 b w1 r) (hO : Hid (RowO O)) (HPQ : Hid (∀ c a d x w, Q0 (.panic c) (a.put d x) w → Q0 (.panic c) a w)) {M : Nat} {y1 y2 y3 y4 y5 y6 y7 y13 y14 y15 y23 y24 y25 y26 y32 y33 y34 y35 y41 y42 y43 y44 y50 y51 y52 y53 y54 y55 y56 y57 y58 y59 y60 y61 y62 y63 y64 y65 y66 y67 y68 y69 y70 y71 y72 y73 y74 y75 y76 y77 y78 y79 y80 y81 y82 y83 y84 y85 y86 y87 y88 y89 y90 y91 y92 y93 y94 y95 y96 y97 y98 y99 y100 y101 y102 y103 y104 y105 y106 y107 y108 y109 y110 y111 y112 y113 y114 y115 y116 : Value} (hA : Hid (A0 = RowA b M r y1 y2 y3 y4 y5 y6 y7 y13 y14 y15 y23 y24 y25 y26 y32 y33 y34 y35 y41 y42 y43 y44 y50 y51 y52 y53 y54 y55 y56 y57 y58 y59 y60 y61 y62 y63 y64 y65 y66 y67 y68 y69 y70 y71 y72 y73 y74 y75 y76 y77 y78 y79 y80 y81 y82 y83 y84 y85 y86 y87 y88 y89 y90 y91 y92 y93 y94 y95 y96 y97 y98 y99 y100 y101 y102 y103 y104 y105 y106 y107 y108 y109 y110 y111 y112 y113 y114 y115 y116)) (st1_ : Hid (RowS1_ T b deep w1 bad out v r O Q0 A0)) (st0_1 : Hid (RowS0_1 T b deep w1 bad out v r O Q0 A0)) (st0_2 : Hid (RowS0_2 T b deep w1 bad out v r O Q0 A0)) (st0_3 : Hid (RowS0_3 T b deep w1 bad out v r O Q0 A0)) (st0_4 : Hid (RowS0_4 T b deep w1 bad out v r O Q0 A0)) : Hid (RowS0_ T b deep w1 bad out v r O Q0 A0) := hd (by
  have HL := C.HL
  have HB0 := C.HB0
  have HQ1 := C.HQ1
  have HRI := C.HRI
  have HRN := C.HRN
  clear C
  unfold RowS0_
  have hlit := hO.out
  unfold RowO at hlit
  simp only [Tryd.f43, findR, Option.getD, if_true, if_false, Nat.reduceEqDiff] at hlit
  injection hlit with hlit
  have HLIT := hd hlit
  clear hlit hO
  intro w2 HW2 HC2
  rw [← HLIT.out, hA.out]
  unfold RowA
  try simp only [Act.put, List.setIfInBounds_toArray, List.set_cons_zero, List.set_cons_succ, List.getElem_toArray, List.getElem_cons_succ, List.getElem_cons_zero]
  refine wpAnyH_ready (rs := [5, 15, 24, 33, 42]) (by kernel_rfl) (by simp) (AllReadyH.cons rfl (fun K hK => ?_) (AllReadyH.cons rfl (fun K hK => ?_) (AllReadyH.cons rfl (fun K hK => ?_) (AllReadyH.cons rfl (fun K hK => ?_) (AllReadyH.cons rfl (fun K hK => ?_) AllReadyH.nil)))))
  · go_simp
    refine name_r HW2 r.name (fun w3 h3 h4 => ?_)
    have HW3 := hd h3
    have HC3 : Hid (Chg [b] w1 w3) := hd (HC2.out.trans h4 (fun q hq => .inl hq))
    have H34 := hd h4
    refine hK.out _ _ HC3.out (fun hHeld => ?_)
    clear hK K h3 h4
    try simp only [Act.put, List.setIfInBounds_toArray, List.set_cons_zero, List.set_cons_succ, List.getElem_toArray, List.getElem_cons_succ, List.getElem_cons_zero]
    have g1 : ¬ 9223372036854775807 < 4 + r.name.length := by have := HRN.out; omega
    have g2 : ¬ 9223372036854775807 < 4 + r.name.length + 3 := by have := HRN.out; omega
    refine wpAnyH_take (i := 6) (v := ?vn6) rfl (by kernel_rfl) (by kernel_rfl) (by kernel_rfl) (fun _ _ _ h => HPQ.out _ _ _ _ _ h) (Or.inl ⟨by kernel_rfl, ?hyn6⟩) (by assumption) ?rsn6
    case hyn6 => (intro w9 hSw; skip; go_simp; try with_reducible rfl)
    try simp only [Act.put, List.setIfInBounds_toArray, List.set_cons_zero, List.set_cons_succ, List.getElem_toArray, List.getElem_cons_succ, List.getElem_cons_zero]
    rw [show (⟨#[114, 111, 119, 32]⟩ : ByteArray) ++ ⟨r.name.toArray⟩ = ⟨(Pr.tRow ++ r.name).toArray⟩ from str2 _ _]
    have gz : (⟨(Pr.tRow ++ r.name).toArray⟩ : ByteArray).size = 4 + r.name.length := by rw [size_of9, List.length_append]; rfl
    refine wpAnyH_take (i := 7) (v := ?vm7) rfl (by kernel_rfl) (by kernel_rfl) (by kernel_rfl) (fun _ _ _ h => HPQ.out _ _ _ _ _ h) (Or.inl ⟨by kernel_rfl, ?hym7⟩) (by assumption) ?rsm7
    case hym7 => (intro w9 hSw; skip; go_simp; try with_reducible rfl)
    try simp only [Act.put, List.setIfInBounds_toArray, List.set_cons_zero, List.set_cons_succ, List.getElem_toArray, List.getElem_cons_succ, List.getElem_cons_zero]
    rw [show (⟨(Pr.tRow ++ r.name).toArray⟩ : ByteArray) ++ ⟨#[32, 97, 116]⟩ = ⟨(Pr.tRow ++ r.name ++ Pr.tAt).toArray⟩ from str2 _ _]
    have z := st1_.out w3 (.string ⟨(r.name).toArray⟩) (.string ⟨(Pr.tRow ++ r.name).toArray⟩) (Pr.tRow ++ r.name ++ Pr.tAt) HW3 HC3 (hd ⟨rfl, by have := HRN.out; rw [List.length_append, List.length_append]; show 4 + _ + 3 ≤ _; omega⟩)
    rw [← HLIT.out, hA.out] at z
    try simp only [Act.put, List.setIfInBounds_toArray, List.set_cons_zero, List.set_cons_succ, List.getElem_toArray, List.getElem_cons_succ, List.getElem_cons_zero]
    exact wpAnyH_act (by kernel_rfl) z
  · go_simp
    obtain ⟨w3, hw3⟩ : ∃ W, W = w2.alloc (.cells #[.int .i64 r.x, .int .i64 r.y] 3) := ⟨_, rfl⟩
    rw [← hw3]
    obtain ⟨Y, hY⟩ : ∃ X, X = w2.heap.size := ⟨_, rfl⟩
    rw [← hY]
    have HY : Hid (Blk w3 Y [.int .i64 r.x, .int .i64 r.y] 3 ∧ Y ≠ b) := hd ⟨by rw [hw3, hY]; exact Blk.new w2 [.int .i64 r.x, .int .i64 r.y] _, by have := HW2.out.lt; omega⟩
    have C3 : Hid (Chg [] w2 w3) := hd (by rw [hw3]; exact (Chg.refl _ _).alloc _)
    have HC3 : Hid (Chg [b] w1 w3) := hd (HC2.out.trans C3.out (by simp))
    have HW3 := hd (HW2.out.quiet C3.out)
    refine hK.out _ _ HC3.out (fun hHeld => ?_)
    clear hK K hw3 hY
    have z := st0_1.out w3 Y HW3 HC3 HY
    rw [← HLIT.out, hA.out] at z
    try simp only [Act.put, List.setIfInBounds_toArray, List.set_cons_zero, List.set_cons_succ, List.getElem_toArray, List.getElem_cons_succ, List.getElem_cons_zero]
    exact wpAnyH_act (by kernel_rfl) z
  · go_simp
    obtain ⟨w3, hw3⟩ : ∃ W, W = w2.alloc (.cells #[.int .i64 r.f] 3) := ⟨_, rfl⟩
    rw [← hw3]
    obtain ⟨Y, hY⟩ : ∃ X, X = w2.heap.size := ⟨_, rfl⟩
    rw [← hY]
    have HY : Hid (Blk w3 Y [.int .i64 r.f] 3 ∧ Y ≠ b) := hd ⟨by rw [hw3, hY]; exact Blk.new w2 [.int .i64 r.f] _, by have := HW2.out.lt; omega⟩
    have C3 : Hid (Chg [] w2 w3) := hd (by rw [hw3]; exact (Chg.refl _ _).alloc _)
    have HC3 : Hid (Chg [b] w1 w3) := hd (HC2.out.trans C3.out (by simp))
    have HW3 := hd (HW2.out.quiet C3.out)
    refine hK.out _ _ HC3.out (fun hHeld => ?_)
    clear hK K hw3 hY
    have z := st0_2.out w3 Y HW3 HC3 HY
    rw [← HLIT.out, hA.out] at z
    try simp only [Act.put, List.setIfInBounds_toArray, List.set_cons_zero, List.set_cons_succ, List.getElem_toArray, List.getElem_cons_succ, List.getElem_cons_zero]
    exact wpAnyH_act (by kernel_rfl) z
  · go_simp
    obtain ⟨w3, hw3⟩ : ∃ W, W = w2.alloc (.cells #[.int .i64 r.t] 3) := ⟨_, rfl⟩
    rw [← hw3]
    obtain ⟨Y, hY⟩ : ∃ X, X = w2.heap.size := ⟨_, rfl⟩
    rw [← hY]
    have HY : Hid (Blk w3 Y [.int .i64 r.t] 3 ∧ Y ≠ b) := hd ⟨by rw [hw3, hY]; exact Blk.new w2 [.int .i64 r.t] _, by have := HW2.out.lt; omega⟩
    have C3 : Hid (Chg [] w2 w3) := hd (by rw [hw3]; exact (Chg.refl _ _).alloc _)
    have HC3 : Hid (Chg [b] w1 w3) := hd (HC2.out.trans C3.out (by simp))
    have HW3 := hd (HW2.out.quiet C3.out)
    refine hK.out _ _ HC3.out (fun hHeld => ?_)
    clear hK K hw3 hY
    have z := st0_3.out w3 Y HW3 HC3 HY
    rw [← HLIT.out, hA.out] at z
    try simp only [Act.put, List.setIfInBounds_toArray, List.set_cons_zero, List.set_cons_succ, List.getElem_toArray, List.getElem_cons_succ, List.getElem_cons_zero]
    exact wpAnyH_act (by kernel_rfl) z
  · go_simp
    obtain ⟨w3, hw3⟩ : ∃ W, W = w2.alloc (.cells #[.int .i64 r.step] 3) := ⟨_, rfl⟩
    rw [← hw3]
    obtain ⟨Y, hY⟩ : ∃ X, X = w2.heap.size := ⟨_, rfl⟩
    rw [← hY]
    have HY : Hid (Blk w3 Y [.int .i64 r.step] 3 ∧ Y ≠ b) := hd ⟨by rw [hw3, hY]; exact Blk.new w2 [.int .i64 r.step] _, by have := HW2.out.lt; omega⟩
    have C3 : Hid (Chg [] w2 w3) := hd (by rw [hw3]; exact (Chg.refl _ _).alloc _)
    have HC3 : Hid (Chg [b] w1 w3) := hd (HC2.out.trans C3.out (by simp))
    have HW3 := hd (HW2.out.quiet C3.out)
    refine hK.out _ _ HC3.out (fun hHeld => ?_)
    clear hK K hw3 hY
    have z := st0_4.out w3 Y HW3 HC3 HY
    rw [← HLIT.out, hA.out] at z
    try simp only [Act.put, List.setIfInBounds_toArray, List.set_cons_zero, List.set_cons_succ, List.getElem_toArray, List.getElem_cons_succ, List.getElem_cons_zero]
    exact wpAnyH_act (by kernel_rfl) z)
end Go.Proofs.YtgbooiaedbpenaaDoor
