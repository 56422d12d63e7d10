/-
  PrTp, PrTq in one text.
-/
import Derived.Test.YtgbooiaedbpenaaDoorPrTk
import Derived.Test.YtgbooiaedbpenaaDoorPrTn
import Derived.Test.YtgbooiaedbpenaaDoorPrTf
import Derived.Test.YtgbooiaedbpenaaDoorPrTo
import Derived.Test.YtgbooiaedbpenaaDoorPrTi
namespace Go.Proofs.YtgbooiaedbpenaaDoor
set_option linter.unusedVariables false
set_option linter.unusedSimpArgs false
open Go Go.RowKit Go.Shelf
attribute [local irreducible] Go.wpStill
set_option maxHeartbeats 8000000 in
set_option maxRecDepth 100000 in
theorem rule8_r {w : World} (x : Pr.Itm) (ao : Option Addr) (cap n : Nat) (HPA : Hid (Pr.partsOk x)) (bn9 : x.name.length ≤ 1000) {R : Ending → World → Prop} (h : ∀ w', Chg [] w w' → (Pr.wordsS x).length ≤ 1300 → R (.returned (.string ⟨(Pr.wordsS x).toArray⟩)) w') :
 Calls Tryd.prog 34 #[.agg #[.int .i64 x.kind, .string ⟨x.name.toArray⟩, .slice ao n cap, .int .i64 x.n, .int .i64 x.r.1, .int .i64 x.r.2, .int .i64 x.s.1, .int .i64 x.s.2, .int .i64 x.at_]] w R := by
 obtain ⟨kd, nm, whn, nn, ⟨r1, r2⟩, ⟨s1, s2⟩, pos⟩ := x
 show Calls Tryd.prog 34 #[.agg #[.int .i64 kd, .string ⟨nm.toArray⟩, .slice ao n cap, .int .i64 nn, .int .i64 r1, .int .i64 r2, .int .i64 s1, .int .i64 s2, .int .i64 pos]] w R
 have bn : nm.length ≤ 1000 := bn9
 clear bn9
 obtain ⟨tx, htx⟩ : ∃ z, z = Pr.wordsS ⟨kd, nm, whn, nn, (r1, r2), (s1, s2), pos⟩ := ⟨_, rfl⟩
 rw [← htx] at h
 have HRR := hd h
 clear h
 have HTX := hd htx
 clear htx
 have HNU : Hid (Pr.numsOk [nn] = true ∧ Pr.ratioOk (r1, r2) = true ∧ Pr.ratioOk (s1, s2) = true) := hd (by have h9 := HPA.out.2.2.1; simp only [Pr.numsOk, Pr.ratioOk, List.all_cons, List.all_nil, Bool.and_true, Bool.and_eq_true] at h9 ⊢; exact ⟨h9.1, ⟨h9.2.1, h9.2.2.1⟩, h9.2.2.2.1, h9.2.2.2.2⟩)
 have HL8 : Hid (∀ a b : Int, Pr.ratioOk (a, b) = true → (Lib.itoa a ++ [47] ++ Lib.itoa b).length ≤ 43) := hd (fun a b h => by
  simp only [Pr.ratioOk, Pr.numsOk, List.all_cons, List.all_nil, Bool.and_true, Bool.and_eq_true] at h
  have h1 := itoa8_len h.1
  have h2 := itoa8_len h.2
  simp only [List.length_append, List.length_cons, List.length_nil]
  omega)
 have HK7 : Hid (1 ≤ kd ∧ kd ≤ 7) := hd HPA.out.1
 clear HPA
 go_enter Tryd.func34, Tryd.ntmps34
 go_upto_region 1 with (fail)
 obtain ⟨w1, hw⟩ : ∃ W, W = w.alloc (.cells #[.int .i64 kd, .string ⟨nm.toArray⟩, .slice ao n cap, .int .i64 nn, .int .i64 r1, .int .i64 r2, .int .i64 s1, .int .i64 s2, .int .i64 pos] 60) := ⟨_, rfl⟩
 rw [← hw]
 obtain ⟨G, hX⟩ : ∃ X, X = w.heap.size := ⟨_, rfl⟩
 rw [← hX]
 have HG : Hid (Blk w1 G [.int .i64 kd, .string ⟨nm.toArray⟩, .slice ao n cap, .int .i64 nn, .int .i64 r1, .int .i64 r2, .int .i64 s1, .int .i64 s2, .int .i64 pos] 60) := hd (by rw [hw, hX]; exact Blk.new w [.int .i64 kd, .string ⟨nm.toArray⟩, .slice ao n cap, .int .i64 nn, .int .i64 r1, .int .i64 r2, .int .i64 s1, .int .i64 s2, .int .i64 pos] _)
 have C1 : Hid (Chg [] w w1) := hd (by rw [hw]; exact (Chg.refl _ _).alloc _)
 clear hw hX
 go_upto_region 2 with (fail)
 obtain ⟨w2, hw⟩ : ∃ W, W = w1.alloc (.cells #[.int .i64 0, .int .i64 1] 58) := ⟨_, rfl⟩
 rw [← hw]
 obtain ⟨Z, hX⟩ : ∃ X, X = w1.heap.size := ⟨_, rfl⟩
 rw [← hX]
 have HZ : Hid (Blk w2 Z [.int .i64 0, .int .i64 1] 58) := hd (by rw [hw, hX]; exact Blk.new w1 [.int .i64 0, .int .i64 1] _)
 have C2 : Hid (Chg [] w1 w2) := hd (by rw [hw]; exact (Chg.refl _ _).alloc _)
 clear hw hX
 have C12 : Hid (Chg [] w w2) := hd (C1.out.trans C2.out (by simp))
 have HG2 := hd (C2.out.blk HG.out (by simp))
 have g0 := HG2.out.cell (i := 0) rfl
 have g1 := HG2.out.cell (i := 1) rfl
 obtain h1 | h2 | h3 | h4 | h5 | h6 | h7 : kd = 1 ∨ kd = 2 ∨ kd = 3 ∨ kd = 4 ∨ kd = 5 ∨ kd = 6 ∨ kd = 7 := by have := HK7.out; omega
 · skip
   subst h1
   clear HK7
   have y1 : ¬ 9223372036854775807 < 6 + nm.length := by omega
   obtain ⟨d1, hd1⟩ : ∃ z, z = ([97, 108, 108, 111, 119, 32] : Bytes) ++ nm := ⟨_, rfl⟩
   have Hd1 := hd hd1
   have ld1 : d1.length ≤ 1010 := by rw [hd1]; simp only [List.length_append, List.length_cons, List.length_nil]; omega
   clear hd1
   have g3 := HG2.out.cell (i := 3) rfl
   go_upto_region 5 with (fail)
   rw [show (⟨#[97, 108, 108, 111, 119, 32]⟩ : ByteArray) ++ ⟨nm.toArray⟩ = ⟨d1.toArray⟩ from by rw [Hd1.out]; exact str2 _ _]
   clear y1
   by_cases hn : nn = 0
   · skip
     subst hn
     go_wp2_with fail
     have HF : Hid (tx = d1) := hd (by rw [HTX.out, Hd1.out]; simp [Pr.wordsS, Pr.kindW])
     have h9 := HRR.out w2 (C12.out) (by rw [HF.out]; omega)
     rw [HF.out] at h9
     exact h9
   have ne : (nn == 0) = false := by rw [beq_eq_false_iff_ne]; exact hn
   have nf : (nn != 0) = true := by simp [hn]
   have HNZ := hd hn
   go_wp2_with fail
   refine words8_r Pr.tLimit (by decide) [nn] 1 ⟨rfl, by decide⟩ (hd HNU.out.1) (hd (Blk.new w2 [.int .i64 nn] 3)) ?_
   obtain ⟨w3, hw⟩ : ∃ W, W = w2.alloc (.cells #[.int .i64 nn] 3) := ⟨_, rfl⟩
   rw [← hw]
   have C3 : Hid (Chg [] w2 w3) := hd (by rw [hw]; exact (Chg.refl _ _).alloc _)
   clear hw
   have lq := nums1_len HNU.out.1
   obtain ⟨q, hq⟩ : ∃ z, z = Pr.tLimit ++ Pr.nums [nn] := ⟨_, rfl⟩
   have lq' : q.length ≤ 40 := by rw [hq, List.length_append]; show 6 + _ ≤ _; omega
   have Hq := hd hq
   rw [← hq]
   clear hq lq
   have y2 : ¬ 9223372036854775807 < d1.length + q.length := by omega
   obtain ⟨d2, hd2⟩ : ∃ z, z = d1 ++ q := ⟨_, rfl⟩
   have Hd2 := hd hd2
   have ld2 : d2.length ≤ 1100 := by rw [hd2]; simp only [List.length_append, List.length_cons, List.length_nil]; omega
   clear hd2
   go_wp2_with fail
   rw [show (⟨d1.toArray⟩ : ByteArray) ++ ⟨q.toArray⟩ = ⟨d2.toArray⟩ from by rw [Hd2.out]; exact str2 _ _]
   have HF : Hid (tx = d2) := hd (by rw [HTX.out, Hd2.out, Hd1.out, Hq.out]; simp [Pr.wordsS, Pr.kindW, HNZ.out])
   have h9 := HRR.out w3 (C12.out.trans C3.out (by simp)) (by rw [HF.out]; omega)
   rw [HF.out] at h9
   exact h9
 · skip
   subst h2
   clear HK7
   have y1 : ¬ 9223372036854775807 < 5 + nm.length := by omega
   obtain ⟨d1, hd1⟩ : ∃ z, z = ([100, 101, 110, 121, 32] : Bytes) ++ nm := ⟨_, rfl⟩
   have Hd1 := hd hd1
   have ld1 : d1.length ≤ 1010 := by rw [hd1]; simp only [List.length_append, List.length_cons, List.length_nil]; omega
   clear hd1
   go_wp2_with fail
   rw [show (⟨#[100, 101, 110, 121, 32]⟩ : ByteArray) ++ ⟨nm.toArray⟩ = ⟨d1.toArray⟩ from by rw [Hd1.out]; exact str2 _ _]
   have HF : Hid (tx = d1) := hd (by rw [HTX.out, Hd1.out]; simp [Pr.wordsS, Pr.kindW])
   have h9 := HRR.out w2 (C12.out) (by rw [HF.out]; omega)
   rw [HF.out] at h9
   exact h9
 · skip
   subst h3
   clear HK7
   have y1 : ¬ 9223372036854775807 < 6 + nm.length := by omega
   obtain ⟨d1, hd1⟩ : ∃ z, z = ([112, 114, 105, 99, 101, 32] : Bytes) ++ nm := ⟨_, rfl⟩
   have Hd1 := hd hd1
   have ld1 : d1.length ≤ 1010 := by rw [hd1]; simp only [List.length_append, List.length_cons, List.length_nil]; omega
   clear hd1
   have g3 := HG2.out.cell (i := 3) rfl
   go_wp2_with fail
   rw [show (⟨#[112, 114, 105, 99, 101, 32]⟩ : ByteArray) ++ ⟨nm.toArray⟩ = ⟨d1.toArray⟩ from by rw [Hd1.out]; exact str2 _ _]
   refine words8_r d1 (by omega) [nn] 1 ⟨rfl, by decide⟩ (hd HNU.out.1) (hd (Blk.new w2 [.int .i64 nn] 3)) ?_
   obtain ⟨w3, hw⟩ : ∃ W, W = w2.alloc (.cells #[.int .i64 nn] 3) := ⟨_, rfl⟩
   rw [← hw]
   have C3 : Hid (Chg [] w2 w3) := hd (by rw [hw]; exact (Chg.refl _ _).alloc _)
   clear hw
   have lq := nums1_len HNU.out.1
   obtain ⟨b0, hb0⟩ : ∃ z, z = d1 ++ Pr.nums [nn] := ⟨_, rfl⟩
   have lb0 : b0.length ≤ 1050 := by rw [hb0, List.length_append]; omega
   have Hb0 := hd hb0
   rw [← hb0]
   clear hb0 lq
   have HG3 := hd (C3.out.blk HG2.out (by simp))
   have HZ3 := hd (C3.out.blk HZ.out (by simp))
   clear g0 g1 g3 y1
   go_upto_region 12 with (fail)
   have g4 := HG3.out.cell (i := 4) rfl
   have g5 := HG3.out.cell (i := 5) rfl
   have z0 := HZ3.out.cell (i := 0) rfl
   have z1 := HZ3.out.cell (i := 1) rfl
   obtain ⟨qr, hqr⟩ : ∃ z, z = decide (r1 = 0 ∧ r2 = 1) := ⟨_, rfl⟩
   have HQr := hd hqr
   clear hqr
   go_cut [41] (fun s wx => wx = w3 ∧ s = .bool (!qr))
   case first =>
    by_cases hr1 : r1 = 0
    · skip
      subst hr1
      by_cases hr2 : r2 = 1
      · skip
        subst hr2
        have HE : Hid (qr = true) := hd (by rw [HQr.out]; exact decide_eq_true ⟨rfl, rfl⟩)
        go_wp2_with fail
        go_meet
        exact ⟨rfl, by rw [HE.out]; rfl⟩
      · skip
        have r2' : ¬ 1 = r2 := fun e => hr2 e.symm
        have r21' : ((1 : Int) == r2) = false := by rw [beq_eq_false_iff_ne]; exact r2'
        have r22' : (r2 == (1 : Int)) = false := by rw [beq_eq_false_iff_ne]; exact hr2
        have HNE := hd hr2
        have HE : Hid (qr = false) := hd (by rw [HQr.out]; exact decide_eq_false (fun h => HNE.out h.2))
        go_wp2_with fail
        go_meet
        exact ⟨rfl, by rw [HE.out]; rfl⟩
    · skip
      have r1' : ¬ 0 = r1 := fun e => hr1 e.symm
      have r11' : ((0 : Int) == r1) = false := by rw [beq_eq_false_iff_ne]; exact r1'
      have r12' : (r1 == (0 : Int)) = false := by rw [beq_eq_false_iff_ne]; exact hr1
      have HNE := hd hr1
      have HE : Hid (qr = false) := hd (by rw [HQr.out]; exact decide_eq_false (fun h => HNE.out h.1))
      go_wp2_with fail
      go_meet
      exact ⟨rfl, by rw [HE.out]; rfl⟩
   case rest =>
    obtain ⟨hw, hs⟩ := hcut
    subst hs
    rw [hw]
    clear g4 g5 z0 z1 hw
    obtain ⟨b1, hb1⟩ : ∃ z, z = b0 ++ Pr.partS Pr.tFee (r1, r2) := ⟨_, rfl⟩
    have Hb1 := hd hb1
    clear hb1
    go_upto_if 41 with (fail)
    go_cut [5] (fun s wx => s = .string ⟨b1.toArray⟩ ∧ Hid (Chg [] w3 wx) ∧ b1.length ≤ b0.length + 60)
    case first =>
     cases qr with
     | true =>
      have HF : Hid (b1 = b0) := hd (by have h9 := of_decide_eq_true HQr.out.symm; rw [Hb1.out, h9.1, h9.2]; simp [Pr.partS])
      go_wp2_with fail
      go_meet
      exact ⟨by rw [HF.out], hd (Chg.refl _ _), by rw [HF.out]; omega⟩
     | false =>
      have HNE : Hid (¬ (r1 = 0 ∧ r2 = 1)) := hd (of_decide_eq_false HQr.out.symm)
      have g4 := HG3.out.cell (i := 4) rfl
      have g5 := HG3.out.cell (i := 5) rfl
      go_wp2_with fail
      refine ratio8_r (r1, r2) (hd HNU.out.2.1) (fun w5 h5 => ?_)
      have H5 := hd h5
      clear h5 g4 g5
      have lr := HL8.out r1 r2 HNU.out.2.1
      obtain ⟨rs, hrs⟩ : ∃ z, z = Lib.itoa r1 ++ [47] ++ Lib.itoa r2 := ⟨_, rfl⟩
      rw [show Lib.itoa ((r1, r2) : Int × Int).1 ++ [47] ++ Lib.itoa ((r1, r2) : Int × Int).2 = rs from hrs.symm]
      rw [← hrs] at lr
      have Hrs := hd hrs
      clear hrs
      have y5 : ¬ 9223372036854775807 < 5 + rs.length := by omega
      obtain ⟨u1, hu1⟩ : ∃ z, z = ([32, 102, 101, 101, 32] : Bytes) ++ rs := ⟨_, rfl⟩
      have Hu1 := hd hu1
      have lu1 : u1.length ≤ 60 := by rw [hu1]; simp only [List.length_append, List.length_cons, List.length_nil]; omega
      clear hu1
      have y6 : ¬ 9223372036854775807 < b0.length + u1.length := by omega
      have y7 : ¬ 9223372036854775807 < b0.length + (5 + rs.length) := by omega
      have HF : Hid (b1 = b0 ++ u1) := hd (by rw [Hb1.out, Hu1.out, Hrs.out]; unfold Pr.partS; rw [if_neg (fun h => HNE.out ⟨congrArg Prod.fst h, congrArg Prod.snd h⟩)]; simp [Pr.ratioS, Pr.nums, Pr.tFee])
      go_wp2_with fail
      go_meet
      exact ⟨by rw [HF.out, show (⟨#[32, 102, 101, 101, 32]⟩ : ByteArray) ++ ⟨rs.toArray⟩ = ⟨u1.toArray⟩ from by rw [Hu1.out]; exact str2 _ _, str2], H5, by rw [HF.out, List.length_append]; omega⟩
    case rest =>
     obtain ⟨hs, Cw4, lb1⟩ := hcut
     subst hs
     rename World => w4
     have HG3b := hd (Cw4.out.blk HG3.out (by simp))
     have HZ3b := hd (Cw4.out.blk HZ3.out (by simp))
     go_upto_region 14 with (fail)
     have g6 := HG3b.out.cell (i := 6) rfl
     have g7 := HG3b.out.cell (i := 7) rfl
     have z0 := HZ3b.out.cell (i := 0) rfl
     have z1 := HZ3b.out.cell (i := 1) rfl
     obtain ⟨qs, hqs⟩ : ∃ z, z = decide (s1 = 0 ∧ s2 = 1) := ⟨_, rfl⟩
     have HQs := hd hqs
     clear hqs
     go_cut [51] (fun s wx => wx = w4 ∧ s = .bool (!qs))
     case first =>
      by_cases hs1 : s1 = 0
      · skip
        subst hs1
        by_cases hs2 : s2 = 1
        · skip
          subst hs2
          have HE : Hid (qs = true) := hd (by rw [HQs.out]; exact decide_eq_true ⟨rfl, rfl⟩)
          go_wp2_with fail
          go_meet
          exact ⟨rfl, by rw [HE.out]; rfl⟩
        · skip
          have s2' : ¬ 1 = s2 := fun e => hs2 e.symm
          have s21' : ((1 : Int) == s2) = false := by rw [beq_eq_false_iff_ne]; exact s2'
          have s22' : (s2 == (1 : Int)) = false := by rw [beq_eq_false_iff_ne]; exact hs2
          have HNE := hd hs2
          have HE : Hid (qs = false) := hd (by rw [HQs.out]; exact decide_eq_false (fun h => HNE.out h.2))
          go_wp2_with fail
          go_meet
          exact ⟨rfl, by rw [HE.out]; rfl⟩
      · skip
        have s1' : ¬ 0 = s1 := fun e => hs1 e.symm
        have s11' : ((0 : Int) == s1) = false := by rw [beq_eq_false_iff_ne]; exact s1'
        have s12' : (s1 == (0 : Int)) = false := by rw [beq_eq_false_iff_ne]; exact hs1
        have HNE := hd hs1
        have HE : Hid (qs = false) := hd (by rw [HQs.out]; exact decide_eq_false (fun h => HNE.out h.1))
        go_wp2_with fail
        go_meet
        exact ⟨rfl, by rw [HE.out]; rfl⟩
     case rest =>
      obtain ⟨hw, hs⟩ := hcut
      subst hs
      rw [hw]
      clear g6 g7 z0 z1 hw
      obtain ⟨b2, hb2⟩ : ∃ z, z = b1 ++ Pr.partS Pr.tTax (s1, s2) := ⟨_, rfl⟩
      have Hb2 := hd hb2
      clear hb2
      go_upto_if 51 with (fail)
      go_cut [5] (fun s wx => s = .string ⟨b2.toArray⟩ ∧ Hid (Chg [] w4 wx) ∧ b2.length ≤ b1.length + 60)
      case first =>
       cases qs with
       | true =>
        have HF : Hid (b2 = b1) := hd (by have h9 := of_decide_eq_true HQs.out.symm; rw [Hb2.out, h9.1, h9.2]; simp [Pr.partS])
        go_wp2_with fail
        go_meet
        exact ⟨by rw [HF.out], hd (Chg.refl _ _), by rw [HF.out]; omega⟩
       | false =>
        have HNE : Hid (¬ (s1 = 0 ∧ s2 = 1)) := hd (of_decide_eq_false HQs.out.symm)
        have g6 := HG3b.out.cell (i := 6) rfl
        have g7 := HG3b.out.cell (i := 7) rfl
        go_wp2_with fail
        refine ratio8_r (s1, s2) (hd HNU.out.2.2) (fun w5 h5 => ?_)
        have H5 := hd h5
        clear h5 g6 g7
        have lr := HL8.out s1 s2 HNU.out.2.2
        obtain ⟨rs, hrs⟩ : ∃ z, z = Lib.itoa s1 ++ [47] ++ Lib.itoa s2 := ⟨_, rfl⟩
        rw [show Lib.itoa ((s1, s2) : Int × Int).1 ++ [47] ++ Lib.itoa ((s1, s2) : Int × Int).2 = rs from hrs.symm]
        rw [← hrs] at lr
        have Hrs := hd hrs
        clear hrs
        have y5 : ¬ 9223372036854775807 < 5 + rs.length := by omega
        obtain ⟨u1, hu1⟩ : ∃ z, z = ([32, 116, 97, 120, 32] : Bytes) ++ rs := ⟨_, rfl⟩
        have Hu1 := hd hu1
        have lu1 : u1.length ≤ 60 := by rw [hu1]; simp only [List.length_append, List.length_cons, List.length_nil]; omega
        clear hu1
        have y6 : ¬ 9223372036854775807 < b1.length + u1.length := by omega
        have y7 : ¬ 9223372036854775807 < b1.length + (5 + rs.length) := by omega
        have HF : Hid (b2 = b1 ++ u1) := hd (by rw [Hb2.out, Hu1.out, Hrs.out]; unfold Pr.partS; rw [if_neg (fun h => HNE.out ⟨congrArg Prod.fst h, congrArg Prod.snd h⟩)]; simp [Pr.ratioS, Pr.nums, Pr.tTax])
        go_wp2_with fail
        go_meet
        exact ⟨by rw [HF.out, show (⟨#[32, 116, 97, 120, 32]⟩ : ByteArray) ++ ⟨rs.toArray⟩ = ⟨u1.toArray⟩ from by rw [Hu1.out]; exact str2 _ _, str2], H5, by rw [HF.out, List.length_append]; omega⟩
      case rest =>
       obtain ⟨hs, Cw5, lb2⟩ := hcut
       subst hs
       rename World => w5
       go_wp2_with fail
       have HF : Hid (tx = b2) := hd (by rw [HTX.out, Hb2.out, Hb1.out, Hb0.out, Hd1.out]; simp [Pr.wordsS, Pr.kindW])
       have h9 := HRR.out w5 (((C12.out.trans C3.out (by simp)).trans Cw4.out (by simp)).trans Cw5.out (by simp)) (by rw [HF.out]; omega)
       rw [HF.out] at h9
       exact h9
 · skip
   subst h4
   clear HK7
   have y1 : ¬ 9223372036854775807 < 7 + nm.length := by omega
   obtain ⟨d1, hd1⟩ : ∃ z, z = ([114, 101, 115, 97, 108, 101, 32] : Bytes) ++ nm := ⟨_, rfl⟩
   have Hd1 := hd hd1
   have ld1 : d1.length ≤ 1010 := by rw [hd1]; simp only [List.length_append, List.length_cons, List.length_nil]; omega
   clear hd1
   go_upto_region 18 with (fail)
   refine wp_region_held_drew (S := fun W' => Chg [] w2 W') (by kernel_rfl) (Chg.refl _ _).drew (fun hHeld => ?_)
   obtain ⟨wd, hwd⟩ : ∃ x, x = w2.drew := ⟨_, rfl⟩
   rw [← hwd] at hHeld ⊢
   clear hwd
   clear g0 g1
   obtain ⟨d2, hd2⟩ : ∃ z, z = d1 ++ ([32, 99, 97, 112, 32] : Bytes) := ⟨_, rfl⟩
   have Hd2 := hd hd2
   have ld2 : d2.length ≤ 1020 := by rw [hd2]; simp only [List.length_append, List.length_cons, List.length_nil]; omega
   clear hd2
   have y2 : ¬ 9223372036854775807 < d1.length + 5 := by omega
   refine tk 0 ?vp0 ?hyp0 ?rsp0
   case hyp0 => (intro w9 hSw; go_simp; try with_reducible rfl)
   try simp only [qq]
   refine tk 1 ?vp1 ?hyp1 ?rsp1
   case hyp1 => (intro w9 hSw; have t1 := cell_quiet hSw (HG2.out.cell (i := 1) rfl) (by simp); go_simp; try with_reducible rfl)
   try simp only [qq]
   refine tk 2 ?vp2 ?hyp2 ?rsp2
   case hyp2 => (intro w9 hSw; go_simp; try with_reducible rfl)
   try simp only [qq]
   rw [show (⟨#[114, 101, 115, 97, 108, 101, 32]⟩ : ByteArray) ++ ⟨nm.toArray⟩ = ⟨d1.toArray⟩ from by rw [Hd1.out]; exact str2 _ _]
   refine tk 3 ?vp3 ?hyp3 ?rsp3
   case hyp3 => (intro w9 hSw; go_simp; try with_reducible rfl)
   try simp only [qq]
   rw [show (⟨d1.toArray⟩ : ByteArray) ++ ⟨#[32, 99, 97, 112, 32]⟩ = ⟨d2.toArray⟩ from by rw [Hd2.out]; exact str2 _ _]
   refine tk 4 ?vp4 ?hyp4 ?rsp4
   case hyp4 => (intro w9 hSw; go_simp; try with_reducible rfl)
   try simp only [qq]
   refine tk 5 ?vp5 ?hyp5 ?rsp5
   case hyp5 => (intro w9 hSw; have t4 := cell_quiet hSw (HG2.out.cell (i := 4) rfl) (by simp); have t5 := cell_quiet hSw (HG2.out.cell (i := 5) rfl) (by simp); go_simp; try with_reducible rfl)
   try simp only [qq]
   refine tk 9 ?vp9 ?hyp9 ?rsp9
   case hyp9 => (intro w9 hSw; go_simp; try with_reducible rfl)
   try simp only [qq]
   refine tk 10 ?vp10 ?hyp10 ?rsp10
   case hyp10 => (intro w9 hSw; have t6 := cell_quiet hSw (HG2.out.cell (i := 6) rfl) (by simp); have t7 := cell_quiet hSw (HG2.out.cell (i := 7) rfl) (by simp); go_simp; try with_reducible rfl)
   try simp only [qq]
   refine rd1 6 (fun K hK => ?_)
   go_simp
   refine ratio8_r (r1, r2) (hd HNU.out.2.1) (fun we hy => ?_)
   have CE := hd hy
   clear hy
   have lrs := HL8.out r1 r2 HNU.out.2.1
   obtain ⟨rs, hrs⟩ : ∃ z, z = Lib.itoa r1 ++ [47] ++ Lib.itoa r2 := ⟨_, rfl⟩
   rw [show Lib.itoa ((r1, r2) : Int × Int).1 ++ [47] ++ Lib.itoa ((r1, r2) : Int × Int).2 = rs from hrs.symm]
   rw [← hrs] at lrs
   have Hrs := hd hrs
   clear hrs
   refine hK.out _ _ (hHeld.trans CE.out (by simp)) (fun hHeld => ?_)
   clear hK K
   try simp only [qq]
   obtain ⟨d3, hd3⟩ : ∃ z, z = d2 ++ rs := ⟨_, rfl⟩
   have Hd3 := hd hd3
   have ld3 : d3.length ≤ 1070 := by rw [hd3]; simp only [List.length_append, List.length_cons, List.length_nil]; omega
   clear hd3
   have y3 : ¬ 9223372036854775807 < d2.length + rs.length := by omega
   obtain ⟨d4, hd4⟩ : ∃ z, z = d3 ++ ([32, 115, 104, 97, 114, 101, 32] : Bytes) := ⟨_, rfl⟩
   have Hd4 := hd hd4
   have ld4 : d4.length ≤ 1080 := by rw [hd4]; simp only [List.length_append, List.length_cons, List.length_nil]; omega
   clear hd4
   have y4 : ¬ 9223372036854775807 < d3.length + 7 := by omega
   refine tk 7 ?vp7 ?hyp7 ?rsp7
   case hyp7 => (intro w9 hSw; go_simp; try with_reducible rfl)
   try simp only [qq]
   rw [show (⟨d2.toArray⟩ : ByteArray) ++ ⟨rs.toArray⟩ = ⟨d3.toArray⟩ from by rw [Hd3.out]; exact str2 _ _]
   refine tk 8 ?vp8 ?hyp8 ?rsp8
   case hyp8 => (intro w9 hSw; go_simp; try with_reducible rfl)
   try simp only [qq]
   rw [show (⟨d3.toArray⟩ : ByteArray) ++ ⟨#[32, 115, 104, 97, 114, 101, 32]⟩ = ⟨d4.toArray⟩ from by rw [Hd4.out]; exact str2 _ _]
   refine rd1 11 (fun K hK => ?_)
   go_simp
   refine ratio8_r (s1, s2) (hd HNU.out.2.2) (fun wf hy => ?_)
   have CE := hd hy
   clear hy
   have lss := HL8.out s1 s2 HNU.out.2.2
   obtain ⟨ss, hrs⟩ : ∃ z, z = Lib.itoa s1 ++ [47] ++ Lib.itoa s2 := ⟨_, rfl⟩
   rw [show Lib.itoa ((s1, s2) : Int × Int).1 ++ [47] ++ Lib.itoa ((s1, s2) : Int × Int).2 = ss from hrs.symm]
   rw [← hrs] at lss
   have Hss := hd hrs
   clear hrs
   refine hK.out _ _ (hHeld.trans CE.out (by simp)) (fun hHeld => ?_)
   clear hK K
   try simp only [qq]
   obtain ⟨d5, hd5⟩ : ∃ z, z = d4 ++ ss := ⟨_, rfl⟩
   have Hd5 := hd hd5
   have ld5 : d5.length ≤ 1130 := by rw [hd5]; simp only [List.length_append, List.length_cons, List.length_nil]; omega
   clear hd5
   have y5 : ¬ 9223372036854775807 < d4.length + ss.length := by omega
   refine tk 12 ?vp12 ?hyp12 ?rsp12
   case hyp12 => (intro w9 hSw; go_simp; try with_reducible rfl)
   try simp only [qq]
   rw [show (⟨d4.toArray⟩ : ByteArray) ++ ⟨ss.toArray⟩ = ⟨d5.toArray⟩ from by rw [Hd5.out]; exact str2 _ _]
   refine tk 13 ?vp13 ?hyp13 ?rsp13
   case hyp13 => (intro w9 hSw; go_simp; try with_reducible rfl)
   try simp only [qq]
   refine wpAnyH_done (by kernel_rfl) ?_ _
   try simp only [qq]
   have HCY := hd hHeld
   clear hHeld
   go_wp2_with fail
   have HF : Hid (tx = d5) := hd (by rw [HTX.out, Hd5.out, Hd4.out, Hd3.out, Hd2.out, Hd1.out, Hrs.out, Hss.out]; simp [Pr.wordsS, Pr.kindW, Pr.ratioS, Pr.nums, Pr.tCap, Pr.tShare])
   have h9 := HRR.out wf (C12.out.trans HCY.out (by simp)) (by rw [HF.out]; omega)
   rw [HF.out] at h9
   exact h9
 · skip
   subst h5
   clear HK7
   have y1 : ¬ 9223372036854775807 < 7 + nm.length := by omega
   obtain ⟨d1, hd1⟩ : ∃ z, z = ([114, 101, 102, 117, 110, 100, 32] : Bytes) ++ nm := ⟨_, rfl⟩
   have Hd1 := hd hd1
   have ld1 : d1.length ≤ 1010 := by rw [hd1]; simp only [List.length_append, List.length_cons, List.length_nil]; omega
   clear hd1
   go_upto_region 20 with (fail)
   refine wp_region_held_drew (S := fun W' => Chg [] w2 W') (by kernel_rfl) (Chg.refl _ _).drew (fun hHeld => ?_)
   obtain ⟨wd, hwd⟩ : ∃ x, x = w2.drew := ⟨_, rfl⟩
   rw [← hwd] at hHeld ⊢
   clear hwd
   clear g0 g1
   obtain ⟨d2, hd2⟩ : ∃ z, z = d1 ++ ([32] : Bytes) := ⟨_, rfl⟩
   have Hd2 := hd hd2
   have ld2 : d2.length ≤ 1020 := by rw [hd2]; simp only [List.length_append, List.length_cons, List.length_nil]; omega
   clear hd2
   have y2 : ¬ 9223372036854775807 < d1.length + 1 := by omega
   refine tk 0 ?vq0 ?hyq0 ?rsq0
   case hyq0 => (intro w9 hSw; go_simp; try with_reducible rfl)
   try simp only [qq]
   refine tk 1 ?vq1 ?hyq1 ?rsq1
   case hyq1 => (intro w9 hSw; have t1 := cell_quiet hSw (HG2.out.cell (i := 1) rfl) (by simp); go_simp; try with_reducible rfl)
   try simp only [qq]
   refine tk 2 ?vq2 ?hyq2 ?rsq2
   case hyq2 => (intro w9 hSw; go_simp; try with_reducible rfl)
   try simp only [qq]
   rw [show (⟨#[114, 101, 102, 117, 110, 100, 32]⟩ : ByteArray) ++ ⟨nm.toArray⟩ = ⟨d1.toArray⟩ from by rw [Hd1.out]; exact str2 _ _]
   refine tk 3 ?vq3 ?hyq3 ?rsq3
   case hyq3 => (intro w9 hSw; go_simp; try with_reducible rfl)
   try simp only [qq]
   rw [show (⟨d1.toArray⟩ : ByteArray) ++ ⟨#[32]⟩ = ⟨d2.toArray⟩ from by rw [Hd2.out]; exact str2 _ _]
   refine tk 4 ?vq4 ?hyq4 ?rsq4
   case hyq4 => (intro w9 hSw; go_simp; try with_reducible rfl)
   try simp only [qq]
   refine tk 5 ?vq5 ?hyq5 ?rsq5
   case hyq5 => (intro w9 hSw; have t4 := cell_quiet hSw (HG2.out.cell (i := 4) rfl) (by simp); have t5 := cell_quiet hSw (HG2.out.cell (i := 5) rfl) (by simp); go_simp; try with_reducible rfl)
   try simp only [qq]
   refine rd1 6 (fun K hK => ?_)
   go_simp
   refine ratio8_r (r1, r2) (hd HNU.out.2.1) (fun we hy => ?_)
   have CE := hd hy
   clear hy
   have lrs := HL8.out r1 r2 HNU.out.2.1
   obtain ⟨rs, hrs⟩ : ∃ z, z = Lib.itoa r1 ++ [47] ++ Lib.itoa r2 := ⟨_, rfl⟩
   rw [show Lib.itoa ((r1, r2) : Int × Int).1 ++ [47] ++ Lib.itoa ((r1, r2) : Int × Int).2 = rs from hrs.symm]
   rw [← hrs] at lrs
   have Hrs := hd hrs
   clear hrs
   refine hK.out _ _ (hHeld.trans CE.out (by simp)) (fun hHeld => ?_)
   clear hK K
   try simp only [qq]
   obtain ⟨d3, hd3⟩ : ∃ z, z = d2 ++ rs := ⟨_, rfl⟩
   have Hd3 := hd hd3
   have ld3 : d3.length ≤ 1070 := by rw [hd3]; simp only [List.length_append, List.length_cons, List.length_nil]; omega
   clear hd3
   have y3 : ¬ 9223372036854775807 < d2.length + rs.length := by omega
   refine tk 7 ?vq7 ?hyq7 ?rsq7
   case hyq7 => (intro w9 hSw; go_simp; try with_reducible rfl)
   try simp only [qq]
   rw [show (⟨d2.toArray⟩ : ByteArray) ++ ⟨rs.toArray⟩ = ⟨d3.toArray⟩ from by rw [Hd3.out]; exact str2 _ _]
   refine tk 8 ?vq8 ?hyq8 ?rsq8
   case hyq8 => (intro w9 hSw; go_simp; try with_reducible rfl)
   try simp only [qq]
   refine wpAnyH_done (by kernel_rfl) ?_ _
   try simp only [qq]
   have HCY := hd hHeld
   clear hHeld
   go_wp2_with fail
   have HF : Hid (tx = d3) := hd (by rw [HTX.out, Hd3.out, Hd2.out, Hd1.out, Hrs.out]; simp [Pr.wordsS, Pr.kindW, Pr.ratioS, Pr.nums])
   have h9 := HRR.out we (C12.out.trans HCY.out (by simp)) (by rw [HF.out]; omega)
   rw [HF.out] at h9
   exact h9
 · skip
   subst h6
   clear HK7
   have y1 : ¬ 9223372036854775807 < 9 + nm.length := by omega
   obtain ⟨d1, hd1⟩ : ∃ z, z = ([116, 111, 103, 101, 116, 104, 101, 114, 32] : Bytes) ++ nm := ⟨_, rfl⟩
   have Hd1 := hd hd1
   have ld1 : d1.length ≤ 1010 := by rw [hd1]; simp only [List.length_append, List.length_cons, List.length_nil]; omega
   clear hd1
   go_wp2_with fail
   rw [show (⟨#[116, 111, 103, 101, 116, 104, 101, 114, 32]⟩ : ByteArray) ++ ⟨nm.toArray⟩ = ⟨d1.toArray⟩ from by rw [Hd1.out]; exact str2 _ _]
   have HF : Hid (tx = d1) := hd (by rw [HTX.out, Hd1.out]; simp [Pr.wordsS, Pr.kindW])
   have h9 := HRR.out w2 (C12.out) (by rw [HF.out]; omega)
   rw [HF.out] at h9
   exact h9
 · skip
   subst h7
   clear HK7
   have y1 : ¬ 9223372036854775807 < 7 + nm.length := by omega
   obtain ⟨d1, hd1⟩ : ∃ z, z = ([115, 105, 110, 103, 108, 101, 32] : Bytes) ++ nm := ⟨_, rfl⟩
   have Hd1 := hd hd1
   have ld1 : d1.length ≤ 1010 := by rw [hd1]; simp only [List.length_append, List.length_cons, List.length_nil]; omega
   clear hd1
   go_wp2_with fail
   rw [show (⟨#[115, 105, 110, 103, 108, 101, 32]⟩ : ByteArray) ++ ⟨nm.toArray⟩ = ⟨d1.toArray⟩ from by rw [Hd1.out]; exact str2 _ _]
   have HF : Hid (tx = d1) := hd (by rw [HTX.out, Hd1.out]; simp [Pr.wordsS, Pr.kindW])
   have h9 := HRR.out w2 (C12.out) (by rw [HF.out]; omega)
   rw [HF.out] at h9
   exact h9
end Go.Proofs.YtgbooiaedbpenaaDoor
namespace Go.Proofs.YtgbooiaedbpenaaDoor
set_option linter.unusedVariables false
set_option linter.unusedSimpArgs false
open Go Go.RowKit Go.Shelf
attribute [local irreducible] Go.wpStill
theorem adds_more {l : List Pr.Itm} {j : Nat} {x : Pr.Itm} {acc : Bytes} (hx : l[j]? = some x) (h : acc = Pr.adds [] ((l.take j).map (fun x => Pr.lineB (Pr.itemL x)))) (hs : acc.length ≤ 20000) : acc ++ Pr.lineB (Pr.itemL x) = Pr.adds [] ((l.take (j + 1)).map (fun x => Pr.lineB (Pr.itemL x))) := by
 obtain ⟨a1, h8⟩ := List.getElem?_eq_some_iff.1 hx
 rw [List.take_succ_eq_append_getElem a1, List.map_append, Pr.adds_append, ← h, h8]
 show _ = Pr.adds acc [Pr.lineB (Pr.itemL x)]
 rw [Pr.adds_cons, if_pos hs]
 rfl
theorem whens_step {l : List (List Pr.Tst)} {p : Nat} {y : List Pr.Tst} (hy : l[p]? = some y) : Pr.whensS Pr.tWhen (l.take (p + 1)) = Pr.whensS Pr.tWhen (l.take p) ++ ((if p = 0 then Pr.tWhen else Pr.tOr) ++ Pr.join Pr.tAnd (y.map Pr.testS)) := by
 obtain ⟨a1, h8⟩ := List.getElem?_eq_some_iff.1 hy
 rw [List.take_succ_eq_append_getElem a1, h8]
 by_cases h : p = 0
 · subst h
   rw [if_pos rfl]
   exact Pr.whens_first y
 · rw [if_neg h, Pr.whens_next (by intro e; have := congrArg List.length e; rw [List.length_take, List.length_nil] at this; omega)]
theorem joins_step {y : List Pr.Tst} {r : Nat} {t : Pr.Tst} (ht : y[r]? = some t) : Pr.join Pr.tAnd ((y.take (r + 1)).map Pr.testS) = Pr.join Pr.tAnd ((y.take r).map Pr.testS) ++ ((if r = 0 then [] else Pr.tAnd) ++ Pr.testS t) := by
 obtain ⟨a1, h8⟩ := List.getElem?_eq_some_iff.1 ht
 rw [List.take_succ_eq_append_getElem a1, h8, List.map_append]
 by_cases h : r = 0
 · subst h
   rfl
 · rw [if_neg h]
   show Pr.join _ (_ ++ [Pr.testS t]) = _
   rw [Pr.join_take _ _ (by intro e; have := congrArg List.length e; rw [List.length_map, List.length_take, List.length_nil] at this; omega), List.append_assoc]
set_option maxHeartbeats 16000000 in
set_option maxRecDepth 100000 in
theorem refRules_r {w : World} (l : List Pr.Itm) (ao : Option Addr) (cap n : Nat) (HM : Hid (RdS 9 Pr.RItm w (.slice ao n cap) l)) (HSL : Hid (∀ x ∈ l, SzI x)) {R : Ending → World → Prop}
 (hR : ∀ w', Chg [] w w' → R (.returned (.tuple #[.string ⟨(Pr.refRules l).1.toArray⟩, .int .i64 ((Pr.refRules l).2 : Nat)])) w') :
 Calls Tryd.prog 14 #[.agg #[.slice ao n cap]] w R := by
 have HRR := hd hR
 clear hR
 obtain ⟨u0, v0, s0⟩ := HM.out.cp
 have HN := hd s0
 clear s0
 go_enter Tryd.func14, Tryd.ntmps14
 go_upto_region 1 with (fail)
 obtain ⟨w1, hw⟩ : ∃ W, W = w.alloc (.cells #[.slice ao n cap] 29) := ⟨_, rfl⟩
 rw [← hw]
 obtain ⟨G, hX⟩ : ∃ X, X = w.heap.size := ⟨_, rfl⟩
 rw [← hX]
 have HG : Hid (Blk w1 G [.slice ao n cap] 29) := hd (by rw [hw, hX]; exact Blk.new w [.slice ao n cap] _)
 have C1 : Hid (Chg [] w w1) := hd (by rw [hw]; exact (Chg.refl _ _).alloc _)
 clear hw hX
 have g0 := HG.out.cell (i := 0) rfl
 by_cases hl : 200 < n
 · skip
   have z1 : (200 : Int) < (n : Int) := by omega
   have HF : Hid (Pr.refRules l = ([], 1)) := hd (by unfold Pr.refRules; rw [if_pos (by unfold Pr.rulesOk; rw [decide_eq_false (by rw [HN.out]; omega)]; rfl)])
   go_wp2_with fail
   have h9 := HRR.out w1 (C1.out)
   rw [HF.out] at h9
   exact h9
 have z1 : ¬ (200 : Int) < (n : Int) := by omega
 have HL2 : Hid (n ≤ 200) := hd (by omega)
 go_wp2_with fail
 clear g0 z1
 go_loopw [4] (fun i0 wr => ∃ j : Nat, i0 = .int .i64 (j : Int) ∧ j ≤ n ∧ Hid (Chg [] w1 wr) ∧ Hid ((l.take j).all Pr.itemOk = true)) (fun i0 _ => n - intN i0)
 case atStart => exact ⟨0, rfl, Nat.zero_le _, hd (Chg.refl _ _), hd rfl⟩
 case round =>
  obtain ⟨j, rfl, hj, HC, HO⟩ := hrel
  have x0 := (HC.out.blk HG.out (by simp)).cell (i := 0) rfl
  by_cases hlt : j < n
  · skip
    have z0 : (0 : Int) ≤ (j : Int) := by omega
    have z1 : (j : Int) < (n : Int) := by omega
    have z2 : (j : Int) ≤ (cap : Int) := by omega
    have HQR : Hid (Chg [] w wr) := hd (C1.out.trans HC.out (by simp))
    obtain ⟨x, g, og, cs, hx, ha, -, ⟨wv, hcs, i1, i2, i3, i4, i5, i6, hwn, -⟩, hcc⟩ := HM.out.at_ HQR.out (j := j) (by rw [HN.out]; exact hlt)
    subst ha
    obtain ⟨ua, uc, rfl, _, _⟩ := hwn.form
    have HWH := hd hwn
    obtain ⟨m, hm⟩ : ∃ z, z = x.whn.length := ⟨_, rfl⟩
    rw [← hm] at hcs HWH
    have HMN := hd hm.symm
    have c0 : wr.cell? ⟨g, og + j * 9, none⟩ = some (.int .i64 x.kind) := by have h9 := hcc 0 _ (by rw [hcs]; rfl); simpa [Pr.iv, Pr.sv] using h9
    have c1 : wr.cell? ⟨g, og + j * 9 + 1, none⟩ = some (.string ⟨x.name.toArray⟩) := by have h9 := hcc 1 _ (by rw [hcs]; rfl); simpa [Pr.iv, Pr.sv] using h9
    have c2 : wr.cell? ⟨g, og + j * 9 + 2, none⟩ = some (.slice ua m uc) := by have h9 := hcc 2 _ (by rw [hcs]; rfl); simpa [Pr.iv, Pr.sv] using h9
    have c3 : wr.cell? ⟨g, og + j * 9 + 3, none⟩ = some (.int .i64 x.n) := by have h9 := hcc 3 _ (by rw [hcs]; rfl); simpa [Pr.iv, Pr.sv] using h9
    have c4 : wr.cell? ⟨g, og + j * 9 + 4, none⟩ = some (.int .i64 x.r.1) := by have h9 := hcc 4 _ (by rw [hcs]; rfl); simpa [Pr.iv, Pr.sv] using h9
    have c5 : wr.cell? ⟨g, og + j * 9 + 5, none⟩ = some (.int .i64 x.r.2) := by have h9 := hcc 5 _ (by rw [hcs]; rfl); simpa [Pr.iv, Pr.sv] using h9
    have c6 : wr.cell? ⟨g, og + j * 9 + 6, none⟩ = some (.int .i64 x.s.1) := by have h9 := hcc 6 _ (by rw [hcs]; rfl); simpa [Pr.iv, Pr.sv] using h9
    have c7 : wr.cell? ⟨g, og + j * 9 + 7, none⟩ = some (.int .i64 x.s.2) := by have h9 := hcc 7 _ (by rw [hcs]; rfl); simpa [Pr.iv, Pr.sv] using h9
    have c8 : wr.cell? ⟨g, og + j * 9 + 8, none⟩ = some (.int .i64 x.at_) := by have h9 := hcc 8 _ (by rw [hcs]; rfl); simpa [Pr.iv, Pr.sv] using h9
    have HX := hd hx
    have HZ := hd (HSL.out x (List.mem_of_getElem? hx))
    clear hx hcs hcc hm hwn i1 i2 i3 i4 i5 i6
    go_wp2_with fail
    refine item8_r HQR x ua uc m HWH HZ (fun wy hy => ?_)
    have HCY : Hid (Chg [] w1 wy) := hd (HC.out.trans hy (by simp))
    clear hy x0 c0 c1 c2 c3 c4 c5 c6 c7 c8
    obtain ⟨q, hq⟩ : ∃ q, q = Pr.itemOk x := ⟨_, rfl⟩
    rw [← hq]
    have Hq := hd hq.symm
    clear hq
    cases q with
    | false =>
     have HF : Hid (Pr.refRules l = ([], 1)) := hd (by unfold Pr.refRules; rw [if_pos (by unfold Pr.rulesOk; rw [all_bad HX.out Hq.out, Bool.and_false])])
     go_wp2_with fail
     have h9 := HRR.out wy (C1.out.trans HCY.out (by simp))
     rw [HF.out] at h9
     exact h9
    | true =>
     go_wp2_with fail
     go_roundw
     case rel => first | exact ⟨j + 1, vint (by omega), by omega, HCY, hd (all_step HX.out HO.out Hq.out)⟩ | ((repeat apply Exists.intro); exact ⟨⟨j + 1, vint (by omega), by omega, HCY, hd (all_step HX.out HO.out Hq.out)⟩, rfl⟩)
     case measure => simp [intN]; omega
  · skip
    have z1 : ¬ (j : Int) < (n : Int) := by omega
    have HAL : Hid (l.all Pr.itemOk = true) := hd (all_fin (by rw [HN.out]; omega) HO.out)
    have HEND : Hid (∀ acc : Bytes, acc = Pr.adds [] (l.map (fun x => Pr.lineB (Pr.itemL x))) → Pr.refRules l = Pr.rend acc) := hd (fun acc he => by rw [he]; unfold Pr.refRules; rw [if_neg (by unfold Pr.rulesOk; rw [HAL.out, decide_eq_true (by have := HN.out; have := HL2.out; omega)]; decide)])
    have HC1 := HC
    clear HC HO
    go_wp2_with fail
    clear x0
    rename World => w2
    have HG2 := hd (HC1.out.blk HG.out (by simp))
    have HQ2 : Hid (Chg [] w w2) := hd (C1.out.trans HC1.out (by simp))
    go_loopw [5, 6] (fun s i0 wr => ∃ (j : Nat) (acc : Bytes), i0 = .int .i64 (j : Int) ∧ s = .string ⟨acc.toArray⟩ ∧ j ≤ n ∧ Hid (Chg [] w2 wr) ∧ Hid (acc = Pr.adds [] ((l.take j).map (fun x => Pr.lineB (Pr.itemL x)))) ∧ acc.length ≤ 400000) (fun _ i0 _ => n - intN i0)
    case atStart => exact ⟨0, [], rfl, rfl, Nat.zero_le _, hd (Chg.refl _ _), hd rfl, by simp⟩
    case round =>
     obtain ⟨j, acc, rfl, rfl, hj, HC, HO, la⟩ := hrel
     have x0 := (HC.out.blk HG2.out (by simp)).cell (i := 0) rfl
     by_cases hlt : j < n
     · skip
       by_cases hs : acc.length ≤ 20000
       · skip
         have y0 : (acc.length : Int) ≤ 20000 := by omega
         have HS2 := hd hs
         have z0 : (0 : Int) ≤ (j : Int) := by omega
         have z1 : (j : Int) < (n : Int) := by omega
         have z2 : (j : Int) ≤ (cap : Int) := by omega
         have HQR : Hid (Chg [] w wr) := hd (HQ2.out.trans HC.out (by simp))
         obtain ⟨x, g, og, cs, hx, ha, -, ⟨wv, hcs, i1, i2, i3, i4, i5, i6, hwn, -⟩, hcc⟩ := HM.out.at_ HQR.out (j := j) (by rw [HN.out]; exact hlt)
         subst ha
         obtain ⟨ua, uc, rfl, _, _⟩ := hwn.form
         have HWH := hd hwn
         obtain ⟨m, hm⟩ : ∃ z, z = x.whn.length := ⟨_, rfl⟩
         rw [← hm] at hcs HWH
         have HMN := hd hm.symm
         have c0 : wr.cell? ⟨g, og + j * 9, none⟩ = some (.int .i64 x.kind) := by have h9 := hcc 0 _ (by rw [hcs]; rfl); simpa [Pr.iv, Pr.sv] using h9
         have c1 : wr.cell? ⟨g, og + j * 9 + 1, none⟩ = some (.string ⟨x.name.toArray⟩) := by have h9 := hcc 1 _ (by rw [hcs]; rfl); simpa [Pr.iv, Pr.sv] using h9
         have c2 : wr.cell? ⟨g, og + j * 9 + 2, none⟩ = some (.slice ua m uc) := by have h9 := hcc 2 _ (by rw [hcs]; rfl); simpa [Pr.iv, Pr.sv] using h9
         have c3 : wr.cell? ⟨g, og + j * 9 + 3, none⟩ = some (.int .i64 x.n) := by have h9 := hcc 3 _ (by rw [hcs]; rfl); simpa [Pr.iv, Pr.sv] using h9
         have c4 : wr.cell? ⟨g, og + j * 9 + 4, none⟩ = some (.int .i64 x.r.1) := by have h9 := hcc 4 _ (by rw [hcs]; rfl); simpa [Pr.iv, Pr.sv] using h9
         have c5 : wr.cell? ⟨g, og + j * 9 + 5, none⟩ = some (.int .i64 x.r.2) := by have h9 := hcc 5 _ (by rw [hcs]; rfl); simpa [Pr.iv, Pr.sv] using h9
         have c6 : wr.cell? ⟨g, og + j * 9 + 6, none⟩ = some (.int .i64 x.s.1) := by have h9 := hcc 6 _ (by rw [hcs]; rfl); simpa [Pr.iv, Pr.sv] using h9
         have c7 : wr.cell? ⟨g, og + j * 9 + 7, none⟩ = some (.int .i64 x.s.2) := by have h9 := hcc 7 _ (by rw [hcs]; rfl); simpa [Pr.iv, Pr.sv] using h9
         have c8 : wr.cell? ⟨g, og + j * 9 + 8, none⟩ = some (.int .i64 x.at_) := by have h9 := hcc 8 _ (by rw [hcs]; rfl); simpa [Pr.iv, Pr.sv] using h9
         have HX := hd hx
         have HZ := hd (HSL.out x (List.mem_of_getElem? hx))
         clear hx hcs hcc hm hwn i1 i2 i3 i4 i5 i6
         go_upto_region 13 with (fail)
         obtain ⟨w4, hw⟩ : ∃ W, W = wr.alloc (.cells #[.int .i64 x.kind, .string ⟨x.name.toArray⟩, .slice ua m uc, .int .i64 x.n, .int .i64 x.r.1, .int .i64 x.r.2, .int .i64 x.s.1, .int .i64 x.s.2, .int .i64 x.at_] 60) := ⟨_, rfl⟩
         rw [← hw]
         obtain ⟨D, hX⟩ : ∃ X, X = wr.heap.size := ⟨_, rfl⟩
         rw [← hX]
         have HD : Hid (Blk w4 D [.int .i64 x.kind, .string ⟨x.name.toArray⟩, .slice ua m uc, .int .i64 x.n, .int .i64 x.r.1, .int .i64 x.r.2, .int .i64 x.s.1, .int .i64 x.s.2, .int .i64 x.at_] 60) := hd (by rw [hw, hX]; exact Blk.new wr [.int .i64 x.kind, .string ⟨x.name.toArray⟩, .slice ua m uc, .int .i64 x.n, .int .i64 x.r.1, .int .i64 x.r.2, .int .i64 x.s.1, .int .i64 x.s.2, .int .i64 x.at_] _)
         have C4 : Hid (Chg [] wr w4) := hd (by rw [hw]; exact (Chg.refl _ _).alloc _)
         clear hw hX
         clear x0 y0 c0 c1 c2 c3 c4 c5 c6 c7 c8
         have d0 := HD.out.cell (i := 0) rfl
         have d1 := HD.out.cell (i := 1) rfl
         have d2 := HD.out.cell (i := 2) rfl
         have d3 := HD.out.cell (i := 3) rfl
         have d4 := HD.out.cell (i := 4) rfl
         have d5 := HD.out.cell (i := 5) rfl
         have d6 := HD.out.cell (i := 6) rfl
         have d7 := HD.out.cell (i := 7) rfl
         have d8 := HD.out.cell (i := 8) rfl
         have HIO := hd (List.all_eq_true.1 HAL.out x (List.mem_of_getElem? HX.out))
         have HIP := hd ((Pr.item_iff x).1 HIO.out)
         have hm12 : m ≤ 12 := by have h9 := HIP.out.1.2.2.2.1; have := HMN.out; omega
         have bx := HZ.out.1
         go_wp2_with fail
         refine rule8_r x ua uc m (hd HIP.out.1) bx (fun wy hy lt0 => ?_)
         have HY := hd hy
         clear hy d0 d1 d2 d3 d4 d5 d6 d7 d8
         obtain ⟨tx, htx⟩ : ∃ z, z = Pr.wordsS x := ⟨_, rfl⟩
         rw [← htx] at lt0 ⊢
         have HTX := hd htx
         clear htx
         have y0 : ¬ 9223372036854775807 < acc.length + tx.length := by omega
         obtain ⟨a0, ha0⟩ : ∃ z, z = acc ++ tx := ⟨_, rfl⟩
         have Ha0 := hd ha0
         have la0 : a0.length ≤ 21300 := by rw [ha0, List.length_append]; omega
         clear ha0
         go_upto_region 14 with (fail)
         rw [show (⟨acc.toArray⟩ : ByteArray) ++ ⟨tx.toArray⟩ = ⟨a0.toArray⟩ from by rw [Ha0.out]; exact str2 _ _]
         clear y0
         have HDY := hd (HY.out.blk HD.out (by simp))
         have HQY : Hid (Chg [] w wy) := hd ((HQR.out.trans C4.out (by simp)).trans HY.out (by simp))
         go_wp2_with fail
         skip
         go_loopw [5, 8] (fun s i1 wv => ∃ (p : Nat) (a1 : Bytes), i1 = .int .i64 (p : Int) ∧ s = .string ⟨a1.toArray⟩ ∧ p ≤ m ∧ Hid (Chg [] wy wv) ∧ Hid (a1 = a0 ++ Pr.whensS Pr.tWhen (x.whn.take p)) ∧ a1.length ≤ 21300 + 27000 * p) (fun _ i1 _ => m - intN i1)
         case atStart => exact ⟨0, a0, rfl, rfl, Nat.zero_le _, hd (Chg.refl _ _), hd (by simp [Pr.whensS]), by omega⟩
         case round =>
          obtain ⟨p, a1, rfl, rfl, hp, HPC, HA1, la1⟩ := hrel
          have d2 := (HPC.out.blk HDY.out (by simp)).cell (i := 2) rfl
          by_cases hlp : p < m
          · skip
            have t0 : (0 : Int) ≤ (p : Int) := by omega
            have t1 : (p : Int) < (m : Int) := by omega
            have hmu : m ≤ uc := HWH.out.cp.1
            have t2 : (p : Int) ≤ (uc : Int) := by omega
            have HQP : Hid (Chg [] w wr) := hd (HQY.out.trans HPC.out (by simp))
            obtain ⟨y, g2, og2, cs2, hy, ha, -, ⟨yv, hcs2, hys⟩, hcc2⟩ := HWH.out.at_ HQP.out (j := p) (by rw [HMN.out]; exact hlp)
            subst ha
            obtain ⟨ya, yk, rfl, _, _⟩ := hys.form
            have HYS := hd hys
            obtain ⟨yn, hyn⟩ : ∃ z, z = y.length := ⟨_, rfl⟩
            rw [← hyn] at HYS hcs2
            have HYN := hd hyn.symm
            have b0 : wr.cell? ⟨g2, og2 + p, none⟩ = some (.slice ya yn yk) := by have h9 := hcc2 0 _ (by rw [hcs2]; rfl); simpa using h9
            have HPY := hd hy
            have HLO : Hid (0 < y.length ∧ y.length ≤ 12 ∧ y.all Pr.testOk = true) := hd (by have h9 := List.all_eq_true.1 HIP.out.2 y (List.mem_of_getElem? hy); simp only [Pr.listOk, Bool.and_eq_true, decide_eq_true_eq] at h9; exact h9)
            have HBY := hd (HZ.out.2 y (List.mem_of_getElem? hy))
            have hy12 : yn ≤ 12 := by have := HLO.out.2.1; omega
            clear hy hcs2 hcc2 hyn hys
            obtain ⟨qp, hqp⟩ : ∃ z, z = decide (p = 0) := ⟨_, rfl⟩
            have HQP0 := hd hqp
            have e0 : ((p : Int) == 0) = qp := by rw [hqp]; by_cases h : p = 0; rw [h]; rfl; rw [decide_eq_false h, beq_eq_false_iff_ne]; omega
            clear hqp
            obtain ⟨a2, ha2⟩ : ∃ z, z = a1 ++ (if p = 0 then Pr.tWhen else Pr.tOr) := ⟨_, rfl⟩
            have Ha2 := hd ha2
            have la2 : a2.length ≤ a1.length + 6 := by rw [ha2, List.length_append]; split; show _ + 6 ≤ _; omega; show _ + 4 ≤ _; omega
            clear ha2
            have D2 := hd d2
            have B0 := hd b0
            rename World => wo
            go_upto_if 58 with (fail)
            clear d2 b0 e0
            go_cut [5] (fun s wx => wx = wo ∧ s = .string ⟨a2.toArray⟩)
            case first =>
             have y1 : ¬ 9223372036854775807 < a1.length + 6 := by omega
             have y2 : ¬ 9223372036854775807 < a1.length + 4 := by omega
             cases qp with
             | true =>
              have HF : Hid (a2 = a1 ++ Pr.tWhen) := hd (by have h9 := of_decide_eq_true HQP0.out.symm; rw [Ha2.out, if_pos h9])
              go_wp2_with fail
              go_meet
              exact ⟨rfl, by rw [HF.out, ← str2]; rfl⟩
             | false =>
              have HF : Hid (a2 = a1 ++ Pr.tOr) := hd (by have h9 := of_decide_eq_false HQP0.out.symm; rw [Ha2.out, if_neg h9])
              go_wp2_with fail
              go_meet
              exact ⟨rfl, by rw [HF.out, ← str2]; rfl⟩
            case rest =>
             obtain ⟨hw, hs⟩ := hcut
             subst hs
             rw [hw]
             clear hw
             go_wp2_with fail
             go_loopw [5, 9] (fun s i2 wv => ∃ (r : Nat) (a3 : Bytes), i2 = .int .i64 (r : Int) ∧ s = .string ⟨a3.toArray⟩ ∧ r ≤ yn ∧ Hid (Chg [] wo wv) ∧ Hid (a3 = a2 ++ Pr.join Pr.tAnd ((y.take r).map Pr.testS)) ∧ a3.length ≤ a2.length + 2100 * r) (fun _ i2 _ => yn - intN i2)
             case atStart => exact ⟨0, a2, rfl, rfl, Nat.zero_le _, hd (Chg.refl _ _), hd (by simp [Pr.join]), by omega⟩
             case round =>
              obtain ⟨r, a3, rfl, rfl, hr, HRC, HA3, la3⟩ := hrel
              have d2 := cell_quiet HRC.out D2.out (by simp)
              have b0 := cell_quiet HRC.out B0.out (by simp)
              by_cases hlr : r < yn
              · skip
                have s0 : (0 : Int) ≤ (r : Int) := by omega
                have s1 : (r : Int) < (yn : Int) := by omega
                have hyu : yn ≤ yk := HYS.out.cp.1
                have s2 : (r : Int) ≤ (yk : Int) := by omega
                have HQV : Hid (Chg [] w wr) := hd (HQP.out.trans HRC.out (by simp))
                obtain ⟨t, g3, og3, cs3, ht, ha, -, ⟨hcs3, -⟩, hcc3⟩ := HYS.out.at_ HQV.out (j := r) (by rw [HYN.out]; exact hlr)
                subst ha
                have e0 : wr.cell? ⟨g3, og3 + r * 5, none⟩ = some (.string ⟨t.attr.toArray⟩) := by have h9 := hcc3 0 _ (by rw [hcs3]; rfl); simpa [Pr.iv, Pr.sv] using h9
                have e1 : wr.cell? ⟨g3, og3 + r * 5 + 1, none⟩ = some (.int .i64 t.op) := by have h9 := hcc3 1 _ (by rw [hcs3]; rfl); simpa [Pr.iv, Pr.sv] using h9
                have e2 : wr.cell? ⟨g3, og3 + r * 5 + 2, none⟩ = some (.string ⟨t.name.toArray⟩) := by have h9 := hcc3 2 _ (by rw [hcs3]; rfl); simpa [Pr.iv, Pr.sv] using h9
                have e3 : wr.cell? ⟨g3, og3 + r * 5 + 3, none⟩ = some (.int .i64 t.n) := by have h9 := hcc3 3 _ (by rw [hcs3]; rfl); simpa [Pr.iv, Pr.sv] using h9
                have e4 : wr.cell? ⟨g3, og3 + r * 5 + 4, none⟩ = some (.int .i64 t.at_) := by have h9 := hcc3 4 _ (by rw [hcs3]; rfl); simpa [Pr.iv, Pr.sv] using h9
                have HT := hd ht
                have bt := HBY.out t (List.mem_of_getElem? ht)
                have HTO : Hid ((1 ≤ t.op ∧ t.op ≤ 6) ∧ (t.name = [] → Pr.numOk t.n = true)) := hd (by have h9 := List.all_eq_true.1 HLO.out.2.2 t (List.mem_of_getElem? ht); simp only [Pr.testOk, Bool.and_eq_true, decide_eq_true_eq] at h9; exact ⟨h9.1, fun h => by have h8 := h9.2.2; rw [if_pos h] at h8; exact h8⟩)
                clear ht hcs3 hcc3
                obtain ⟨bt1, bt2⟩ := bt
                go_upto_region 24 with (fail)
                obtain ⟨w5, hw⟩ : ∃ W, W = wr.alloc (.cells #[.string ⟨t.attr.toArray⟩, .int .i64 t.op, .string ⟨t.name.toArray⟩, .int .i64 t.n, .int .i64 t.at_] 62) := ⟨_, rfl⟩
                rw [← hw]
                obtain ⟨T, hX⟩ : ∃ X, X = wr.heap.size := ⟨_, rfl⟩
                rw [← hX]
                have HTB : Hid (Blk w5 T [.string ⟨t.attr.toArray⟩, .int .i64 t.op, .string ⟨t.name.toArray⟩, .int .i64 t.n, .int .i64 t.at_] 62) := hd (by rw [hw, hX]; exact Blk.new wr [.string ⟨t.attr.toArray⟩, .int .i64 t.op, .string ⟨t.name.toArray⟩, .int .i64 t.n, .int .i64 t.at_] _)
                have C5 : Hid (Chg [] wr w5) := hd (by rw [hw]; exact (Chg.refl _ _).alloc _)
                clear hw hX
                clear e0 e1 e2 e3 e4 d2 b0
                obtain ⟨qr, hqr⟩ : ∃ z, z = decide (0 < r) := ⟨_, rfl⟩
                have HQR0 := hd hqr
                clear hqr
                go_cut [82] (fun s wx => wx = w5 ∧ s = .bool qr)
                case first =>
                 by_cases hr0 : 0 < r
                 · skip
                   have e0 : (0 : Int) < (r : Int) := by omega
                   have HE : Hid (qr = true) := hd (by rw [HQR0.out]; exact decide_eq_true hr0)
                   go_wp2_with fail
                   go_meet
                   exact ⟨rfl, by rw [HE.out]⟩
                 have e0 : ¬ (0 : Int) < (r : Int) := by omega
                 have HE : Hid (qr = false) := hd (by rw [HQR0.out]; exact decide_eq_false hr0)
                 go_wp2_with fail
                 go_meet
                 exact ⟨rfl, by rw [HE.out]⟩
                case rest =>
                 obtain ⟨hw, hs⟩ := hcut
                 subst hs
                 rw [hw]
                 clear hw
                 obtain ⟨a4, ha4⟩ : ∃ z, z = a3 ++ (if r = 0 then [] else Pr.tAnd) := ⟨_, rfl⟩
                 have Ha4 := hd ha4
                 have la4 : a4.length ≤ a3.length + 5 := by rw [ha4, List.length_append]; split; show _ + 0 ≤ _; omega; show _ + 5 ≤ _; omega
                 clear ha4
                 go_upto_if 82 with (fail)
                 go_cut [5] (fun s wx => wx = w5 ∧ s = .string ⟨a4.toArray⟩)
                 case first =>
                  have y1 : ¬ 9223372036854775807 < a3.length + 5 := by omega
                  cases qr with
                  | true =>
                   have HF : Hid (a4 = a3 ++ Pr.tAnd) := hd (by have h9 := of_decide_eq_true HQR0.out.symm; rw [Ha4.out, if_neg (by omega)])
                   go_wp2_with fail
                   go_meet
                   exact ⟨rfl, by rw [HF.out, ← str2]; rfl⟩
                  | false =>
                   have HF : Hid (a4 = a3) := hd (by have h9 := of_decide_eq_false HQR0.out.symm; rw [Ha4.out, if_pos (by omega), List.append_nil])
                   go_wp2_with fail
                   go_meet
                   exact ⟨rfl, by rw [HF.out]⟩
                 case rest =>
                  have HT9 := HTB
                  obtain ⟨hw, hs⟩ := hcut
                  subst hs
                  rw [hw]
                  clear hw
                  obtain ⟨ow, how⟩ : ∃ z, z = (Pr.opW t.op).drop 1 := ⟨_, rfl⟩
                  have low : ow.length ≤ 2 := by rw [how]; unfold Pr.opW; (repeat' split) <;> decide
                  have How := hd how
                  clear how
                  go_upto_region 26 with (fail)
                  refine wp_region_held_drew (S := fun W' => Chg [] w5 W') (by kernel_rfl) (Chg.refl _ _).drew (fun hHeld => ?_)
                  obtain ⟨wd, hwd⟩ : ∃ x, x = w5.drew := ⟨_, rfl⟩
                  rw [← hwd] at hHeld ⊢
                  clear hwd
                  obtain ⟨d1, hd1⟩ : ∃ z, z = t.attr ++ [32] := ⟨_, rfl⟩
                  have Hd1 := hd hd1
                  have ld1 : d1.length ≤ 1010 := by rw [hd1]; simp only [List.length_append, List.length_cons, List.length_nil]; omega
                  clear hd1
                  obtain ⟨d2, hd2⟩ : ∃ z, z = d1 ++ ow := ⟨_, rfl⟩
                  have Hd2 := hd hd2
                  have ld2 : d2.length ≤ 1020 := by rw [hd2]; simp only [List.length_append, List.length_cons, List.length_nil]; omega
                  clear hd2
                  obtain ⟨d3, hd3⟩ : ∃ z, z = d2 ++ [32] := ⟨_, rfl⟩
                  have Hd3 := hd hd3
                  have ld3 : d3.length ≤ 1030 := by rw [hd3]; simp only [List.length_append, List.length_cons, List.length_nil]; omega
                  clear hd3
                  obtain ⟨d4, hd4⟩ : ∃ z, z = d3 ++ t.name := ⟨_, rfl⟩
                  have Hd4 := hd hd4
                  have ld4 : d4.length ≤ 2040 := by rw [hd4]; simp only [List.length_append, List.length_cons, List.length_nil]; omega
                  clear hd4
                  obtain ⟨a5, ha5⟩ : ∃ z, z = a4 ++ d4 := ⟨_, rfl⟩
                  have Ha5 := hd ha5
                  have la5 : a5.length ≤ a4.length + t.attr.length + t.name.length + 4 := by rw [ha5, Hd4.out, Hd3.out, Hd2.out, Hd1.out]; simp only [List.length_append, List.length_cons, List.length_nil]; omega
                  clear ha5
                  have y1 : ¬ 9223372036854775807 < t.attr.length + 1 := by omega
                  have y2 : ¬ 9223372036854775807 < d1.length + ow.length := by omega
                  have y3 : ¬ 9223372036854775807 < d2.length + 1 := by omega
                  have y4 : ¬ 9223372036854775807 < d3.length + t.name.length := by omega
                  have y5 : ¬ 9223372036854775807 < a4.length + d4.length := by omega
                  refine tk 0 ?vr0 ?hyr0 ?rsr0
                  case hyr0 => (intro w9 hSw; go_simp; try with_reducible rfl)
                  try simp only [qq]
                  refine tk 1 ?vr1 ?hyr1 ?rsr1
                  case hyr1 => (intro w9 hSw; go_simp; try with_reducible rfl)
                  try simp only [qq]
                  refine tk 2 ?vr2 ?hyr2 ?rsr2
                  case hyr2 => (intro w9 hSw; have v0 := cell_quiet hSw (HT9.out.cell (i := 0) rfl) (by simp); go_simp; try with_reducible rfl)
                  try simp only [qq]
                  refine tk 3 ?vr3 ?hyr3 ?rsr3
                  case hyr3 => (intro w9 hSw; go_simp; try with_reducible rfl)
                  try simp only [qq]
                  rw [show (⟨t.attr.toArray⟩ : ByteArray) ++ ⟨#[32]⟩ = ⟨d1.toArray⟩ from by rw [Hd1.out]; exact str2 _ _]
                  refine tk 4 ?vr4 ?hyr4 ?rsr4
                  case hyr4 => (intro w9 hSw; go_simp; try with_reducible rfl)
                  try simp only [qq]
                  refine tk 5 ?vr5 ?hyr5 ?rsr5
                  case hyr5 => (intro w9 hSw; have v1 := cell_quiet hSw (HT9.out.cell (i := 1) rfl) (by simp); go_simp; try with_reducible rfl)
                  try simp only [qq]
                  refine tk 9 ?vr9 ?hyr9 ?rsr9
                  case hyr9 => (intro w9 hSw; go_simp; try with_reducible rfl)
                  try simp only [qq]
                  refine tk 10 ?vr10 ?hyr10 ?rsr10
                  case hyr10 => (intro w9 hSw; have v2 := cell_quiet hSw (HT9.out.cell (i := 2) rfl) (by simp); go_simp; try with_reducible rfl)
                  try simp only [qq]
                  refine rd1 6 (fun K hK => ?_)
                  go_simp
                  refine op8_r t.op HTO.out.1 ?_
                  rw [← How.out]
                  refine hK.out _ _ hHeld (fun hHeld => ?_)
                  clear hK K
                  try simp only [qq]
                  refine tk 7 ?vr7 ?hyr7 ?rsr7
                  case hyr7 => (intro w9 hSw; go_simp; try with_reducible rfl)
                  try simp only [qq]
                  rw [show (⟨d1.toArray⟩ : ByteArray) ++ ⟨ow.toArray⟩ = ⟨d2.toArray⟩ from by rw [Hd2.out]; exact str2 _ _]
                  refine tk 8 ?vr8 ?hyr8 ?rsr8
                  case hyr8 => (intro w9 hSw; go_simp; try with_reducible rfl)
                  try simp only [qq]
                  rw [show (⟨d2.toArray⟩ : ByteArray) ++ ⟨#[32]⟩ = ⟨d3.toArray⟩ from by rw [Hd3.out]; exact str2 _ _]
                  refine tk 11 ?vr11 ?hyr11 ?rsr11
                  case hyr11 => (intro w9 hSw; go_simp; try with_reducible rfl)
                  try simp only [qq]
                  rw [show (⟨d3.toArray⟩ : ByteArray) ++ ⟨t.name.toArray⟩ = ⟨d4.toArray⟩ from by rw [Hd4.out]; exact str2 _ _]
                  refine tk 12 ?vr12 ?hyr12 ?rsr12
                  case hyr12 => (intro w9 hSw; go_simp; try with_reducible rfl)
                  try simp only [qq]
                  rw [show (⟨a4.toArray⟩ : ByteArray) ++ ⟨d4.toArray⟩ = ⟨a5.toArray⟩ from by rw [Ha5.out]; exact str2 _ _]
                  refine tk 13 ?vr13 ?hyr13 ?rsr13
                  case hyr13 => (intro w9 hSw; go_simp; try with_reducible rfl)
                  try simp only [qq]
                  refine wpAnyH_done (by kernel_rfl) ?_ _
                  try simp only [qq]
                  have HCD : Hid (Chg [] w5 wd) := hd hHeld
                  clear hHeld y1 y2 y3 y4 y5
                  have HTD := hd (HCD.out.blk HTB.out (by simp))
                  have v2 := HTD.out.cell (i := 2) rfl
                  have v3 := HTD.out.cell (i := 3) rfl
                  have HRD : Hid (Chg [] wo wd) := hd ((HRC.out.trans C5.out (by simp)).trans HCD.out (by simp))
                  have H5 : Hid (a5 = a4 ++ (t.attr ++ [32] ++ (Pr.opW t.op).drop 1 ++ [32] ++ t.name)) := hd (by rw [Ha5.out, Hd4.out, Hd3.out, Hd2.out, Hd1.out, How.out])
                  have HJ : Hid (a2 ++ Pr.join Pr.tAnd ((y.take (r + 1)).map Pr.testS) = a5 ++ (if t.name = [] then Lib.itoa t.n else [])) := hd (by rw [joins_step HT.out, Pr.test8, H5.out, Ha4.out, HA3.out]; simp)
                  by_cases hnm : t.name = []
                  · skip
                    have HNO : Hid (Pr.numOk t.n = true) := hd (HTO.out.2 hnm)
                    have HNM := hd hnm
                    rw [hnm] at v2
                    clear hnm
                    go_wp2_with fail
                    refine decimal_r t.n HNO.out ?_
                    have lz := itoa8_len HNO.out
                    obtain ⟨z, hz⟩ : ∃ z, z = Lib.itoa t.n := ⟨_, rfl⟩
                    rw [← hz] at lz ⊢
                    have HZZ := hd hz
                    clear hz
                    have y1 : ¬ 9223372036854775807 < a5.length + z.length := by omega
                    have HJ1 : Hid (a5 ++ z = a2 ++ Pr.join Pr.tAnd ((y.take (r + 1)).map Pr.testS)) := hd (by rw [HJ.out, if_pos HNM.out, HZZ.out])
                    clear v2 v3
                    go_wp2_with fail
                    go_roundw
                    case rel => exact ⟨r + 1, a5 ++ z, vint (by omega), by rw [str2], by omega, HRD, HJ1, by rw [List.length_append]; omega⟩
                    case measure => simp [intN]; omega
                  · skip
                    have he : t.name.isEmpty = false := by cases h9 : t.name with | nil => exact absurd h9 hnm | cons a r => rfl
                    have HNM := hd hnm
                    clear hnm
                    have HJ1 : Hid (a5 = a2 ++ Pr.join Pr.tAnd ((y.take (r + 1)).map Pr.testS)) := hd (by rw [HJ.out, if_neg HNM.out, List.append_nil])
                    go_wp2_with fail
                    go_roundw
                    case rel => exact ⟨r + 1, a5, vint (by omega), rfl, by omega, HRD, HJ1, by omega⟩
                    case measure => simp [intN]; omega
              · skip
                have s1 : ¬ (r : Int) < (yn : Int) := by omega
                have HEE : Hid (a3 = a2 ++ Pr.join Pr.tAnd (y.map Pr.testS)) := hd (by have h9 := HA3.out; rw [take_all HYN.out hlr] at h9; exact h9)
                have HCV : Hid (Chg [] wy wr) := hd (HPC.out.trans HRC.out (by simp))
                have HWS : Hid (a3 = a0 ++ Pr.whensS Pr.tWhen (x.whn.take (p + 1))) := hd (by rw [HEE.out, Ha2.out, HA1.out, whens_step HPY.out]; simp only [List.append_assoc])
                go_wp2_with fail
                go_roundw
                case rel => exact ⟨p + 1, a3, vint (by omega), rfl, by omega, HCV, HWS, by omega⟩
                case measure => simp [intN]; omega
          · skip
            have t1 : ¬ (p : Int) < (m : Int) := by omega
            have HWE : Hid (a1 = a0 ++ Pr.whensS Pr.tWhen x.whn) := hd (by have h9 := HA1.out; rw [take_all HMN.out hlp] at h9; exact h9)
            have y1 : ¬ 9223372036854775807 < a1.length + 2 := by omega
            have HCV : Hid (Chg [] w2 wr) := hd (((HC.out.trans C4.out (by simp)).trans HY.out (by simp)).trans HPC.out (by simp))
            have HSTP : Hid (a1 ++ [59, 10] = Pr.adds [] ((l.take (j + 1)).map (fun x => Pr.lineB (Pr.itemL x)))) := hd (by rw [← adds_more HX.out HO.out HS2.out, HWE.out, Ha0.out, HTX.out]; simp [Pr.lineB, Pr.itemL, Pr.tSemi])
            go_wp2_with fail
            go_roundw
            case rel => exact ⟨j + 1, a1 ++ [59, 10], vint (by omega), by rw [show (⟨a1.toArray⟩ : ByteArray) ++ ⟨#[59, 10]⟩ = ⟨(a1 ++ [59, 10]).toArray⟩ from str2 _ _], by omega, HCV, HSTP, by rw [List.length_append]; show _ + 2 ≤ _; omega⟩
            case measure => simp [intN]; omega
       · skip
         have y0 : ¬ (acc.length : Int) ≤ 20000 := by omega
         have z1 : (j : Int) < (n : Int) := by omega
         have HE : Hid (acc = Pr.adds [] (l.map (fun x => Pr.lineB (Pr.itemL x)))) := hd (by have h8 := List.take_append_drop j l; rw [← h8, List.map_append, Pr.adds_append, ← HO.out]; exact (Pr.adds_big (by omega) _).symm)
         go_wp2_with fail
         refine end8_r acc (fun w9 h9 => ?_)
         have H9 := hd h9
         clear h9
         rw [← HEND.out acc HE.out]
         go_wp2_with fail
         exact HRR.out w9 ((HQ2.out.trans HC.out (by simp)).trans H9.out (by simp))
     · skip
       have z1 : ¬ (j : Int) < (n : Int) := by omega
       have HE : Hid (acc = Pr.adds [] (l.map (fun x => Pr.lineB (Pr.itemL x)))) := hd (by have h9 := HO.out; rw [take_all HN.out hlt] at h9; exact h9)
       go_wp2_with fail
       refine end8_r acc (fun w9 h9 => ?_)
       have H9 := hd h9
       clear h9
       rw [← HEND.out acc HE.out]
       go_wp2_with fail
       exact HRR.out w9 ((HQ2.out.trans HC.out (by simp)).trans H9.out (by simp))
end Go.Proofs.YtgbooiaedbpenaaDoor
