/-
  Layer 22: the reference's next.
-/
import Derived.Test.YtghhddpaloogmaaDoorLxO
import Derived.Test.YtghhddpaloogmaaDoorLxN
import Derived.Test.YtghhddpaloogmaaDoorLwBegin
import Derived.Test.YtghhddpaloogmaaDoorLxTa
namespace Go.Proofs.YtghhddpaloogmaaDoor
set_option linter.unusedVariables false
set_option linter.unusedSimpArgs false
open Go Go.RowKit Go.Shelf
attribute [local irreducible] Lx.tab Lx.tab0 Lx.cls Go.wpStill

set_option maxRecDepth 100000 in
set_option maxHeartbeats 4000000 in
theorem next_sym (w : World) (s : Bytes) (hs : s.length ≤ 1000000) (i : Nat) (hi : i < s.length) (HT : Hid (Lx.cls s[i] ≠ 1 ∧ Lx.cls s[i] ≠ 2)) (hcl : Lx.at' s i ≠ 3 ∧ Lx.at' s i ≠ 4) :
    Calls Tryd.prog 22 #[.string ⟨s.toArray⟩, .int .i64 (i : Int)] w (NextR s i w) := by
  obtain ⟨sb, hsb⟩ : ∃ sb : ByteArray, sb = ⟨s.toArray⟩ := ⟨_, rfl⟩
  have HSB := Lib.hid hsb
  have HSZ : Hid (sb.size = s.length) := Lib.hid (by rw [hsb]; exact size_of s)
  rw [← hsb]
  clear hsb
  have q1 : (i : Int) < (sb.size : Int) := by rw [HSZ.out]; omega
  have q0 : (0 : Int) ≤ (i : Int) := by omega
  have hkk : i < sb.size := by rw [HSZ.out]; exact hi
  have HGE := Lib.hid (sb_get HSB hkk hi)
  have HTK := Lib.hid (Lx.tok_at s i hi)
  have HLT := Lib.hid hi
  rw [← Lx.at'_lt hi] at HTK
  obtain ⟨c, hc⟩ : ∃ c, Lx.at' s i = c := ⟨_, rfl⟩
  rw [hc] at HTK
  have HCc : Hid (Lx.cls s[i] = c) := Lib.hid ((Lx.at'_lt hi).symm.trans hc)
  have HT' : Hid (c ≠ 1 ∧ c ≠ 2) := Lib.hid (by rw [← HCc.out]; exact HT.out)
  have HCb : Hid (Lx.cls sb[i] = c) := Lib.hid (by rw [HGE.out]; exact HCc.out)
  have hcl' : c ≠ 3 ∧ c ≠ 4 := by rw [hc] at hcl; exact hcl
  clear hc HT hcl
  go_enter Tryd.func22, Tryd.ntmps22
  go_wp2_with fail
  have hb4 := (Blk.new w [.int .i64 0, .string ⟨#[]⟩, .int .i64 0, .int .i64 0] 30).alloc (.cells #[.int .i64 0, .string ⟨#[]⟩, .int .i64 0, .int .i64 i] 30)
  have hb7 := Blk.new (w.alloc (.cells #[.int .i64 0, .string ⟨#[]⟩, .int .i64 0, .int .i64 0] 30)) [.int .i64 0, .string ⟨#[]⟩, .int .i64 0, .int .i64 i] 30
  have hcc : Chg [] w ((w.alloc (.cells #[.int .i64 0, .string ⟨#[]⟩, .int .i64 0, .int .i64 0] 30)).alloc (.cells #[.int .i64 0, .string ⟨#[]⟩, .int .i64 0, .int .i64 i] 30)) := ((Chg.refl _ _).alloc _).alloc _
  simp only [World.size_alloc] at hb7 ⊢
  obtain ⟨W1, hW1⟩ : ∃ W1, W1 = (w.alloc (.cells #[.int .i64 0, .string ⟨#[]⟩, .int .i64 0, .int .i64 0] 30)).alloc (.cells #[.int .i64 0, .string ⟨#[]⟩, .int .i64 0, .int .i64 i] 30) := ⟨_, rfl⟩
  rw [← hW1] at hb4 hb7 hcc ⊢
  obtain ⟨b4, e4⟩ : ∃ b4, b4 = w.heap.size := ⟨_, rfl⟩
  obtain ⟨b7, e7⟩ : ∃ b7, b7 = b4 + 1 := ⟨_, rfl⟩
  rw [← e4, ← e7] at hb7
  rw [← e4] at hb4
  rw [← e4, ← e7]
  have n47 : ¬ b4 = b7 := by omega
  have n74 : ¬ b7 = b4 := by omega
  have HB4 := Lib.hid hb4
  have HB7 := Lib.hid hb7
  have HC1 := Lib.hid hcc
  have HW4 : Hid (w.heap.size ≤ b4 ∧ w.heap.size ≤ b7) := Lib.hid (by omega)
  have y0 := hb4.cell (i := 0) rfl
  have y1 := hb4.cell (i := 1) rfl
  have y2 := hb4.cell (i := 2) rfl
  have y3 := hb4.cell (i := 3) rfl
  have z0 := hb7.cell (i := 0) rfl
  have z1 := hb7.cell (i := 1) rfl
  have z2 := hb7.cell (i := 2) rfl
  have z3 := hb7.cell (i := 3) rfl
  have fy0 := hb4.free 0
  have fy1 := hb4.free 1
  have fy2 := hb4.free 2
  have fy3 := hb4.free 3
  have fz0 := hb7.free 0
  have fz1 := hb7.free 1
  have fz2 := hb7.free 2
  have fz3 := hb7.free 3
  clear hW1 hb4 hb7 hcc e4 e7
  refine (letter_b _ sb[i] false (decide_eq_false (by rw [HCb.out]; exact hcl'.1))).mono ?_
  rintro e W2 ⟨rfl, rfl⟩
  go_wp2_with fail
  refine (digit_b _ sb[i] false (decide_eq_false (by rw [HCb.out]; exact hcl'.2))).mono ?_
  rintro e W2 ⟨rfl, rfl⟩
  have hc8 : c ≤ 8 := by rw [← HCc.out]; exact Lx.cls_le _
  have hc12 := HT'.out
  have r1 : (i : Int) ≤ (i : Int) + 1 := by omega
  have r2 : (i : Int) + 1 ≤ (sb.size : Int) := by omega
  have r3 : (i : Int) ≤ (i : Int) + 1 + 1 := by omega
  have hsz2 := HSZ.out
  go_wp2_with fail
  obtain rfl | rfl | rfl | rfl | rfl : c = 0 ∨ c = 5 ∨ c = 6 ∨ c = 7 ∨ c = 8 := by omega
  · refine (has_spec _ [33, 60, 62] (by decide) sb[i] false (Lib.hid ((Lx.pre_has _).trans (decide_eq_false (by rw [HCb.out]; decide))))).mono ?_
    rintro e W2 ⟨rfl, rfl⟩
    go_wp2_with fail
    refine (has_spec _ [59, 44, 46, 58, 40, 41, 123, 125, 61, 60, 62, 43, 45, 47] (by decide) sb[i] false (Lib.hid ((Lx.sym_has _).trans (decide_eq_false (by rw [HCb.out]; decide))))).mono ?_
    rintro e W2 ⟨rfl, rfl⟩
    go_wp2_with fail
    have HE : Hid ((Lx.tok (s.drop i)).2.2 = 5) := Lib.hid (by rw [HTK.out]; rfl)
    exact bodyPost_ret (v := .tuple #[.agg #[.int .i64 0, .string ⟨#[]⟩, .int .i64 0, .int .i64 0], .int .i64 5]) (by simp [results, Tryd.results22, go_sem, n47, n74, y0, y1, y2, y3, z0, z1, z2, z3]) rfl ⟨_, 5, rfl, Lib.hid ⟨HE.out.symm, _, _, _, _, rfl, fun h => by cases h⟩, (((((HC1.out).setCell _ _ (.inr HW4.out.2)).setCell _ _ (.inr HW4.out.1)).setCell _ _ (.inr HW4.out.1)).setCell _ _ (.inr HW4.out.1)).setCell _ _ (.inr HW4.out.1)⟩
  · refine (has_spec _ [33, 60, 62] (by decide) sb[i] false (Lib.hid ((Lx.pre_has _).trans (decide_eq_false (by rw [HCb.out]; decide))))).mono ?_
    rintro e W2 ⟨rfl, rfl⟩
    go_wp2_with fail
    refine (has_spec _ [59, 44, 46, 58, 40, 41, 123, 125, 61, 60, 62, 43, 45, 47] (by decide) sb[i] false (Lib.hid ((Lx.sym_has _).trans (decide_eq_false (by rw [HCb.out]; decide))))).mono ?_
    rintro e W2 ⟨rfl, rfl⟩
    go_wp2_with fail
    have HE : Hid ((Lx.tok (s.drop i)).2.2 = 5) := Lib.hid (by rw [HTK.out]; rfl)
    exact bodyPost_ret (v := .tuple #[.agg #[.int .i64 0, .string ⟨#[]⟩, .int .i64 0, .int .i64 0], .int .i64 5]) (by simp [results, Tryd.results22, go_sem, n47, n74, y0, y1, y2, y3, z0, z1, z2, z3]) rfl ⟨_, 5, rfl, Lib.hid ⟨HE.out.symm, _, _, _, _, rfl, fun h => by cases h⟩, (((((HC1.out).setCell _ _ (.inr HW4.out.2)).setCell _ _ (.inr HW4.out.1)).setCell _ _ (.inr HW4.out.1)).setCell _ _ (.inr HW4.out.1)).setCell _ _ (.inr HW4.out.1)⟩
  · refine (has_spec _ [33, 60, 62] (by decide) sb[i] false (Lib.hid ((Lx.pre_has _).trans (decide_eq_false (by rw [HCb.out]; decide))))).mono ?_
    rintro e W2 ⟨rfl, rfl⟩
    go_wp2_with fail
    refine (has_spec _ [59, 44, 46, 58, 40, 41, 123, 125, 61, 60, 62, 43, 45, 47] (by decide) sb[i] true (Lib.hid ((Lx.sym_has _).trans (decide_eq_true (by rw [HCb.out]; decide))))).mono ?_
    rintro e W2 ⟨rfl, rfl⟩
    go_upto_region 25 with fail
    obtain ⟨m, hm⟩ : ∃ m, m = i + 1 := ⟨_, rfl⟩
    have hm1 : (i : Int) + 1 = (m : Int) := by omega
    have hm2 : (i : Int) ≤ (m : Int) := by omega
    have hm3 : (m : Int) ≤ (sb.size : Int) := by omega
    have hm4 : m - i = 1 := by omega
    have hm5 : i ≤ m := by omega
    have hm6 : m ≤ s.length := by omega
    clear r1 r2 r3
    (first | rw [hm1] | simp only [hm1])
    clear hm hm1
    have HE : Hid ((Lx.tok (s.drop i)).2.2 = 0 ∧ tkv (Lx.mk i (s.drop i)) = .agg #[.int .i64 3, .string (sb.extract i m), .int .i64 0, .int .i64 (i : Int)]) := Lib.hid (by exact tok_ok HSB (by rw [hm4, HTK.out]; rfl) hm5 (by decide) hm6)
    go_wp2_with fail
    exact bodyPost_ret (v := .tuple #[.agg #[.int .i64 3, .string (sb.extract i m), .int .i64 0, .int .i64 (i : Int)], .int .i64 0]) (by simp [results, Tryd.results22, go_sem, n47, n74, y0, y1, y2, y3, z0, z1, z2, z3]) rfl ⟨_, 0, rfl, Lib.hid ⟨HE.out.1.symm, _, _, _, _, rfl, fun _ => HE.out.2.symm⟩, ((((((HC1.out).setCell _ _ (.inr HW4.out.2)).setCell _ _ (.inr HW4.out.2)).setCell _ _ (.inr HW4.out.1)).setCell _ _ (.inr HW4.out.1)).setCell _ _ (.inr HW4.out.1)).setCell _ _ (.inr HW4.out.1)⟩
  · have HS7 : Hid (Lx.tok (s.drop i) = if s[i + 1]? = some 61 then (3, 2, 0) else (3, 1, 0)) := Lib.hid (by rw [HTK.out]; simp)
    refine (has_spec _ [33, 60, 62] (by decide) sb[i] true (Lib.hid ((Lx.pre_has _).trans (decide_eq_true (by rw [HCb.out]; decide))))).mono ?_
    rintro e W2 ⟨rfl, rfl⟩
    by_cases hi1 : i + 1 < s.length
    · have j1 : (i : Int) + 1 < (sb.size : Int) := by omega
      have j2 : (i : Int) + 1 + 1 ≤ (sb.size : Int) := by omega
      have j0 : (0 : Int) ≤ (i : Int) + 1 := by omega
      have hi2 : i + 1 < sb.size := by omega
      obtain ⟨bb, hbb⟩ : ∃ bb, ((sb[i + 1].toNat : Int) == 61) = bb := ⟨_, rfl⟩
      have h61 := eq61 HSB hi2 bb hbb
      cases bb with
      | true =>
        have H61 := Lib.hid (h61.2 rfl)
        clear h61
        go_upto_region 25 with fail
        obtain ⟨m, hm⟩ : ∃ m, m = i + 2 := ⟨_, rfl⟩
        have hm1 : (i : Int) + 1 + 1 = (m : Int) := by omega
        have hm2 : (i : Int) ≤ (m : Int) := by omega
        have hm3 : (m : Int) ≤ (sb.size : Int) := by omega
        have hm4 : m - i = 2 := by omega
        have hm5 : i ≤ m := by omega
        have hm6 : m ≤ s.length := by omega
        clear r1 r2 r3
        (first | rw [hm1] | simp only [hm1])
        clear hm hm1
        have HE : Hid ((Lx.tok (s.drop i)).2.2 = 0 ∧ tkv (Lx.mk i (s.drop i)) = .agg #[.int .i64 3, .string (sb.extract i m), .int .i64 0, .int .i64 (i : Int)]) := Lib.hid (by exact tok_ok HSB (by rw [hm4, HS7.out, if_pos H61.out]) hm5 (by decide) hm6)
        go_wp2_with fail
        exact bodyPost_ret (v := .tuple #[.agg #[.int .i64 3, .string (sb.extract i m), .int .i64 0, .int .i64 (i : Int)], .int .i64 0]) (by simp [results, Tryd.results22, go_sem, n47, n74, y0, y1, y2, y3, z0, z1, z2, z3]) rfl ⟨_, 0, rfl, Lib.hid ⟨HE.out.1.symm, _, _, _, _, rfl, fun _ => HE.out.2.symm⟩, ((((((HC1.out).setCell _ _ (.inr HW4.out.2)).setCell _ _ (.inr HW4.out.2)).setCell _ _ (.inr HW4.out.1)).setCell _ _ (.inr HW4.out.1)).setCell _ _ (.inr HW4.out.1)).setCell _ _ (.inr HW4.out.1)⟩
      | false =>
        have H61 : Hid (¬ s[i + 1]? = some 61) := Lib.hid (fun h => by have := h61.1 h; cases this)
        clear h61
        go_wp2_with fail
        refine (has_spec _ [59, 44, 46, 58, 40, 41, 123, 125, 61, 60, 62, 43, 45, 47] (by decide) sb[i] true (Lib.hid ((Lx.sym_has _).trans (decide_eq_true (by rw [HCb.out]; decide))))).mono ?_
        rintro e W2 ⟨rfl, rfl⟩
        go_upto_region 25 with fail
        obtain ⟨m, hm⟩ : ∃ m, m = i + 1 := ⟨_, rfl⟩
        have hm1 : (i : Int) + 1 = (m : Int) := by omega
        have hm2 : (i : Int) ≤ (m : Int) := by omega
        have hm3 : (m : Int) ≤ (sb.size : Int) := by omega
        have hm4 : m - i = 1 := by omega
        have hm5 : i ≤ m := by omega
        have hm6 : m ≤ s.length := by omega
        clear r1 r2 r3
        (first | rw [hm1] | simp only [hm1])
        clear hm hm1
        have HE : Hid ((Lx.tok (s.drop i)).2.2 = 0 ∧ tkv (Lx.mk i (s.drop i)) = .agg #[.int .i64 3, .string (sb.extract i m), .int .i64 0, .int .i64 (i : Int)]) := Lib.hid (by exact tok_ok HSB (by rw [hm4, HS7.out, if_neg H61.out]) hm5 (by decide) hm6)
        go_wp2_with fail
        exact bodyPost_ret (v := .tuple #[.agg #[.int .i64 3, .string (sb.extract i m), .int .i64 0, .int .i64 (i : Int)], .int .i64 0]) (by simp [results, Tryd.results22, go_sem, n47, n74, y0, y1, y2, y3, z0, z1, z2, z3]) rfl ⟨_, 0, rfl, Lib.hid ⟨HE.out.1.symm, _, _, _, _, rfl, fun _ => HE.out.2.symm⟩, ((((((HC1.out).setCell _ _ (.inr HW4.out.2)).setCell _ _ (.inr HW4.out.2)).setCell _ _ (.inr HW4.out.1)).setCell _ _ (.inr HW4.out.1)).setCell _ _ (.inr HW4.out.1)).setCell _ _ (.inr HW4.out.1)⟩
    · have j1 : ¬ (i : Int) + 1 < (sb.size : Int) := by omega
      go_wp2_with fail
      refine (has_spec _ [59, 44, 46, 58, 40, 41, 123, 125, 61, 60, 62, 43, 45, 47] (by decide) sb[i] true (Lib.hid ((Lx.sym_has _).trans (decide_eq_true (by rw [HCb.out]; decide))))).mono ?_
      rintro e W2 ⟨rfl, rfl⟩
      go_upto_region 25 with fail
      obtain ⟨m, hm⟩ : ∃ m, m = i + 1 := ⟨_, rfl⟩
      have hm1 : (i : Int) + 1 = (m : Int) := by omega
      have hm2 : (i : Int) ≤ (m : Int) := by omega
      have hm3 : (m : Int) ≤ (sb.size : Int) := by omega
      have hm4 : m - i = 1 := by omega
      have hm5 : i ≤ m := by omega
      have hm6 : m ≤ s.length := by omega
      clear r1 r2 r3
      (first | rw [hm1] | simp only [hm1])
      clear hm hm1
      have HE : Hid ((Lx.tok (s.drop i)).2.2 = 0 ∧ tkv (Lx.mk i (s.drop i)) = .agg #[.int .i64 3, .string (sb.extract i m), .int .i64 0, .int .i64 (i : Int)]) := Lib.hid (by exact tok_ok HSB (by rw [hm4, HS7.out, List.getElem?_eq_none (by omega)]; rfl) hm5 (by decide) hm6)
      go_wp2_with fail
      exact bodyPost_ret (v := .tuple #[.agg #[.int .i64 3, .string (sb.extract i m), .int .i64 0, .int .i64 (i : Int)], .int .i64 0]) (by simp [results, Tryd.results22, go_sem, n47, n74, y0, y1, y2, y3, z0, z1, z2, z3]) rfl ⟨_, 0, rfl, Lib.hid ⟨HE.out.1.symm, _, _, _, _, rfl, fun _ => HE.out.2.symm⟩, ((((((HC1.out).setCell _ _ (.inr HW4.out.2)).setCell _ _ (.inr HW4.out.2)).setCell _ _ (.inr HW4.out.1)).setCell _ _ (.inr HW4.out.1)).setCell _ _ (.inr HW4.out.1)).setCell _ _ (.inr HW4.out.1)⟩
  · have HS7 : Hid (Lx.tok (s.drop i) = if s[i + 1]? = some 61 then (3, 2, 0) else (3, 1, 5)) := Lib.hid (by rw [HTK.out]; simp)
    refine (has_spec _ [33, 60, 62] (by decide) sb[i] true (Lib.hid ((Lx.pre_has _).trans (decide_eq_true (by rw [HCb.out]; decide))))).mono ?_
    rintro e W2 ⟨rfl, rfl⟩
    by_cases hi1 : i + 1 < s.length
    · have j1 : (i : Int) + 1 < (sb.size : Int) := by omega
      have j2 : (i : Int) + 1 + 1 ≤ (sb.size : Int) := by omega
      have j0 : (0 : Int) ≤ (i : Int) + 1 := by omega
      have hi2 : i + 1 < sb.size := by omega
      obtain ⟨bb, hbb⟩ : ∃ bb, ((sb[i + 1].toNat : Int) == 61) = bb := ⟨_, rfl⟩
      have h61 := eq61 HSB hi2 bb hbb
      cases bb with
      | true =>
        have H61 := Lib.hid (h61.2 rfl)
        clear h61
        go_upto_region 25 with fail
        obtain ⟨m, hm⟩ : ∃ m, m = i + 2 := ⟨_, rfl⟩
        have hm1 : (i : Int) + 1 + 1 = (m : Int) := by omega
        have hm2 : (i : Int) ≤ (m : Int) := by omega
        have hm3 : (m : Int) ≤ (sb.size : Int) := by omega
        have hm4 : m - i = 2 := by omega
        have hm5 : i ≤ m := by omega
        have hm6 : m ≤ s.length := by omega
        clear r1 r2 r3
        (first | rw [hm1] | simp only [hm1])
        clear hm hm1
        have HE : Hid ((Lx.tok (s.drop i)).2.2 = 0 ∧ tkv (Lx.mk i (s.drop i)) = .agg #[.int .i64 3, .string (sb.extract i m), .int .i64 0, .int .i64 (i : Int)]) := Lib.hid (by exact tok_ok HSB (by rw [hm4, HS7.out, if_pos H61.out]) hm5 (by decide) hm6)
        go_wp2_with fail
        exact bodyPost_ret (v := .tuple #[.agg #[.int .i64 3, .string (sb.extract i m), .int .i64 0, .int .i64 (i : Int)], .int .i64 0]) (by simp [results, Tryd.results22, go_sem, n47, n74, y0, y1, y2, y3, z0, z1, z2, z3]) rfl ⟨_, 0, rfl, Lib.hid ⟨HE.out.1.symm, _, _, _, _, rfl, fun _ => HE.out.2.symm⟩, ((((((HC1.out).setCell _ _ (.inr HW4.out.2)).setCell _ _ (.inr HW4.out.2)).setCell _ _ (.inr HW4.out.1)).setCell _ _ (.inr HW4.out.1)).setCell _ _ (.inr HW4.out.1)).setCell _ _ (.inr HW4.out.1)⟩
      | false =>
        have H61 : Hid (¬ s[i + 1]? = some 61) := Lib.hid (fun h => by have := h61.1 h; cases this)
        clear h61
        go_wp2_with fail
        refine (has_spec _ [59, 44, 46, 58, 40, 41, 123, 125, 61, 60, 62, 43, 45, 47] (by decide) sb[i] false (Lib.hid ((Lx.sym_has _).trans (decide_eq_false (by rw [HCb.out]; decide))))).mono ?_
        rintro e W2 ⟨rfl, rfl⟩
        go_wp2_with fail
        have HE : Hid ((Lx.tok (s.drop i)).2.2 = 5) := Lib.hid (by rw [HS7.out, if_neg H61.out])
        exact bodyPost_ret (v := .tuple #[.agg #[.int .i64 0, .string ⟨#[]⟩, .int .i64 0, .int .i64 0], .int .i64 5]) (by simp [results, Tryd.results22, go_sem, n47, n74, y0, y1, y2, y3, z0, z1, z2, z3]) rfl ⟨_, 5, rfl, Lib.hid ⟨HE.out.symm, _, _, _, _, rfl, fun h => by cases h⟩, (((((HC1.out).setCell _ _ (.inr HW4.out.2)).setCell _ _ (.inr HW4.out.1)).setCell _ _ (.inr HW4.out.1)).setCell _ _ (.inr HW4.out.1)).setCell _ _ (.inr HW4.out.1)⟩
    · have j1 : ¬ (i : Int) + 1 < (sb.size : Int) := by omega
      go_wp2_with fail
      refine (has_spec _ [59, 44, 46, 58, 40, 41, 123, 125, 61, 60, 62, 43, 45, 47] (by decide) sb[i] false (Lib.hid ((Lx.sym_has _).trans (decide_eq_false (by rw [HCb.out]; decide))))).mono ?_
      rintro e W2 ⟨rfl, rfl⟩
      go_wp2_with fail
      have HE : Hid ((Lx.tok (s.drop i)).2.2 = 5) := Lib.hid (by rw [HS7.out, List.getElem?_eq_none (by omega)]; rfl)
      exact bodyPost_ret (v := .tuple #[.agg #[.int .i64 0, .string ⟨#[]⟩, .int .i64 0, .int .i64 0], .int .i64 5]) (by simp [results, Tryd.results22, go_sem, n47, n74, y0, y1, y2, y3, z0, z1, z2, z3]) rfl ⟨_, 5, rfl, Lib.hid ⟨HE.out.symm, _, _, _, _, rfl, fun h => by cases h⟩, (((((HC1.out).setCell _ _ (.inr HW4.out.2)).setCell _ _ (.inr HW4.out.1)).setCell _ _ (.inr HW4.out.1)).setCell _ _ (.inr HW4.out.1)).setCell _ _ (.inr HW4.out.1)⟩
end Go.Proofs.YtghhddpaloogmaaDoor
