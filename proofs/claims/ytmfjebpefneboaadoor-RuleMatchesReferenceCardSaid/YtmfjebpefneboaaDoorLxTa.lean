/-
  Layer 22: the reference's next.
-/
import Derived.Test.YtmfjebpefneboaaDoorLxW
import Derived.Test.YtmfjebpefneboaaDoorLxN
namespace Go.Proofs.YtmfjebpefneboaaDoor
set_option linter.unusedVariables false
set_option linter.unusedSimpArgs false
open Go Go.RowKit Go.Shelf
attribute [local irreducible] Lx.tab Lx.tab0 Lx.cls Go.wpStill

namespace Lx
theorem num_snoc (l : Bytes) (c : UInt8) : num (l ++ [c]) = 10 * num l + (c.toNat - 48) := by
  unfold num
  rw [List.foldl_append]
  rfl
theorem num_lt : ∀ (n : Nat) (l : Bytes), l.length = n → (∀ c ∈ l, c.toNat ≤ 57) → num l < 10 ^ n
  | 0, l, h, _ => by
    have : l = [] := List.eq_nil_of_length_eq_zero h
    subst this
    decide
  | n + 1, l, h, hd => by
    obtain ⟨p, c, rfl⟩ : ∃ p c, l = p ++ [c] := ⟨l.dropLast, l.getLast (by intro e; rw [e] at h; cases h), (List.dropLast_concat_getLast _).symm⟩
    have ih := num_lt n p (by simpa using h) (fun x hx => hd x (by simp [hx]))
    have hc := hd c (by simp)
    rw [num_snoc, Nat.pow_succ]
    omega
theorem at_word (s : Bytes) (j : Nat) (h : j < s.length) : (at' s j = 3 ∨ at' s j = 4 ∨ at' s j = 5) = (word s[j] = true) := by
  rw [at'_lt h]
  unfold word
  simp
end Lx
theorem letter_b (w : World) (c : UInt8) (b : Bool) (h : decide (Lx.cls c = 3) = b) : Calls Tryd.prog 56 #[.int .u8 (c.toNat : Int)] w fun e w' => e = .returned (.bool b) ∧ w' = w := by
  rw [← h]
  exact letter_spec w c
theorem digit_b (w : World) (c : UInt8) (b : Bool) (h : decide (Lx.cls c = 4) = b) : Calls Tryd.prog 58 #[.int .u8 (c.toNat : Int)] w fun e w' => e = .returned (.bool b) ∧ w' = w := by
  rw [← h]
  exact digit_spec w c
theorem word_b (w : World) (c : UInt8) (b : Bool) (h : Lx.word c = b) : Calls Tryd.prog 57 #[.int .u8 (c.toNat : Int)] w fun e w' => e = .returned (.bool b) ∧ w' = w := by
  rw [← h]
  exact word_spec w c
theorem sub_mid' (s : Bytes) (i n : Nat) : (⟨s.toArray⟩ : ByteArray).extract i (i + n) = ⟨((s.drop i).take n).toArray⟩ := by
  rw [ByteArray.extract_mk]
  simp
theorem tok_ok {s : Bytes} {sb : ByteArray} (HSB : Hid (sb = ⟨s.toArray⟩)) {i m kd : Nat} (h : Lx.tok (s.drop i) = (kd, m - i, 0)) (him : i ≤ m) (hk : kd ≠ 2) (hm : m ≤ s.length) :
    (Lx.tok (s.drop i)).2.2 = 0 ∧ tkv (Lx.mk i (s.drop i)) = .agg #[.int .i64 kd, .string (sb.extract i m), .int .i64 0, .int .i64 (i : Int)] := by
  refine ⟨by rw [h], ?_⟩
  have e : sb.extract i m = ⟨((s.drop i).take (m - i)).toArray⟩ := by
    have := sub_mid' s i (m - i)
    rw [Nat.add_sub_cancel' him] at this
    rw [HSB.out, this]
  rw [e]
  unfold tkv Lx.mk
  rw [h]
  simp only [hk, false_and, if_false]
  rfl
theorem tok_ok2 {s : Bytes} {sb : ByteArray} (HSB : Hid (sb = ⟨s.toArray⟩)) {i m n : Nat} (h : Lx.tok (s.drop i) = (2, m - i, 0)) (him : i ≤ m) (hn : Lx.num ((s.drop i).take (m - i)) = n) (hm : m ≤ s.length) :
    (Lx.tok (s.drop i)).2.2 = 0 ∧ tkv (Lx.mk i (s.drop i)) = .agg #[.int .i64 2, .string (sb.extract i m), .int .i64 (n : Int), .int .i64 (i : Int)] := by
  refine ⟨by rw [h], ?_⟩
  have e : sb.extract i m = ⟨((s.drop i).take (m - i)).toArray⟩ := by
    have := sub_mid' s i (m - i)
    rw [Nat.add_sub_cancel' him] at this
    rw [HSB.out, this]
  rw [e]
  unfold tkv Lx.mk
  rw [h]
  simp only [and_self, if_true, hn]
  rfl
/-- What next returns. -/
def NextR (s : Bytes) (i : Nat) (w : World) (e : Ending) (w' : World) : Prop := ∃ (tk : Value) (er : Nat), e = .returned (.tuple #[tk, .int .i64 er]) ∧ Hid (er = (Lx.tok (s.drop i)).2.2 ∧ ∃ (k : Int) (x : ByteArray) (n a : Int), tk = .agg #[.int .i64 k, .string x, .int .i64 n, .int .i64 a] ∧ (er = 0 → tk = tkv (Lx.mk i (s.drop i)))) ∧ Chg [] w w'
theorem next_chg {w W : World} {b4 b7 : Nat} (h4 : w.heap.size ≤ b4) (h7 : w.heap.size ≤ b7) (h : Chg [b4, b7] w W) : Chg [] w W := ⟨h.os, h.tape, h.output, h.size, fun k hk _ => h.block k hk (by simp; omega)⟩
set_option maxRecDepth 100000 in
set_option maxHeartbeats 4000000 in
theorem next_letter (w : World) (s : Bytes) (hs : s.length ≤ 1000000) (i : Nat) (hi : i < s.length) (HT : Hid (Lx.cls s[i] ≠ 1 ∧ Lx.cls s[i] ≠ 2)) (hcl : Lx.at' s i = 3) :
    Calls Tryd.prog 40 #[.string ⟨s.toArray⟩, .int .i64 (i : Int)] w (NextR s i w) := by
  obtain ⟨sb, hsb⟩ : ∃ sb : ByteArray, sb = ⟨s.toArray⟩ := ⟨_, rfl⟩
  have HSB := Lib.hid hsb
  have HSZ : Hid (sb.size = s.length) := Lib.hid (by rw [hsb]; exact size_of s)
  rw [← hsb]
  clear hsb
  have q1 : (i : Int) < (sb.size : Int) := by rw [HSZ.out]; omega
  have q0 : (0 : Int) ≤ (i : Int) := by omega
  have hkk : i < sb.size := by rw [HSZ.out]; exact hi
  have HGE := Lib.hid (sb_get HSB hkk hi)
  have HTK := Lib.hid (Lx.tok_at s i hi)
  have HLT := Lib.hid hi
  rw [← Lx.at'_lt hi] at HTK
  obtain ⟨c, hc⟩ : ∃ c, Lx.at' s i = c := ⟨_, rfl⟩
  rw [hc] at HTK
  have HCc : Hid (Lx.cls s[i] = c) := Lib.hid ((Lx.at'_lt hi).symm.trans hc)
  have HT' : Hid (c ≠ 1 ∧ c ≠ 2) := Lib.hid (by rw [← HCc.out]; exact HT.out)
  have HCb : Hid (Lx.cls sb[i] = c) := Lib.hid (by rw [HGE.out]; exact HCc.out)
  have hcl' : c = 3 := by rw [hc] at hcl; exact hcl
  clear hc HT hcl
  go_enter Tryd.func40, Tryd.ntmps40
  go_wp2_with fail
  have hb4 := (Blk.new w [.int .i64 0, .string ⟨#[]⟩, .int .i64 0, .int .i64 0] 44).alloc (.cells #[.int .i64 0, .string ⟨#[]⟩, .int .i64 0, .int .i64 i] 44)
  have hb7 := Blk.new (w.alloc (.cells #[.int .i64 0, .string ⟨#[]⟩, .int .i64 0, .int .i64 0] 44)) [.int .i64 0, .string ⟨#[]⟩, .int .i64 0, .int .i64 i] 44
  have hcc : Chg [] w ((w.alloc (.cells #[.int .i64 0, .string ⟨#[]⟩, .int .i64 0, .int .i64 0] 44)).alloc (.cells #[.int .i64 0, .string ⟨#[]⟩, .int .i64 0, .int .i64 i] 44)) := ((Chg.refl _ _).alloc _).alloc _
  simp only [World.size_alloc] at hb7 ⊢
  obtain ⟨W1, hW1⟩ : ∃ W1, W1 = (w.alloc (.cells #[.int .i64 0, .string ⟨#[]⟩, .int .i64 0, .int .i64 0] 44)).alloc (.cells #[.int .i64 0, .string ⟨#[]⟩, .int .i64 0, .int .i64 i] 44) := ⟨_, rfl⟩
  rw [← hW1] at hb4 hb7 hcc ⊢
  obtain ⟨b4, e4⟩ : ∃ b4, b4 = w.heap.size := ⟨_, rfl⟩
  obtain ⟨b7, e7⟩ : ∃ b7, b7 = b4 + 1 := ⟨_, rfl⟩
  rw [← e4, ← e7] at hb7
  rw [← e4] at hb4
  rw [← e4, ← e7]
  have n47 : ¬ b4 = b7 := by omega
  have n74 : ¬ b7 = b4 := by omega
  have HB4 := Lib.hid hb4
  have HB7 := Lib.hid hb7
  have HC1 := Lib.hid hcc
  have HW4 : Hid (w.heap.size ≤ b4 ∧ w.heap.size ≤ b7) := Lib.hid (by omega)
  have y0 := hb4.cell (i := 0) rfl
  have y1 := hb4.cell (i := 1) rfl
  have y2 := hb4.cell (i := 2) rfl
  have y3 := hb4.cell (i := 3) rfl
  have z0 := hb7.cell (i := 0) rfl
  have z1 := hb7.cell (i := 1) rfl
  have z2 := hb7.cell (i := 2) rfl
  have z3 := hb7.cell (i := 3) rfl
  have fy0 := hb4.free 0
  have fy1 := hb4.free 1
  have fy2 := hb4.free 2
  have fy3 := hb4.free 3
  have fz0 := hb7.free 0
  have fz1 := hb7.free 1
  have fz2 := hb7.free 2
  have fz3 := hb7.free 3
  clear hW1 hb4 hb7 hcc e4 e7
  obtain rfl : c = 3 := hcl'
  have HT3 : Hid (Lx.tok (s.drop i) = (1, Lx.wl Lx.word (s.drop i), if 24 < Lx.wl Lx.word (s.drop i) then 3 else 0)) := Lib.hid HTK.out
  have hw1 := Lx.wl_drop Lx.word s i hi
  rw [if_pos (by unfold Lx.word; exact decide_eq_true (Or.inl HCc.out))] at hw1
  have HW1 := Lib.hid hw1
  clear hw1
  refine (letter_b _ sb[i] true (decide_eq_true HCb.out)).mono ?_
  rintro e W2 ⟨rfl, rfl⟩
  go_upto_region 5 with fail
  go_loop [6] (fun ev => ∃ m : Nat, ev = .int .i64 (m : Int) ∧ i < m ∧ m ≤ s.length ∧ Hid (Lx.wl Lx.word (s.drop i) = (m - i) + Lx.wl Lx.word (s.drop m))) (fun ev => s.length - (intOf ev).toNat)
  case atStart => exact ⟨i + 1, vint (by omega), by omega, by omega, Lib.hid (by rw [HW1.out]; omega)⟩
  case round =>
    obtain ⟨m, rfl, him, hml, hwl⟩ := hrel
    have m0 : (0 : Int) ≤ (m : Int) := by omega
    by_cases hm : m < s.length
    · have m1 : (m : Int) < (sb.size : Int) := by rw [HSZ.out]; omega
      have hmm : m < sb.size := by rw [HSZ.out]; exact hm
      have HGM := Lib.hid (sb_get HSB hmm hm)
      obtain ⟨b, hb⟩ : ∃ b, Lx.word sb[m] = b := ⟨_, rfl⟩
      have HWW := Lib.hid (Lx.wl_drop Lx.word s m hm)
      have HB := Lib.hid hb
      clear hb
      go_wp2_with fail
      refine (word_b _ sb[m] b HB.out).mono ?_
      rintro e W3 ⟨rfl, rfl⟩
      cases b with
      | true =>
        have HN : Hid (Lx.wl Lx.word (s.drop i) = (m + 1 - i) + Lx.wl Lx.word (s.drop (m + 1))) := Lib.hid (by
          rw [hwl.out, HWW.out, if_pos (by rw [← HGM.out]; exact HB.out)]
          omega)
        go_wp2_with fail
        go_round
        case rel => exact ⟨m + 1, vint (by omega), by omega, by omega, HN⟩
        case measure => simp [intOf]; omega
      | false =>
        have HN : Hid (Lx.wl Lx.word (s.drop i) = m - i) := Lib.hid (by
          rw [hwl.out, HWW.out, if_neg (by rw [← HGM.out, HB.out]; decide)]
          omega)
        by_cases h24 : 24 < m - i
        · have k1 : (24 : Int) < (m : Int) - (i : Int) := by omega
          go_wp2_with fail
          have HE : Hid ((Lx.tok (s.drop i)).2.2 = 3) := Lib.hid (by rw [HT3.out, HN.out, if_pos h24])
          exact bodyPost_ret (v := .tuple #[.agg #[.int .i64 0, .string ⟨#[]⟩, .int .i64 0, .int .i64 0], .int .i64 3]) (by simp [results, Tryd.results40, go_sem, n47, n74, y0, y1, y2, y3, z0, z1, z2, z3]) rfl ⟨_, 3, rfl, Lib.hid ⟨HE.out.symm, _, _, _, _, rfl, fun h => by cases h⟩, (((((HC1.out).setCell _ _ (.inr HW4.out.2)).setCell _ _ (.inr HW4.out.1)).setCell _ _ (.inr HW4.out.1)).setCell _ _ (.inr HW4.out.1)).setCell _ _ (.inr HW4.out.1)⟩
        · have k1 : ¬ (24 : Int) < (m : Int) - (i : Int) := by omega
          have r1 : (i : Int) ≤ (m : Int) := by omega
          have r2 : (m : Int) ≤ (sb.size : Int) := by rw [HSZ.out]; omega
          have HE : Hid ((Lx.tok (s.drop i)).2.2 = 0 ∧ tkv (Lx.mk i (s.drop i)) = .agg #[.int .i64 1, .string (sb.extract i m), .int .i64 0, .int .i64 (i : Int)]) := Lib.hid (by exact tok_ok HSB (by rw [HT3.out, HN.out, if_neg h24]) (by omega) (by decide) (by omega))
          go_wp2_with fail
          exact bodyPost_ret (v := .tuple #[.agg #[.int .i64 1, .string (sb.extract i m), .int .i64 0, .int .i64 (i : Int)], .int .i64 0]) (by simp [results, Tryd.results40, go_sem, n47, n74, y0, y1, y2, y3, z0, z1, z2, z3]) rfl ⟨_, 0, rfl, Lib.hid ⟨HE.out.1.symm, _, _, _, _, rfl, fun _ => HE.out.2.symm⟩, ((((((HC1.out).setCell _ _ (.inr HW4.out.2)).setCell _ _ (.inr HW4.out.2)).setCell _ _ (.inr HW4.out.1)).setCell _ _ (.inr HW4.out.1)).setCell _ _ (.inr HW4.out.1)).setCell _ _ (.inr HW4.out.1)⟩
    · have m1 : ¬ (m : Int) < (sb.size : Int) := by rw [HSZ.out]; omega
      have HN : Hid (Lx.wl Lx.word (s.drop i) = m - i) := Lib.hid (by rw [hwl.out, Lx.wl_end _ _ _ (by omega)]; omega)
      by_cases h24 : 24 < m - i
      · have k1 : (24 : Int) < (m : Int) - (i : Int) := by omega
        go_wp2_with fail
        have HE : Hid ((Lx.tok (s.drop i)).2.2 = 3) := Lib.hid (by rw [HT3.out, HN.out, if_pos h24])
        exact bodyPost_ret (v := .tuple #[.agg #[.int .i64 0, .string ⟨#[]⟩, .int .i64 0, .int .i64 0], .int .i64 3]) (by simp [results, Tryd.results40, go_sem, n47, n74, y0, y1, y2, y3, z0, z1, z2, z3]) rfl ⟨_, 3, rfl, Lib.hid ⟨HE.out.symm, _, _, _, _, rfl, fun h => by cases h⟩, (((((HC1.out).setCell _ _ (.inr HW4.out.2)).setCell _ _ (.inr HW4.out.1)).setCell _ _ (.inr HW4.out.1)).setCell _ _ (.inr HW4.out.1)).setCell _ _ (.inr HW4.out.1)⟩
      · have k1 : ¬ (24 : Int) < (m : Int) - (i : Int) := by omega
        have r1 : (i : Int) ≤ (m : Int) := by omega
        have r2 : (m : Int) ≤ (sb.size : Int) := by rw [HSZ.out]; omega
        have HE : Hid ((Lx.tok (s.drop i)).2.2 = 0 ∧ tkv (Lx.mk i (s.drop i)) = .agg #[.int .i64 1, .string (sb.extract i m), .int .i64 0, .int .i64 (i : Int)]) := Lib.hid (by exact tok_ok HSB (by rw [HT3.out, HN.out, if_neg h24]) (by omega) (by decide) (by omega))
        go_wp2_with fail
        exact bodyPost_ret (v := .tuple #[.agg #[.int .i64 1, .string (sb.extract i m), .int .i64 0, .int .i64 (i : Int)], .int .i64 0]) (by simp [results, Tryd.results40, go_sem, n47, n74, y0, y1, y2, y3, z0, z1, z2, z3]) rfl ⟨_, 0, rfl, Lib.hid ⟨HE.out.1.symm, _, _, _, _, rfl, fun _ => HE.out.2.symm⟩, ((((((HC1.out).setCell _ _ (.inr HW4.out.2)).setCell _ _ (.inr HW4.out.2)).setCell _ _ (.inr HW4.out.1)).setCell _ _ (.inr HW4.out.1)).setCell _ _ (.inr HW4.out.1)).setCell _ _ (.inr HW4.out.1)⟩
end Go.Proofs.YtmfjebpefneboaaDoor
