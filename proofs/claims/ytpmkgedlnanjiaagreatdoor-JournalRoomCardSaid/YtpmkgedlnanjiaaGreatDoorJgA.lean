/-
  The digest of layer 2 as plain arithmetic, and the contract of its step.
-/
import Derived.Test.YtpmkgedlnanjiaaGreatDoorHeap
import Derived.Test.YtpmkgedlnanjiaaGreatDoorDkModel
import Derived.Laws.Bits64b
import Derived.Laws.Bits64
import Derived.Test.YtpmkgedlnanjiaaGreatDoorProg
import Derived.Test.YtpmkgedlnanjiaaGreatDoorShelf
namespace Go.Proofs.YtpmkgedlnanjiaaGreatDoor
set_option linter.unusedVariables false
set_option maxRecDepth 100000
set_option linter.unusedSimpArgs false
open Go Go.RowKit

namespace Dg
def mix (x d mul : Nat) : Nat := ((x ^^^ (x / d)) * mul) % 18446744073709551616
def take (s block : Nat) : Nat :=
  let x := mix (mix (s ^^^ block) 4294967296 11400714819323198485) 536870912 13787848793156543929
  x ^^^ (x / 4294967296)
theorem mix_lt (x d mul : Nat) : mix x d mul < 18446744073709551616 := Nat.mod_lt _ (by decide)
theorem xor_lt {a b : Nat} (ha : a < 18446744073709551616) (hb : b < 18446744073709551616) : a ^^^ b < 18446744073709551616 := Nat.xor_lt_two_pow (n := 64) ha hb
theorem half_lt {a : Nat} (n : Nat) (ha : a < 18446744073709551616) : a / n < 18446744073709551616 := Nat.lt_of_le_of_lt (Nat.div_le_self _ _) ha
/-- The digest's state: the mixed part, the block that fills, and how many bytes it has. -/
structure St where
  s : Nat
  b : Nat
  n : Nat
def St.add (t : St) (c : UInt8) : St :=
  if t.n + 1 = 8 then ⟨take t.s (t.b ||| c.toNat * 2 ^ (8 * t.n)), 0, 0⟩ else ⟨t.s, t.b ||| c.toNat * 2 ^ (8 * t.n), t.n + 1⟩
structure St.Ok (t : St) : Prop where
  s : t.s < 18446744073709551616
  b : t.b < 18446744073709551616
  n : t.n < 8
theorem take_lt (s block : Nat) : take s block < 18446744073709551616 := xor_lt (mix_lt _ _ _) (half_lt _ (mix_lt _ _ _))
theorem shl_lt {c n : Nat} (hc : c < 256) (hn : n < 8) : c * 2 ^ (8 * n) < 18446744073709551616 := by
  have h1 : (2 : Nat) ^ (8 * n) ≤ 2 ^ 56 := Nat.pow_le_pow_right (by decide) (by omega)
  have h2 : c * 2 ^ (8 * n) ≤ 255 * 2 ^ 56 := Nat.mul_le_mul (by omega) h1
  have h3 : (255 : Nat) * 2 ^ 56 < 18446744073709551616 := by decide
  omega
theorem or_lt {a b : Nat} (ha : a < 18446744073709551616) (hb : b < 18446744073709551616) : a ||| b < 18446744073709551616 := Nat.or_lt_two_pow (n := 64) ha hb
theorem St.add_ok {t : St} (h : t.Ok) (c : UInt8) : (t.add c).Ok := by
  have h1 := or_lt h.b (shl_lt c.toNat_lt h.n)
  have hn := h.n
  unfold St.add
  split
  · exact ⟨take_lt _ _, show (0 : Nat) < _ by decide, show (0 : Nat) < 8 by decide⟩
  · exact ⟨h.s, h1, by show t.n + 1 < 8; omega⟩
end Dg

theorem idx0 (w : World) : (Instr.index 146 (.agg #[.int .u64 32, .int .u64 11400714819323198485, .int .u64 29, .int .u64 13787848793156543929]) (.int .i64 0)).run Tryz.prog w = .ok (.agg #[.int .u64 32, .int .u64 11400714819323198485]) w := by
  simp [Instr.index, run_underlying Tryz.underlying66, asIntOf, go_sem]
theorem idx1 (w : World) : (Instr.index 146 (.agg #[.int .u64 32, .int .u64 11400714819323198485, .int .u64 29, .int .u64 13787848793156543929]) (.int .i64 1)).run Tryz.prog w = .ok (.agg #[.int .u64 29, .int .u64 13787848793156543929]) w := by
  simp [Instr.index, run_underlying Tryz.underlying66, asIntOf, go_sem]
theorem xor_shr32 (x : Nat) (hx : x < 18446744073709551616) : bits .xor .u64 (x : Int) ((x : Int) / 4294967296) = ((x ^^^ (x / 4294967296) : Nat) : Int) := by
  have h := bits_xor_u64_nat x (x / 4294967296) hx (Dg.half_lt _ hx)
  rw [show ((x / 4294967296 : Nat) : Int) = (x : Int) / 4294967296 from by omega] at h
  exact h
theorem xor_shr29 (x : Nat) (hx : x < 18446744073709551616) : bits .xor .u64 (x : Int) ((x : Int) / 536870912) = ((x ^^^ (x / 536870912) : Nat) : Int) := by
  have h := bits_xor_u64_nat x (x / 536870912) hx (Dg.half_lt _ hx)
  rw [show ((x / 536870912 : Nat) : Int) = (x : Int) / 536870912 from by omega] at h
  exact h
theorem mulA (x : Nat) (hx : x < 18446744073709551616) (w : World) : Calls Tryz.prog 112 #[.int .u64 (x : Int), .int .u64 11400714819323198485] w fun e w' => ∃ h, e = .returned (.tuple #[.int .u64 h, .int .u64 ((x * 11400714819323198485 % 18446744073709551616 : Nat) : Int)]) ∧ w' = w :=
  (Tryz.bits_Mul64 x 11400714819323198485 hx (by decide) w).mono fun e w' h => ⟨_, h.1, h.2⟩
theorem mulB (x : Nat) (hx : x < 18446744073709551616) (w : World) : Calls Tryz.prog 112 #[.int .u64 (x : Int), .int .u64 13787848793156543929] w fun e w' => ∃ h, e = .returned (.tuple #[.int .u64 h, .int .u64 ((x * 13787848793156543929 % 18446744073709551616 : Nat) : Int)]) ∧ w' = w :=
  (Tryz.bits_Mul64 x 13787848793156543929 hx (by decide) w).mono fun e w' h => ⟨_, h.1, h.2⟩
set_option maxHeartbeats 1000000 in
theorem take_spec (w : World) (b : Nat) (s block : Nat) (hs : s < 18446744073709551616) (hb : block < 18446744073709551616) (HB : Hid (Blk w b [.int .u64 (s : Int)] 129)) :
    Calls Tryz.prog 107 #[.pointer (some ⟨b, 0, none⟩), .int .u64 (block : Int)] w fun e w' => e = .returned (.tuple #[]) ∧ Chg [b] w w' ∧ Blk w' b [.int .u64 (Dg.take s block : Nat)] 129 := by
  have h0 := HB.out.cell (i := 0) rfl
  have hf := HB.out.free 0
  have hlt := HB.out.lt
  have hx := bits_xor_u64_nat s block hs hb
  have hx0 := Dg.xor_lt hs hb
  have i0 := idx0
  have i1 := idx1
  obtain ⟨T, hT⟩ : ∃ T, T = Dg.take s block := ⟨_, rfl⟩
  have HT := Lib.hid hT
  rw [← hT]
  unfold Dg.take at hT
  generalize s ^^^ block = x0 at *
  have e0 := xor_shr32 x0 hx0
  obtain ⟨x1, hx1⟩ : ∃ x1, x1 = x0 ^^^ (x0 / 4294967296) := ⟨_, rfl⟩
  rw [← hx1] at e0
  have hl1 : x1 < 18446744073709551616 := by rw [hx1]; exact Dg.xor_lt hx0 (Dg.half_lt _ hx0)
  obtain ⟨x2, hx2⟩ : ∃ x2, x2 = x1 * 11400714819323198485 % 18446744073709551616 := ⟨_, rfl⟩
  have hl2 : x2 < 18446744073709551616 := by rw [hx2]; exact Nat.mod_lt _ (by decide)
  have e2 := xor_shr29 x2 hl2
  obtain ⟨x3, hx3⟩ : ∃ x3, x3 = x2 ^^^ (x2 / 536870912) := ⟨_, rfl⟩
  rw [← hx3] at e2
  have hl3 : x3 < 18446744073709551616 := by rw [hx3]; exact Dg.xor_lt hl2 (Dg.half_lt _ hl2)
  obtain ⟨x4, hx4⟩ : ∃ x4, x4 = x3 * 13787848793156543929 % 18446744073709551616 := ⟨_, rfl⟩
  have hl4 : x4 < 18446744073709551616 := by rw [hx4]; exact Nat.mod_lt _ (by decide)
  have e4 := xor_shr32 x4 hl4
  have hTT : T = x4 ^^^ (x4 / 4294967296) := by
    rw [hT, hx4, hx3, hx2, hx1]
    rfl
  rw [← hTT] at e4
  have HX2 := Lib.hid hx2
  have HX4 := Lib.hid hx4
  have HL1 := Lib.hid hl1
  have HL3 := Lib.hid hl3
  have HN := Lib.hid (show 0 < w.heap.size by omega)
  clear hT hx1 hx2 hx3 hx4 hTT hl1 hl2 hl3 hl4 hx0
  go_enter Tryz.func107, Tryz.ntmps107
  go_wp2_with fail
  refine wp_loop_rounds 3 ?_
  rw [rounds_succ]
  go_wp2_with (go_at_call 112; refine (mulA x1 HL1.out _).mono ?_; rintro e w1 ⟨h, rfl, rfl⟩; rw [← HX2.out])
  rw [rounds_succ]
  go_wp2_with (go_at_call 112; refine (mulB x3 HL3.out _).mono ?_; rintro e w1 ⟨h, rfl, rfl⟩; rw [← HX4.out])
  rw [rounds_succ]
  go_wp2_with fail
  refine bodyPost_end (results_none rfl _ _ _) rfl ⟨rfl, ?_, ?_⟩
  · exact (((Chg.refl _ _).setCell _ _ (.inl (by simp))).alloc _).alloc _
  · exact ((HB.out.set 0 _).alloc _).alloc _

set_option maxHeartbeats 1000000 in
theorem add_spec (w : World) (bb bn bs : Nat) (t : Dg.St) (ht : t.Ok) (c : UInt8) (h1 : bb ≠ bn) (h2 : bb ≠ bs) (h3 : bn ≠ bs) (HB : Hid (Blk w bb [.int .u64 (t.b : Int)] 123)) (HN : Hid (Blk w bn [.int .i64 (t.n : Int)] 3)) (HS : Hid (Blk w bs [.int .u64 (t.s : Int)] 129)) :
    Calls Tryz.prog 106 #[.int .u8 (c.toNat : Int), .pointer (some ⟨bb, 0, none⟩), .pointer (some ⟨bn, 0, none⟩), .pointer (some ⟨bs, 0, none⟩)] w fun e w' => e = .returned (.tuple #[]) ∧ Chg [bb, bn, bs] w w' ∧
      Blk w' bb [.int .u64 ((t.add c).b : Int)] 123 ∧ Blk w' bn [.int .i64 ((t.add c).n : Int)] 3 ∧ Blk w' bs [.int .u64 ((t.add c).s : Int)] 129 := by
  obtain ⟨s, b, n⟩ := t
  obtain ⟨hs, hb, hn⟩ := ht
  simp only at hs hb hn HB HN HS
  have b0 := HB.out.cell (i := 0) rfl
  have n0 := HN.out.cell (i := 0) rfl
  have s0 := HS.out.cell (i := 0) rfl
  have fb := HB.out.free 0
  have fn := HN.out.free 0
  have hc := c.toNat_lt
  obtain ⟨k, hk⟩ : ∃ k, k = c.toNat * 2 ^ (8 * n) := ⟨_, rfl⟩
  have hkl : k < 18446744073709551616 := by rw [hk]; exact Dg.shl_lt hc hn
  obtain ⟨m, hm⟩ : ∃ m, m = 8 * n := ⟨_, rfl⟩
  rw [← hm] at hk
  have hm56 : m ≤ 56 := by omega
  have e0 : IntKind.u64.wrap (c.toNat : Int) = (c.toNat : Int) := IntWalk.u64_in _ (by omega)
  have e3 : IntKind.i64.wrap (8 * (n : Int)) = (m : Int) := by rw [IntWalk.i64_in _ (by omega)]; omega
  have e1 : IntKind.u64.wrap ((c.toNat : Int) * 2 ^ m) = (k : Int) := by
    have : ((c.toNat : Int) * 2 ^ m) = (k : Int) := by rw [hk]; simp
    rw [this]
    exact IntWalk.u64_in _ (by omega)
  have e2 := bits_or_u64_nat b k hb hkl
  have hbl := Dg.or_lt hb hkl
  have HK := Lib.hid hk
  have HM := Lib.hid hm
  clear hk hkl hm
  generalize hbk : b ||| k = bk at *
  have HBK := Lib.hid hbk
  clear hbk
  go_enter Tryz.func106, Tryz.ntmps106
  go_wp2_with fail
  refine wp_region_tail 7 (by kernel_rfl) (by kernel_rfl) (fun L hL => ?_)
  simp only [List.take_succ_cons, List.take_zero, List.drop_succ_cons, List.drop_zero] at hL ⊢
  repeat still_step
  refine wpStill_nil (hL _ ?_)
  clear hL L
  have hw1 : Chg [bb, bn, bs] w ((w.setCell ⟨bb, 0, none⟩ (.int .u64 (bk : Int))).setCell ⟨bn, 0, none⟩ (.int .i64 ((n : Int) + 1))).drew := (((Chg.refl _ _).setCell _ _ (.inl (by simp))).setCell _ _ (.inl (by simp))).drew
  have hbb : Blk ((w.setCell ⟨bb, 0, none⟩ (.int .u64 (bk : Int))).setCell ⟨bn, 0, none⟩ (.int .i64 ((n : Int) + 1))).drew bb [.int .u64 (bk : Int)] 123 := ((HB.out.set 0 _).other ⟨bn, 0, none⟩ _ (by simpa using h1)).drew
  have hbn : Blk ((w.setCell ⟨bb, 0, none⟩ (.int .u64 (bk : Int))).setCell ⟨bn, 0, none⟩ (.int .i64 ((n : Int) + 1))).drew bn [.int .i64 ((n : Int) + 1)] 3 := ((HN.out.other ⟨bb, 0, none⟩ _ (by simpa using fun e => h1 e.symm)).set 0 _).drew
  have hbs : Blk ((w.setCell ⟨bb, 0, none⟩ (.int .u64 (bk : Int))).setCell ⟨bn, 0, none⟩ (.int .i64 ((n : Int) + 1))).drew bs [.int .u64 (s : Int)] 129 := ((HS.out.other ⟨bb, 0, none⟩ _ (by simpa using fun e => h2 e.symm)).other ⟨bn, 0, none⟩ _ (by simpa using fun e => h3 e.symm)).drew
  have HW1 := Lib.hid hw1
  have HBB := Lib.hid hbb
  have HBN := Lib.hid hbn
  have HBS := Lib.hid hbs
  clear hw1 hbb hbn hbs
  by_cases h8 : n + 1 = 8
  · have hb8 : ((n : Int) + 1 == 8) = true := by rw [beq_iff_eq]; omega
    have H8 := Lib.hid h8
    clear h8
    go_wp2_with fail
    refine (take_spec _ bs s bk hs hbl HBS).mono ?_
    rintro e w2 ⟨rfl, hc2, hb2⟩
    have HC2 := Lib.hid (HW1.out.trans hc2 (by simp))
    have HB2 := Lib.hid (hc2.blk HBB.out (by simpa using h2))
    have HN2 := Lib.hid (hc2.blk HBN.out (by simpa using h3))
    have HS2 := Lib.hid hb2
    clear hc2 hb2 b0 n0 s0 fb fn
    have b0 := HB2.out.cell (i := 0) rfl
    have n0 := HN2.out.cell (i := 0) rfl
    have fb := HB2.out.free 0
    have fn := HN2.out.free 0
    go_wp2_with fail
    refine bodyPost_end (results_none rfl _ _ _) rfl ⟨rfl, ?_, ?_⟩
    · exact ((HC2.out.setCell _ _ (.inl (by simp))).setCell _ _ (.inl (by simp)))
    · have hadd : Dg.St.add ⟨s, b, n⟩ c = ⟨Dg.take s bk, 0, 0⟩ := by
        unfold Dg.St.add
        rw [if_pos H8.out]
        simp only
        rw [← HM.out, ← HK.out, HBK.out]
      rw [hadd]
      exact ⟨(HB2.out.set 0 _).other ⟨bn, 0, none⟩ _ (by simpa using h1), (HN2.out.other ⟨bb, 0, none⟩ _ (by simpa using fun e => h1 e.symm)).set 0 _, (HS2.out.other ⟨bb, 0, none⟩ _ (by simpa using fun e => h2 e.symm)).other ⟨bn, 0, none⟩ _ (by simpa using fun e => h3 e.symm)⟩
  · have hb8 : ((n : Int) + 1 == 8) = false := by rw [beq_eq_false_iff_ne]; omega
    have H8 := Lib.hid h8
    clear h8
    go_wp2_with fail
    refine bodyPost_end (results_none rfl _ _ _) rfl ⟨rfl, HW1.out, ?_⟩
    have hadd : Dg.St.add ⟨s, b, n⟩ c = ⟨s, bk, n + 1⟩ := by
      unfold Dg.St.add
      rw [if_neg H8.out]
      simp only
      rw [← HM.out, ← HK.out, HBK.out]
    rw [hadd]
    exact ⟨HBB.out, HBN.out, HBS.out⟩
end Go.Proofs.YtpmkgedlnanjiaaGreatDoor
