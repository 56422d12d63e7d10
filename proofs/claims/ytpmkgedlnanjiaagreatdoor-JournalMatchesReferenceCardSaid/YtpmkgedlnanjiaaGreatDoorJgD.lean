/-
  JgA, JgB, JgC, JgD in one text.
-/
import Derived.Test.YtpmkgedlnanjiaaGreatDoorHeap
import Derived.Test.YtpmkgedlnanjiaaGreatDoorDkModel
import Derived.Laws.Bits64b
import Derived.Laws.Bits64
import Derived.Test.YtpmkgedlnanjiaaGreatDoorProg
import Derived.Test.YtpmkgedlnanjiaaGreatDoorShelf
import Derived.Lib.LaidTab
import Derived.Lib.Builder
import Derived.Lib.AppendStr
import Derived.BigCall
namespace Go.Proofs.YtpmkgedlnanjiaaGreatDoor
set_option linter.unusedVariables false
set_option maxRecDepth 100000
set_option linter.unusedSimpArgs false
open Go Go.RowKit

namespace Dg
def mix (x d mul : Nat) : Nat := ((x ^^^ (x / d)) * mul) % 18446744073709551616
def take (s block : Nat) : Nat :=
  let x := mix (mix (s ^^^ block) 4294967296 11400714819323198485) 536870912 13787848793156543929
  x ^^^ (x / 4294967296)
theorem mix_lt (x d mul : Nat) : mix x d mul < 18446744073709551616 := Nat.mod_lt _ (by decide)
theorem xor_lt {a b : Nat} (ha : a < 18446744073709551616) (hb : b < 18446744073709551616) : a ^^^ b < 18446744073709551616 := Nat.xor_lt_two_pow (n := 64) ha hb
theorem half_lt {a : Nat} (n : Nat) (ha : a < 18446744073709551616) : a / n < 18446744073709551616 := Nat.lt_of_le_of_lt (Nat.div_le_self _ _) ha
/-- The digest's state: the mixed part, the block that fills, and how many bytes it has. -/
structure St where
  s : Nat
  b : Nat
  n : Nat
def St.add (t : St) (c : UInt8) : St :=
  if t.n + 1 = 8 then ⟨take t.s (t.b ||| c.toNat * 2 ^ (8 * t.n)), 0, 0⟩ else ⟨t.s, t.b ||| c.toNat * 2 ^ (8 * t.n), t.n + 1⟩
structure St.Ok (t : St) : Prop where
  s : t.s < 18446744073709551616
  b : t.b < 18446744073709551616
  n : t.n < 8
theorem take_lt (s block : Nat) : take s block < 18446744073709551616 := xor_lt (mix_lt _ _ _) (half_lt _ (mix_lt _ _ _))
theorem shl_lt {c n : Nat} (hc : c < 256) (hn : n < 8) : c * 2 ^ (8 * n) < 18446744073709551616 := by
  have h1 : (2 : Nat) ^ (8 * n) ≤ 2 ^ 56 := Nat.pow_le_pow_right (by decide) (by omega)
  have h2 : c * 2 ^ (8 * n) ≤ 255 * 2 ^ 56 := Nat.mul_le_mul (by omega) h1
  have h3 : (255 : Nat) * 2 ^ 56 < 18446744073709551616 := by decide
  omega
theorem or_lt {a b : Nat} (ha : a < 18446744073709551616) (hb : b < 18446744073709551616) : a ||| b < 18446744073709551616 := Nat.or_lt_two_pow (n := 64) ha hb
theorem St.add_ok {t : St} (h : t.Ok) (c : UInt8) : (t.add c).Ok := by
  have h1 := or_lt h.b (shl_lt c.toNat_lt h.n)
  have hn := h.n
  unfold St.add
  split
  · exact ⟨take_lt _ _, show (0 : Nat) < _ by decide, show (0 : Nat) < 8 by decide⟩
  · exact ⟨h.s, h1, by show t.n + 1 < 8; omega⟩
end Dg

theorem idx0 (w : World) : (Instr.index 146 (.agg #[.int .u64 32, .int .u64 11400714819323198485, .int .u64 29, .int .u64 13787848793156543929]) (.int .i64 0)).run Tryz.prog w = .ok (.agg #[.int .u64 32, .int .u64 11400714819323198485]) w := by
  simp [Instr.index, run_underlying Tryz.underlying66, asIntOf, go_sem]
theorem idx1 (w : World) : (Instr.index 146 (.agg #[.int .u64 32, .int .u64 11400714819323198485, .int .u64 29, .int .u64 13787848793156543929]) (.int .i64 1)).run Tryz.prog w = .ok (.agg #[.int .u64 29, .int .u64 13787848793156543929]) w := by
  simp [Instr.index, run_underlying Tryz.underlying66, asIntOf, go_sem]
theorem xor_shr32 (x : Nat) (hx : x < 18446744073709551616) : bits .xor .u64 (x : Int) ((x : Int) / 4294967296) = ((x ^^^ (x / 4294967296) : Nat) : Int) := by
  have h := bits_xor_u64_nat x (x / 4294967296) hx (Dg.half_lt _ hx)
  rw [show ((x / 4294967296 : Nat) : Int) = (x : Int) / 4294967296 from by omega] at h
  exact h
theorem xor_shr29 (x : Nat) (hx : x < 18446744073709551616) : bits .xor .u64 (x : Int) ((x : Int) / 536870912) = ((x ^^^ (x / 536870912) : Nat) : Int) := by
  have h := bits_xor_u64_nat x (x / 536870912) hx (Dg.half_lt _ hx)
  rw [show ((x / 536870912 : Nat) : Int) = (x : Int) / 536870912 from by omega] at h
  exact h
theorem mulA (x : Nat) (hx : x < 18446744073709551616) (w : World) : Calls Tryz.prog 112 #[.int .u64 (x : Int), .int .u64 11400714819323198485] w fun e w' => ∃ h, e = .returned (.tuple #[.int .u64 h, .int .u64 ((x * 11400714819323198485 % 18446744073709551616 : Nat) : Int)]) ∧ w' = w :=
  (Tryz.bits_Mul64 x 11400714819323198485 hx (by decide) w).mono fun e w' h => ⟨_, h.1, h.2⟩
theorem mulB (x : Nat) (hx : x < 18446744073709551616) (w : World) : Calls Tryz.prog 112 #[.int .u64 (x : Int), .int .u64 13787848793156543929] w fun e w' => ∃ h, e = .returned (.tuple #[.int .u64 h, .int .u64 ((x * 13787848793156543929 % 18446744073709551616 : Nat) : Int)]) ∧ w' = w :=
  (Tryz.bits_Mul64 x 13787848793156543929 hx (by decide) w).mono fun e w' h => ⟨_, h.1, h.2⟩
set_option maxHeartbeats 1000000 in
theorem take_spec (w : World) (b : Nat) (s block : Nat) (hs : s < 18446744073709551616) (hb : block < 18446744073709551616) (HB : Hid (Blk w b [.int .u64 (s : Int)] 129)) :
    Calls Tryz.prog 107 #[.pointer (some ⟨b, 0, none⟩), .int .u64 (block : Int)] w fun e w' => e = .returned (.tuple #[]) ∧ Chg [b] w w' ∧ Blk w' b [.int .u64 (Dg.take s block : Nat)] 129 := by
  have h0 := HB.out.cell (i := 0) rfl
  have hf := HB.out.free 0
  have hlt := HB.out.lt
  have hx := bits_xor_u64_nat s block hs hb
  have hx0 := Dg.xor_lt hs hb
  have i0 := idx0
  have i1 := idx1
  obtain ⟨T, hT⟩ : ∃ T, T = Dg.take s block := ⟨_, rfl⟩
  have HT := Lib.hid hT
  rw [← hT]
  unfold Dg.take at hT
  generalize s ^^^ block = x0 at *
  have e0 := xor_shr32 x0 hx0
  obtain ⟨x1, hx1⟩ : ∃ x1, x1 = x0 ^^^ (x0 / 4294967296) := ⟨_, rfl⟩
  rw [← hx1] at e0
  have hl1 : x1 < 18446744073709551616 := by rw [hx1]; exact Dg.xor_lt hx0 (Dg.half_lt _ hx0)
  obtain ⟨x2, hx2⟩ : ∃ x2, x2 = x1 * 11400714819323198485 % 18446744073709551616 := ⟨_, rfl⟩
  have hl2 : x2 < 18446744073709551616 := by rw [hx2]; exact Nat.mod_lt _ (by decide)
  have e2 := xor_shr29 x2 hl2
  obtain ⟨x3, hx3⟩ : ∃ x3, x3 = x2 ^^^ (x2 / 536870912) := ⟨_, rfl⟩
  rw [← hx3] at e2
  have hl3 : x3 < 18446744073709551616 := by rw [hx3]; exact Dg.xor_lt hl2 (Dg.half_lt _ hl2)
  obtain ⟨x4, hx4⟩ : ∃ x4, x4 = x3 * 13787848793156543929 % 18446744073709551616 := ⟨_, rfl⟩
  have hl4 : x4 < 18446744073709551616 := by rw [hx4]; exact Nat.mod_lt _ (by decide)
  have e4 := xor_shr32 x4 hl4
  have hTT : T = x4 ^^^ (x4 / 4294967296) := by
    rw [hT, hx4, hx3, hx2, hx1]
    rfl
  rw [← hTT] at e4
  have HX2 := Lib.hid hx2
  have HX4 := Lib.hid hx4
  have HL1 := Lib.hid hl1
  have HL3 := Lib.hid hl3
  have HN := Lib.hid (show 0 < w.heap.size by omega)
  clear hT hx1 hx2 hx3 hx4 hTT hl1 hl2 hl3 hl4 hx0
  go_enter Tryz.func107, Tryz.ntmps107
  go_wp2_with fail
  refine wp_loop_rounds 3 ?_
  rw [rounds_succ]
  go_wp2_with (go_at_call 112; refine (mulA x1 HL1.out _).mono ?_; rintro e w1 ⟨h, rfl, rfl⟩; rw [← HX2.out])
  rw [rounds_succ]
  go_wp2_with (go_at_call 112; refine (mulB x3 HL3.out _).mono ?_; rintro e w1 ⟨h, rfl, rfl⟩; rw [← HX4.out])
  rw [rounds_succ]
  go_wp2_with fail
  refine bodyPost_end (results_none rfl _ _ _) rfl ⟨rfl, ?_, ?_⟩
  · exact (((Chg.refl _ _).setCell _ _ (.inl (by simp))).alloc _).alloc _
  · exact ((HB.out.set 0 _).alloc _).alloc _

set_option maxHeartbeats 1000000 in
theorem add_spec (w : World) (bb bn bs : Nat) (t : Dg.St) (ht : t.Ok) (c : UInt8) (h1 : bb ≠ bn) (h2 : bb ≠ bs) (h3 : bn ≠ bs) (HB : Hid (Blk w bb [.int .u64 (t.b : Int)] 123)) (HN : Hid (Blk w bn [.int .i64 (t.n : Int)] 3)) (HS : Hid (Blk w bs [.int .u64 (t.s : Int)] 129)) :
    Calls Tryz.prog 106 #[.int .u8 (c.toNat : Int), .pointer (some ⟨bb, 0, none⟩), .pointer (some ⟨bn, 0, none⟩), .pointer (some ⟨bs, 0, none⟩)] w fun e w' => e = .returned (.tuple #[]) ∧ Chg [bb, bn, bs] w w' ∧
      Blk w' bb [.int .u64 ((t.add c).b : Int)] 123 ∧ Blk w' bn [.int .i64 ((t.add c).n : Int)] 3 ∧ Blk w' bs [.int .u64 ((t.add c).s : Int)] 129 := by
  obtain ⟨s, b, n⟩ := t
  obtain ⟨hs, hb, hn⟩ := ht
  simp only at hs hb hn HB HN HS
  have b0 := HB.out.cell (i := 0) rfl
  have n0 := HN.out.cell (i := 0) rfl
  have s0 := HS.out.cell (i := 0) rfl
  have fb := HB.out.free 0
  have fn := HN.out.free 0
  have hc := c.toNat_lt
  obtain ⟨k, hk⟩ : ∃ k, k = c.toNat * 2 ^ (8 * n) := ⟨_, rfl⟩
  have hkl : k < 18446744073709551616 := by rw [hk]; exact Dg.shl_lt hc hn
  obtain ⟨m, hm⟩ : ∃ m, m = 8 * n := ⟨_, rfl⟩
  rw [← hm] at hk
  have hm56 : m ≤ 56 := by omega
  have e0 : IntKind.u64.wrap (c.toNat : Int) = (c.toNat : Int) := IntWalk.u64_in _ (by omega)
  have e3 : IntKind.i64.wrap (8 * (n : Int)) = (m : Int) := by rw [IntWalk.i64_in _ (by omega)]; omega
  have e1 : IntKind.u64.wrap ((c.toNat : Int) * 2 ^ m) = (k : Int) := by
    have : ((c.toNat : Int) * 2 ^ m) = (k : Int) := by rw [hk]; simp
    rw [this]
    exact IntWalk.u64_in _ (by omega)
  have e2 := bits_or_u64_nat b k hb hkl
  have hbl := Dg.or_lt hb hkl
  have HK := Lib.hid hk
  have HM := Lib.hid hm
  clear hk hkl hm
  generalize hbk : b ||| k = bk at *
  have HBK := Lib.hid hbk
  clear hbk
  go_enter Tryz.func106, Tryz.ntmps106
  go_wp2_with fail
  refine wp_region_tail 7 (by kernel_rfl) (by kernel_rfl) (fun L hL => ?_)
  simp only [List.take_succ_cons, List.take_zero, List.drop_succ_cons, List.drop_zero] at hL ⊢
  repeat still_step
  refine wpStill_nil (hL _ ?_)
  clear hL L
  have hw1 : Chg [bb, bn, bs] w ((w.setCell ⟨bb, 0, none⟩ (.int .u64 (bk : Int))).setCell ⟨bn, 0, none⟩ (.int .i64 ((n : Int) + 1))).drew := (((Chg.refl _ _).setCell _ _ (.inl (by simp))).setCell _ _ (.inl (by simp))).drew
  have hbb : Blk ((w.setCell ⟨bb, 0, none⟩ (.int .u64 (bk : Int))).setCell ⟨bn, 0, none⟩ (.int .i64 ((n : Int) + 1))).drew bb [.int .u64 (bk : Int)] 123 := ((HB.out.set 0 _).other ⟨bn, 0, none⟩ _ (by simpa using h1)).drew
  have hbn : Blk ((w.setCell ⟨bb, 0, none⟩ (.int .u64 (bk : Int))).setCell ⟨bn, 0, none⟩ (.int .i64 ((n : Int) + 1))).drew bn [.int .i64 ((n : Int) + 1)] 3 := ((HN.out.other ⟨bb, 0, none⟩ _ (by simpa using fun e => h1 e.symm)).set 0 _).drew
  have hbs : Blk ((w.setCell ⟨bb, 0, none⟩ (.int .u64 (bk : Int))).setCell ⟨bn, 0, none⟩ (.int .i64 ((n : Int) + 1))).drew bs [.int .u64 (s : Int)] 129 := ((HS.out.other ⟨bb, 0, none⟩ _ (by simpa using fun e => h2 e.symm)).other ⟨bn, 0, none⟩ _ (by simpa using fun e => h3 e.symm)).drew
  have HW1 := Lib.hid hw1
  have HBB := Lib.hid hbb
  have HBN := Lib.hid hbn
  have HBS := Lib.hid hbs
  clear hw1 hbb hbn hbs
  by_cases h8 : n + 1 = 8
  · have hb8 : ((n : Int) + 1 == 8) = true := by rw [beq_iff_eq]; omega
    have H8 := Lib.hid h8
    clear h8
    go_wp2_with fail
    refine (take_spec _ bs s bk hs hbl HBS).mono ?_
    rintro e w2 ⟨rfl, hc2, hb2⟩
    have HC2 := Lib.hid (HW1.out.trans hc2 (by simp))
    have HB2 := Lib.hid (hc2.blk HBB.out (by simpa using h2))
    have HN2 := Lib.hid (hc2.blk HBN.out (by simpa using h3))
    have HS2 := Lib.hid hb2
    clear hc2 hb2 b0 n0 s0 fb fn
    have b0 := HB2.out.cell (i := 0) rfl
    have n0 := HN2.out.cell (i := 0) rfl
    have fb := HB2.out.free 0
    have fn := HN2.out.free 0
    go_wp2_with fail
    refine bodyPost_end (results_none rfl _ _ _) rfl ⟨rfl, ?_, ?_⟩
    · exact ((HC2.out.setCell _ _ (.inl (by simp))).setCell _ _ (.inl (by simp)))
    · have hadd : Dg.St.add ⟨s, b, n⟩ c = ⟨Dg.take s bk, 0, 0⟩ := by
        unfold Dg.St.add
        rw [if_pos H8.out]
        simp only
        rw [← HM.out, ← HK.out, HBK.out]
      rw [hadd]
      exact ⟨(HB2.out.set 0 _).other ⟨bn, 0, none⟩ _ (by simpa using h1), (HN2.out.other ⟨bb, 0, none⟩ _ (by simpa using fun e => h1 e.symm)).set 0 _, (HS2.out.other ⟨bb, 0, none⟩ _ (by simpa using fun e => h2 e.symm)).other ⟨bn, 0, none⟩ _ (by simpa using fun e => h3 e.symm)⟩
  · have hb8 : ((n : Int) + 1 == 8) = false := by rw [beq_eq_false_iff_ne]; omega
    have H8 := Lib.hid h8
    clear h8
    go_wp2_with fail
    refine bodyPost_end (results_none rfl _ _ _) rfl ⟨rfl, HW1.out, ?_⟩
    have hadd : Dg.St.add ⟨s, b, n⟩ c = ⟨s, bk, n + 1⟩ := by
      unfold Dg.St.add
      rw [if_neg H8.out]
      simp only
      rw [← HM.out, ← HK.out, HBK.out]
    rw [hadd]
    exact ⟨HBB.out, HBN.out, HBS.out⟩
end Go.Proofs.YtpmkgedlnanjiaaGreatDoor
namespace Go.Proofs.YtpmkgedlnanjiaaGreatDoor
set_option linter.unusedVariables false
set_option maxRecDepth 100000
set_option linter.unusedSimpArgs false
open Go Go.RowKit
attribute [local irreducible] Go.wpStill

def hexTab : List Int := [48, 49, 50, 51, 52, 53, 54, 55, 56, 57, 97, 98, 99, 100, 101, 102]
/-- The tables that the row lists lie as their initialisers lay them. -/
structure Laid (w : World) : Prop where
  hex : Lib.TabIs Tryz.prog w "foyer/digest.hex" .u8 hexTab
  pow : Lib.TabIs Tryz.prog w "internal/strconv.uint64pow10" .u64 Lib.pow10Tab
  syn : ∃ ev, w.cell? ⟨0, 0, none⟩ = some ev ∧ (ev = .nilIface ∨ ∃ te pe, ev = .iface te pe)
  rng : ∃ ev, w.cell? ⟨1, 0, none⟩ = some ev ∧ (ev = .nilIface ∨ ∃ te pe, ev = .iface te pe)
  cut : ∃ m, w.cell? ⟨3, 0, none⟩ = some (.int .i64 m)
theorem tab_kept {w w' : World} {name : String} {k : IntKind} {zs : List Int} {g : Nat} (hg : Tryz.prog.globalNamed name = some g) (h : Lib.TabIs Tryz.prog w name k zs) (hc : Chg [] w w') : Lib.TabIs Tryz.prog w' name k zs := by
  unfold Lib.TabIs World.var? at h ⊢
  rw [hg] at h ⊢
  simp only [Option.bind_some] at h ⊢
  have hl : g < w.heap.size := by
    rcases Nat.lt_or_ge g w.heap.size with h' | h'
    · exact h'
    · rw [Array.getElem?_eq_none h'] at h; simp at h
  rw [hc.block g hl (by simp)]
  exact h
theorem glob_hex : Tryz.prog.globalNamed "foyer/digest.hex" = some 2 := by kernel_rfl
theorem glob_pow : Tryz.prog.globalNamed "internal/strconv.uint64pow10" = some 4 := by kernel_rfl
theorem Laid.quiet {w w' : World} (h : Laid w) (hc : Chg [] w w') : Laid w' := ⟨tab_kept glob_hex h.hex hc, tab_kept glob_pow h.pow hc, h.syn.imp (fun ev h1 => ⟨cell_quiet hc h1.1 (by simp), h1.2⟩), h.rng.imp (fun ev h1 => ⟨cell_quiet hc h1.1 (by simp), h1.2⟩), h.cut.imp (fun m h1 => cell_quiet hc h1 (by simp))⟩
theorem Laid.cell {w : World} (h : Laid w) (j : Nat) (hj : j < 16) : w.cell? ⟨2, j, none⟩ = some (.int .u8 (hexTab.getD j 0)) := h.hex.cell glob_hex j hj

namespace Dg
def hexd (j : Nat) : UInt8 := if j < 10 then UInt8.ofNat (48 + j) else UInt8.ofNat (87 + j)
def dig (s i : Nat) : Nat := (s / 2 ^ (60 - 4 * i)) &&& 15
def text (s : Nat) : Bytes := (List.range 16).map (fun i => hexd (dig s i))
theorem dig_lt (s i : Nat) : dig s i < 16 := Nat.lt_of_le_of_lt Nat.and_le_right (by decide)
theorem hexd_tab : ∀ j : Nat, j < 16 → hexTab.getD j 0 = ((hexd j).toNat : Int) := by decide
def part (s k : Nat) : Bytes := (List.range 16).map (fun i => if i < k then hexd (dig s i) else 0)
theorem part_zero (s : Nat) : part s 0 = List.replicate 16 0 := by
  unfold part
  rfl
theorem part_len (s k : Nat) : (part s k).length = 16 := by unfold part; simp
theorem part_all (s : Nat) : part s 16 = text s := by
  unfold part text
  apply List.map_congr_left
  intro i hi
  rw [if_pos (List.mem_range.1 hi)]
theorem part_set (s k : Nat) (hk : k < 16) : (part s k).set k (hexd (dig s k)) = part s (k + 1) := by
  apply List.ext_getElem?
  intro i
  rw [List.getElem?_set, part_len]
  unfold part
  by_cases hi : i < 16
  · rw [List.getElem?_map, List.getElem?_map, List.getElem?_range hi]
    simp only [Option.map_some]
    by_cases hki : k = i
    · subst hki
      rw [if_pos rfl, if_pos hk, if_pos (by omega)]
    · rw [if_neg hki]
      by_cases h2 : i < k
      · rw [if_pos h2, if_pos (by omega)]
      · rw [if_neg h2, if_neg (by omega)]
  · rw [if_neg (by omega)]
    simp [List.getElem?_eq_none (show (List.range 16).length ≤ i by simp; omega)]
end Dg

set_option maxHeartbeats 1000000 in
theorem dtext_spec (w : World) (HL : Hid (Laid w)) (s : Nat) (hs : s < 18446744073709551616) :
    Calls Tryz.prog 108 #[.int .u64 (s : Int)] w fun e w' => e = .returned (.string ⟨(Dg.text s).toArray⟩) ∧ Chg [] w w' := by
  have hb0 : Blk (w.alloc (.cells #[.int .u8 0, .int .u8 0, .int .u8 0, .int .u8 0, .int .u8 0, .int .u8 0, .int .u8 0, .int .u8 0, .int .u8 0, .int .u8 0, .int .u8 0, .int .u8 0, .int .u8 0, .int .u8 0, .int .u8 0, .int .u8 0] 147)) w.heap.size ((Dg.part s 0).map B8) 147 := by
    rw [Dg.part_zero]
    exact Blk.new w _ _
  have hc0 : Chg [] w (w.alloc (.cells #[.int .u8 0, .int .u8 0, .int .u8 0, .int .u8 0, .int .u8 0, .int .u8 0, .int .u8 0, .int .u8 0, .int .u8 0, .int .u8 0, .int .u8 0, .int .u8 0, .int .u8 0, .int .u8 0, .int .u8 0, .int .u8 0] 147)) := (Chg.refl _ _).alloc _
  have HB0 := Lib.hid hb0
  have HC0 := Lib.hid hc0
  clear hb0 hc0
  go_enter Tryz.func108, Tryz.ntmps108
  go_wp2_with fail
  obtain ⟨tb, htb⟩ : ∃ tb, tb = w.heap.size := ⟨_, rfl⟩
  rw [← htb] at HB0 ⊢
  have HTB := Lib.hid htb
  clear htb
  go_loopw [5] (fun i wr => ∃ k : Nat, k ≤ 16 ∧ i = .int .i64 k ∧ Blk wr tb ((Dg.part s k).map B8) 147 ∧ Chg [] w wr) (fun i _ => 16 - (intOf i).toNat)
  case atStart => exact ⟨0, Nat.zero_le _, rfl, HB0.out, HC0.out⟩
  case round =>
    obtain ⟨k, hk, rfl, hB, hC⟩ := hrel
    have HB := Lib.hid hB
    have HC := Lib.hid hC
    clear hB hC HB0 HC0
    by_cases hlt : k < 16
    · obtain ⟨m, hm⟩ : ∃ m, m = 60 - 4 * k := ⟨_, rfl⟩
      have hm60 : m ≤ 60 := by omega
      have e0 : IntKind.i64.wrap (4 * (k : Int)) = 4 * (k : Int) := IntWalk.i64_in _ (by omega)
      have e1 : IntKind.i64.wrap (60 - 4 * (k : Int)) = (m : Int) := by rw [IntWalk.i64_in _ (by omega)]; omega
      obtain ⟨y, hy⟩ : ∃ y, y = s / 2 ^ m := ⟨_, rfl⟩
      have e2 : (s : Int) / 2 ^ m = (y : Int) := by rw [hy]; simp
      have hyl : y < 18446744073709551616 := by rw [hy]; exact Dg.half_lt _ hs
      obtain ⟨j, hj⟩ : ∃ j, j = y &&& 15 := ⟨_, rfl⟩
      have e3 : bits .and .u64 (y : Int) 15 = (j : Int) := by rw [hj]; exact bits_and_u64_nat y 15 hyl (by decide)
      have hjd : j = Dg.dig s k := by rw [hj, hy, hm]; rfl
      have hjl : j < 16 := by rw [hjd]; exact Dg.dig_lt s k
      have hjl2 : (j : Int) < 16 := by omega
      have hcell := (HL.out.quiet HC.out).cell j hjl
      rw [Dg.hexd_tab j hjl] at hcell
      have HJ := Lib.hid hjd
      have hold : ∃ v, wr.cell? ⟨tb, k, none⟩ = some v := ⟨_, HB.out.cell (i := k) (by rw [List.getElem?_map, List.getElem?_eq_getElem (by rw [Dg.part_len]; exact hlt)]; rfl)⟩
      obtain ⟨v0, hv0⟩ := hold
      have hf0 := HB.out.free k
      clear hm hy hj hjd hyl
      go_wp2_with fail
      go_roundw
      case rel =>
        refine ⟨k + 1, by omega, by go_num, ?_, HC.out.setCell _ _ (.inr (by rw [HTB.out]; exact Nat.le_refl _))⟩
        rw [← Dg.part_set s k hlt, List.map_set, ← HJ.out]
        exact HB.out.set k _
      case measure => simp [intOf]; omega
    · have hk16 : k = 16 := by omega
      subst hk16
      have hb := HB.out
      rw [Dg.part_all] at hb
      have hcv : (convert 56 9 (.slice (some ⟨tb, 0, none⟩) 16 16)).run Tryz.prog wr = .ok (.string ⟨(Dg.text s).toArray⟩) wr := by
        have hrun' : (Conv.bytesToString (.slice (some ⟨tb, 0, none⟩) 16 16)).run Tryz.prog wr = .ok (.string ⟨(Dg.text s).toArray⟩) wr := run_bytes_of (l := Dg.text s) hb (by rw [← Dg.part_all, Dg.part_len]) (fun j hj => by rw [Nat.zero_add])
        rw [run_convert_bytes_string _ _ _ 5 _ _ _ Tryz.underlying56 Tryz.underlying5 Tryz.underlying9]
        exact hrun'
      clear hb
      go_wp2_with fail
      go_ret
      exact ⟨rfl, HC.out⟩
end Go.Proofs.YtpmkgedlnanjiaaGreatDoor
namespace Go.Proofs.YtpmkgedlnanjiaaGreatDoor
set_option linter.unusedVariables false
set_option maxRecDepth 100000
set_option linter.unusedSimpArgs false
open Go Go.RowKit
attribute [local irreducible] Go.wpStill

namespace Dg
def start : St := ⟨7046029254386353131, 0, 0⟩
def feed (l : Bytes) : St := l.foldl St.add start
def pad : Nat → St → St
  | 0, t => t
  | k + 1, t => if t.n = 0 then t else pad k (t.add 0)
def sum (l : Bytes) : Bytes := text (pad 8 ((feed l).add 1)).s
theorem start_ok : start.Ok := ⟨by decide, by decide, by decide⟩
theorem feed_ok (l : Bytes) : (feed l).Ok := by
  unfold feed
  suffices h : ∀ t : St, t.Ok → (l.foldl St.add t).Ok from h _ start_ok
  induction l with
  | nil => exact fun t h => h
  | cons c l ih => exact fun t h => ih _ (St.add_ok h c)
theorem feed_snoc (l : Bytes) (k : Nat) (c : UInt8) (h : l[k]? = some c) : feed (l.take (k + 1)) = (feed (l.take k)).add c := by
  unfold feed
  rw [List.take_add_one, h, Option.toList_some, List.foldl_append]
  rfl
theorem sum_len (l : Bytes) : (sum l).length = 16 := by unfold sum text; simp
end Dg
/-- How many rounds the padding has left. -/
def leftOf (w : World) (b : Nat) : Nat := match w.cell? ⟨b, 0, none⟩ with
  | some (.int _ i) => (8 - i.toNat) % 8
  | _ => 0
theorem leftOf_blk {w : World} {b n : Nat} {e : TypeId} (h : Blk w b [.int .i64 (n : Int)] e) : leftOf w b = (8 - n) % 8 := by
  unfold leftOf
  rw [h.cell (i := 0) rfl]
  simp
theorem byte_of {t : Bytes} {k : Nat} {x : UInt8} (h : t[k]? = some x) (hk : k < (⟨t.toArray⟩ : ByteArray).size) : (⟨t.toArray⟩ : ByteArray)[k]'hk = x := by
  have h2 := (List.getElem?_eq_some_iff.1 h).2
  rw [← h2]
  rfl
structure Three (w0 w : World) (bb bn bs : Nat) (t : Dg.St) : Prop where
  hb : Blk w bb [.int .u64 (t.b : Int)] 123
  hn : Blk w bn [.int .i64 (t.n : Int)] 3
  hs : Blk w bs [.int .u64 (t.s : Int)] 129
  hc : Chg [] w0 w
  d1 : bb ≠ bn
  d2 : bb ≠ bs
  d3 : bn ≠ bs
  l1 : w0.heap.size ≤ bb
  l2 : w0.heap.size ≤ bn
  l3 : w0.heap.size ≤ bs
  ok : t.Ok
theorem Three.add {w0 w : World} {bb bn bs : Nat} {t : Dg.St} (H : Hid (Three w0 w bb bn bs t)) (c : UInt8) :
    Calls Tryz.prog 106 #[.int .u8 (c.toNat : Int), .pointer (some ⟨bb, 0, none⟩), .pointer (some ⟨bn, 0, none⟩), .pointer (some ⟨bs, 0, none⟩)] w fun e w' => e = .returned (.tuple #[]) ∧ Three w0 w' bb bn bs (t.add c) := by
  refine (add_spec w bb bn bs t H.out.ok c H.out.d1 H.out.d2 H.out.d3 (Lib.hid H.out.hb) (Lib.hid H.out.hn) (Lib.hid H.out.hs)).mono ?_
  rintro e w' ⟨rfl, hc, h1, h2, h3⟩
  refine ⟨rfl, h1, h2, h3, H.out.hc.trans hc ?_, H.out.d1, H.out.d2, H.out.d3, H.out.l1, H.out.l2, H.out.l3, Dg.St.add_ok H.out.ok c⟩
  intro k hk
  simp at hk
  rcases hk with rfl | rfl | rfl
  · exact .inr H.out.l1
  · exact .inr H.out.l2
  · exact .inr H.out.l3

set_option maxHeartbeats 2000000 in
theorem sum_spec (w : World) (HL : Hid (Laid w)) (l : Bytes) (hl : l.length ≤ 1000000000) :
    Calls Tryz.prog 91 #[.string ⟨l.toArray⟩] w fun e w' => e = .returned (.string ⟨(Dg.sum l).toArray⟩) ∧ Chg [] w w' := by
  have hT : Three w (((w.alloc (.cells #[.int .u64 7046029254386353131] 129)).alloc (.cells #[.int .u64 0] 123)).alloc (.cells #[.int .i64 0] 3)) (w.heap.size + 1) (w.heap.size + 1 + 1) w.heap.size Dg.start := by
    have h1 := Blk.new w [.int .u64 7046029254386353131] 129
    have h2 := Blk.new (w.alloc (.cells #[.int .u64 7046029254386353131] 129)) [.int .u64 0] 123
    have h3 := Blk.new ((w.alloc (.cells #[.int .u64 7046029254386353131] 129)).alloc (.cells #[.int .u64 0] 123)) [.int .i64 0] 3
    simp only [World.size_alloc] at h2 h3
    exact ⟨h2.alloc _, h3, (h1.alloc _).alloc _, ((((Chg.refl _ _).alloc _).alloc _).alloc _), by omega, by omega, by omega, by omega, by omega, by omega, Dg.start_ok⟩
  have HT := Lib.hid hT
  clear hT
  go_enter Tryz.func91, Tryz.ntmps91
  go_wp2_with fail
  generalize w.heap.size + 1 + 1 = bn at *
  generalize w.heap.size + 1 = bb at *
  generalize hbs : w.heap.size = bs at *
  clear hbs
  go_loopw [11] (fun i wr => ∃ k : Nat, k ≤ l.length ∧ i = .int .i64 k ∧ Three w wr bb bn bs (Dg.feed (l.take k))) (fun i _ => l.length - (intOf i).toNat)
  case atStart => exact ⟨0, Nat.zero_le _, rfl, HT.out⟩
  case round =>
    obtain ⟨k, hk, rfl, hT⟩ := hrel
    have HT1 := Lib.hid hT
    clear hT HT
    by_cases hlt : k < l.length
    · obtain ⟨c, hx⟩ : ∃ c, l[k]? = some c := ⟨l[k], by simp [hlt]⟩
      have hkx : k < (⟨l.toArray⟩ : ByteArray).size := by rw [Lib.size_eq]; simp; omega
      have hbx := byte_of hx hkx
      have HF := Lib.hid (Dg.feed_snoc l k c hx)
      clear hx
      go_wp2_with fail
      refine (Three.add HT1 c).mono ?_
      rintro e w2 ⟨rfl, hT⟩
      rw [← HF.out] at hT
      have HT2 := Lib.hid hT
      clear hT HT1
      go_wp2_with fail
      go_roundw
      case rel => exact ⟨k + 1, by omega, by go_num, HT2.out⟩
      case measure => simp [intOf]; omega
    · have hT := HT1.out
      rw [List.take_of_length_le (by omega)] at hT
      have HT2 := Lib.hid hT
      clear hT HT1
      go_wp2_with fail
      refine (Three.add HT2 1).mono ?_
      rintro e w2 ⟨rfl, hT⟩
      obtain ⟨t1, ht1⟩ : ∃ t1, t1 = (Dg.feed l).add 1 := ⟨_, rfl⟩
      rw [← ht1] at hT
      have HT3 := Lib.hid hT
      have HS : Hid (Dg.sum l = Dg.text (Dg.pad 8 t1).s) := Lib.hid (by rw [ht1]; rfl)
      clear hT HT2 ht1
      go_wp2_with fail
      go_loopw [] (fun wr => ∃ (t : Dg.St) (f : Nat), Three w wr bb bn bs t ∧ Dg.pad 8 t1 = Dg.pad f t ∧ (t.n = 0 ∨ 8 ≤ f + t.n)) (fun wr => leftOf wr bn)
      case atStart => exact ⟨t1, 8, HT3.out, rfl, by omega⟩
      case round =>
        obtain ⟨t, f, hT, hp, hf⟩ := hrel
        have HT4 := Lib.hid hT
        have HP := Lib.hid hp
        have hn8 := hT.ok.n
        have n0 := hT.hn.cell (i := 0) rfl
        have s0 := hT.hs.cell (i := 0) rfl
        clear hT hp HT3
        by_cases hn : t.n = 0
        · have hpad : Dg.pad f t = t := by
            cases f with
            | zero => rfl
            | succ f => unfold Dg.pad; rw [if_pos hn]
          have hb0 : ¬ 0 < (t.n : Int) := by omega
          have HPD := Lib.hid hpad
          rw [hn] at n0
          clear hpad hn hf hb0
          go_wp2_with fail
          refine (dtext_spec _ (Lib.hid (HL.out.quiet HT4.out.hc)) t.s HT4.out.ok.s).mono ?_
          rintro e w5 ⟨rfl, hc⟩
          have HC5 := Lib.hid (HT4.out.hc.trans hc (by simp))
          clear hc n0 s0
          go_wp2_with fail
          go_ret
          exact ⟨by rw [HS.out, HP.out, HPD.out]; rfl, HC5.out⟩
        · have hb0 : 0 < (t.n : Int) := by omega
          obtain ⟨f, rfl⟩ : ∃ f', f = f' + 1 := ⟨f - 1, by omega⟩
          have HPS : Hid (Dg.pad (f + 1) t = Dg.pad f (t.add 0)) := Lib.hid (by
            show (if t.n = 0 then t else Dg.pad f (t.add 0)) = _
            rw [if_neg hn])
          have hnn : (t.add 0).n = 0 ∨ ((t.add 0).n = t.n + 1 ∧ t.n + 1 < 8) := by
            unfold Dg.St.add
            split
            · exact .inl rfl
            · exact .inr ⟨rfl, by omega⟩
          have HNN := Lib.hid hnn
          have HHF := Lib.hid hf
          have HHN := Lib.hid hn
          clear hnn hf hn
          go_wp2_with fail
          refine (Three.add HT4 0).mono ?_
          rintro e w5 ⟨rfl, hT⟩
          have HT5 := Lib.hid hT
          clear hT n0 s0
          go_wp2_with fail
          go_roundw
          case rel =>
            refine ⟨t.add 0, f, HT5.out, by rw [HP.out, HPS.out], ?_⟩
            have h1 := HHF.out
            have h2 := HNN.out
            have h3 := HHN.out
            omega
          case measure =>
            rw [leftOf_blk HT5.out.hn, leftOf_blk HT4.out.hn]
            have h2 := HNN.out
            have h3 := HHN.out
            rcases h2 with h2 | h2
            · rw [h2]
              omega
            · rw [h2.1]
              omega
end Go.Proofs.YtpmkgedlnanjiaaGreatDoor
namespace Go.Proofs.YtpmkgedlnanjiaaGreatDoor
set_option linter.unusedVariables false
set_option maxRecDepth 100000
set_option linter.unusedSimpArgs false
open Go Go.RowKit
attribute [local irreducible] Go.wpStill

theorem size_bld : (Tryz.prog.info? 58).map (·.size) = some 2 := by kernel_rfl
theorem lies_bld : liesAt Tryz.prog Tryz.prog.depth 58 (2 / Tryz.prog.cellsOf 58) 0 58 1 = true := by kernel_rfl
theorem info_u8g : (Tryz.prog.info? 5).map (fun i => (i.zero, i.size, i.bytes)) = some (some (.int .u8 0), 1, 1) := by kernel_rfl

theorem copyCheck_used (b : Nat) (w : World) (h0 : w.cell? ⟨b, 0, none⟩ = some (.pointer (some ⟨b, 0, none⟩))) :
    Calls Tryz.prog 72 #[.pointer (some ⟨b, 0, none⟩)] w fun e w' => e = .returned (.tuple #[]) ∧ w' = w := by
  obtain ⟨j, hj, _⟩ := Option.map_eq_some_iff.1 size_bld
  go_enter Tryz.func72, Tryz.ntmps72
  go_wp2_with fail
  rw [Lib.run_neq_ptr_same w _ Tryz.underlying55 hj]
  go_wp2_with fail
  go_end0
  exact ⟨rfl, rfl⟩
set_option maxHeartbeats 1000000 in
theorem copyCheck_fresh (b : Nat) (w : World) (h0 : w.cell? ⟨b, 0, none⟩ = some (.pointer none)) (hsh : w.shape? b = some (58, 2)) (hfz : w.frozen? ⟨b, 0, none⟩ = false) :
    Calls Tryz.prog 72 #[.pointer (some ⟨b, 0, none⟩)] w fun e w' => e = .returned (.tuple #[]) ∧ w' = w.setCell ⟨b, 0, none⟩ (.pointer (some ⟨b, 0, none⟩)) := by
  obtain ⟨j, hj, hjs⟩ := Option.map_eq_some_iff.1 size_bld
  go_enter Tryz.func72, Tryz.ntmps72
  go_wp2_with fail
  rw [Lib.run_to_unsafe w ⟨b, 0, none⟩ Tryz.underlying55 Tryz.underlying116 hj (by rw [hjs]; decide) hsh (Nat.zero_lt_succ 1)]
  simp only [Result.andThen]
  rw [Oper.upon_value]
  go_wp2_with fail
  rw [run_callFunc_extern Tryz.func92 (by kernel_rfl) (by kernel_rfl) (by kernel_rfl) (e := Extern.AbiNoEscape.same) (by kernel_rfl)]
  rw [Lib.run_noEscape]
  simp only [Result.andThen]
  rw [Oper.upon_value]
  go_wp2_with fail
  rw [Lib.run_from_unsafe w ⟨b, 0, none⟩ Tryz.underlying116 Tryz.underlying55 hj hsh lies_bld]
  simp only [Result.andThen]
  rw [Oper.upon_value]
  go_wp2_with fail
  go_end0
  exact ⟨rfl, rfl⟩
theorem copyCheck_spec (B b : Nat) (bs : List Value) (w : World) (h : Lib.IsBuilder 58 5 B b bs w) :
    Calls Tryz.prog 72 #[.pointer (some ⟨b, 0, none⟩)] w fun e w' => e = .returned (.tuple #[]) ∧ (Lib.BuilderAt 58 5 B b (.pointer (some ⟨b, 0, none⟩)) bs w' ∧ Below B w w') := by
  rcases h with h | h
  · refine (copyCheck_fresh b w h.cell0 h.shape h.frozen0).mono ?_
    rintro e w' ⟨rfl, rfl⟩
    exact ⟨rfl, h.used _, (Below.refl B w).setCell (p := ⟨b, 0, none⟩) h.1 _⟩
  · refine (copyCheck_used b w h.cell0).mono ?_
    rintro e w' ⟨rfl, rfl⟩
    exact ⟨rfl, h, Below.refl B _⟩

set_option maxHeartbeats 2000000 in
theorem writeString_spec (B b : Nat) (bs : List Value) (s : ByteArray) (w : World) (h : Lib.IsBuilder 58 5 B b bs w) (hlen : bs.length + s.size ≤ 140737488355328) (hBw : B ≤ w.heap.size) :
    Calls Tryz.prog 37 #[.pointer (some ⟨b, 0, none⟩), .string s] w fun e w' => e = .returned (.tuple #[.int .i64 s.size, .nilIface]) ∧ (Lib.BuilderAt 58 5 B b (.pointer (some ⟨b, 0, none⟩)) (bs ++ Lib.strCells s) w' ∧ Below B w w') := by
  obtain ⟨i0, hi, hz0, hz1, hz2⟩ := info_parts info_u8g
  go_enter Tryz.func37, Tryz.ntmps37
  go_wp2_with fail
  refine (copyCheck_spec B b bs _ h).mono ?_
  rintro e w1 ⟨rfl, h1, hb1⟩
  obtain ⟨hB, v, hbk, hown, hne⟩ := h1
  have c0 : w1.cell? ⟨b, 0, none⟩ = some (.pointer (some ⟨b, 0, none⟩)) := by rw [Lib.cell_of_heap hbk]; rfl
  have c1 : w1.cell? ⟨b, 1, none⟩ = some v := by rw [Lib.cell_of_heap hbk]; rfl
  go_wp2_with (at_builtin; refine Lib.wpList_append_own_string _ rfl _ _ 56 9 rfl B 5 i0 Tryz.underlying56 Tryz.underlying9 hi hz0 hz1 hz2 _ _ _ rfl hown s rfl ?c3 ?c4 ?c5 ?kk)
  case c3 => unfold maxLen; omega
  case c4 => omega
  case c5 => have := hb1.size; omega
  case kk =>
    intro v' w2 hown' hgrow _
    have hlt : b < w1.heap.size := by
      rcases Nat.lt_or_ge b w1.heap.size with h' | h'
      · exact h'
      · simp [Array.getElem?_eq_none h'] at hbk
    have hb2 : w2.heap[b]? = some (.cells #[.pointer (some ⟨b, 0, none⟩), v] 58 (0, 0)) := by
      rw [hgrow.block b hlt (fun e => hne e.symm)]
      exact hbk
    have d0 : w2.cell? ⟨b, 0, none⟩ = some (.pointer (some ⟨b, 0, none⟩)) := by rw [Lib.cell_of_heap hb2]; rfl
    have d1 : w2.cell? ⟨b, 1, none⟩ = some v := by rw [Lib.cell_of_heap hb2]; rfl
    have f1 : w2.frozen? ⟨b, 1, none⟩ = false := Lib.frozen_of_heap hb2 1
    obtain ⟨ao, n', cap, rfl⟩ : ∃ ao n' cap, v' = .slice ao n' cap := by
      rcases hown'.2 with ⟨hv, _⟩ | ⟨g, cap, cur, hv, _⟩
      · exact ⟨_, _, _, hv⟩
      · exact ⟨_, _, _, hv⟩
    have H1 : Hid (Lib.BuilderAt 58 5 B b (.pointer (some ⟨b, 0, none⟩)) (bs ++ Lib.strCells s) (w2.setCell ⟨b, 1, none⟩ (.slice ao n' cap))) := Lib.hid (Lib.BuilderAt.put (T := 58) (e := 5) hB hb2 (bs' := bs ++ Lib.strCells s) (by simpa [Lib.strCells_length] using hown') (by decide))
    have H2 : Hid (Below B w (w2.setCell ⟨b, 1, none⟩ (.slice ao n' cap))) := Lib.hid ((hb1.grown hgrow (by have := hb1.size; omega) (fun k hk => (hown.lt k hk).1)).setCell (p := ⟨b, 1, none⟩) hB _)
    clear hown hown' hgrow hbk hb2 hne c0 c1 h
    go_wp2_with fail
    go_ret2
    exact ⟨rfl, H1.out, H2.out⟩
end Go.Proofs.YtpmkgedlnanjiaaGreatDoor
