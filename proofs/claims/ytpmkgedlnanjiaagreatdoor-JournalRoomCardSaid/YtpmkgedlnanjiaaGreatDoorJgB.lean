/-
  The digest of layer 2: its text, and the digest of a text.
-/
import Derived.Test.YtpmkgedlnanjiaaGreatDoorJgA
import Derived.Lib.LaidTab
namespace Go.Proofs.YtpmkgedlnanjiaaGreatDoor
set_option linter.unusedVariables false
set_option maxRecDepth 100000
set_option linter.unusedSimpArgs false
open Go Go.RowKit
attribute [local irreducible] Go.wpStill

def hexTab : List Int := [48, 49, 50, 51, 52, 53, 54, 55, 56, 57, 97, 98, 99, 100, 101, 102]
/-- The tables that the row lists lie as their initialisers lay them. -/
structure Laid (w : World) : Prop where
  hex : Lib.TabIs Tryz.prog w "foyer/digest.hex" .u8 hexTab
  pow : Lib.TabIs Tryz.prog w "internal/strconv.uint64pow10" .u64 Lib.pow10Tab
  syn : ∃ ev, w.cell? ⟨0, 0, none⟩ = some ev ∧ (ev = .nilIface ∨ ∃ te pe, ev = .iface te pe)
  rng : ∃ ev, w.cell? ⟨1, 0, none⟩ = some ev ∧ (ev = .nilIface ∨ ∃ te pe, ev = .iface te pe)
  cut : ∃ m, w.cell? ⟨3, 0, none⟩ = some (.int .i64 m)
theorem tab_kept {w w' : World} {name : String} {k : IntKind} {zs : List Int} {g : Nat} (hg : Tryz.prog.globalNamed name = some g) (h : Lib.TabIs Tryz.prog w name k zs) (hc : Chg [] w w') : Lib.TabIs Tryz.prog w' name k zs := by
  unfold Lib.TabIs World.var? at h ⊢
  rw [hg] at h ⊢
  simp only [Option.bind_some] at h ⊢
  have hl : g < w.heap.size := by
    rcases Nat.lt_or_ge g w.heap.size with h' | h'
    · exact h'
    · rw [Array.getElem?_eq_none h'] at h; simp at h
  rw [hc.block g hl (by simp)]
  exact h
theorem glob_hex : Tryz.prog.globalNamed "foyer/digest.hex" = some 2 := by kernel_rfl
theorem glob_pow : Tryz.prog.globalNamed "internal/strconv.uint64pow10" = some 4 := by kernel_rfl
theorem Laid.quiet {w w' : World} (h : Laid w) (hc : Chg [] w w') : Laid w' := ⟨tab_kept glob_hex h.hex hc, tab_kept glob_pow h.pow hc, h.syn.imp (fun ev h1 => ⟨cell_quiet hc h1.1 (by simp), h1.2⟩), h.rng.imp (fun ev h1 => ⟨cell_quiet hc h1.1 (by simp), h1.2⟩), h.cut.imp (fun m h1 => cell_quiet hc h1 (by simp))⟩
theorem Laid.cell {w : World} (h : Laid w) (j : Nat) (hj : j < 16) : w.cell? ⟨2, j, none⟩ = some (.int .u8 (hexTab.getD j 0)) := h.hex.cell glob_hex j hj

namespace Dg
def hexd (j : Nat) : UInt8 := if j < 10 then UInt8.ofNat (48 + j) else UInt8.ofNat (87 + j)
def dig (s i : Nat) : Nat := (s / 2 ^ (60 - 4 * i)) &&& 15
def text (s : Nat) : Bytes := (List.range 16).map (fun i => hexd (dig s i))
theorem dig_lt (s i : Nat) : dig s i < 16 := Nat.lt_of_le_of_lt Nat.and_le_right (by decide)
theorem hexd_tab : ∀ j : Nat, j < 16 → hexTab.getD j 0 = ((hexd j).toNat : Int) := by decide
def part (s k : Nat) : Bytes := (List.range 16).map (fun i => if i < k then hexd (dig s i) else 0)
theorem part_zero (s : Nat) : part s 0 = List.replicate 16 0 := by
  unfold part
  rfl
theorem part_len (s k : Nat) : (part s k).length = 16 := by unfold part; simp
theorem part_all (s : Nat) : part s 16 = text s := by
  unfold part text
  apply List.map_congr_left
  intro i hi
  rw [if_pos (List.mem_range.1 hi)]
theorem part_set (s k : Nat) (hk : k < 16) : (part s k).set k (hexd (dig s k)) = part s (k + 1) := by
  apply List.ext_getElem?
  intro i
  rw [List.getElem?_set, part_len]
  unfold part
  by_cases hi : i < 16
  · rw [List.getElem?_map, List.getElem?_map, List.getElem?_range hi]
    simp only [Option.map_some]
    by_cases hki : k = i
    · subst hki
      rw [if_pos rfl, if_pos hk, if_pos (by omega)]
    · rw [if_neg hki]
      by_cases h2 : i < k
      · rw [if_pos h2, if_pos (by omega)]
      · rw [if_neg h2, if_neg (by omega)]
  · rw [if_neg (by omega)]
    simp [List.getElem?_eq_none (show (List.range 16).length ≤ i by simp; omega)]
end Dg

set_option maxHeartbeats 1000000 in
theorem dtext_spec (w : World) (HL : Hid (Laid w)) (s : Nat) (hs : s < 18446744073709551616) :
    Calls Tryz.prog 108 #[.int .u64 (s : Int)] w fun e w' => e = .returned (.string ⟨(Dg.text s).toArray⟩) ∧ Chg [] w w' := by
  have hb0 : Blk (w.alloc (.cells #[.int .u8 0, .int .u8 0, .int .u8 0, .int .u8 0, .int .u8 0, .int .u8 0, .int .u8 0, .int .u8 0, .int .u8 0, .int .u8 0, .int .u8 0, .int .u8 0, .int .u8 0, .int .u8 0, .int .u8 0, .int .u8 0] 147)) w.heap.size ((Dg.part s 0).map B8) 147 := by
    rw [Dg.part_zero]
    exact Blk.new w _ _
  have hc0 : Chg [] w (w.alloc (.cells #[.int .u8 0, .int .u8 0, .int .u8 0, .int .u8 0, .int .u8 0, .int .u8 0, .int .u8 0, .int .u8 0, .int .u8 0, .int .u8 0, .int .u8 0, .int .u8 0, .int .u8 0, .int .u8 0, .int .u8 0, .int .u8 0] 147)) := (Chg.refl _ _).alloc _
  have HB0 := Lib.hid hb0
  have HC0 := Lib.hid hc0
  clear hb0 hc0
  go_enter Tryz.func108, Tryz.ntmps108
  go_wp2_with fail
  obtain ⟨tb, htb⟩ : ∃ tb, tb = w.heap.size := ⟨_, rfl⟩
  rw [← htb] at HB0 ⊢
  have HTB := Lib.hid htb
  clear htb
  go_loopw [5] (fun i wr => ∃ k : Nat, k ≤ 16 ∧ i = .int .i64 k ∧ Blk wr tb ((Dg.part s k).map B8) 147 ∧ Chg [] w wr) (fun i _ => 16 - (intOf i).toNat)
  case atStart => exact ⟨0, Nat.zero_le _, rfl, HB0.out, HC0.out⟩
  case round =>
    obtain ⟨k, hk, rfl, hB, hC⟩ := hrel
    have HB := Lib.hid hB
    have HC := Lib.hid hC
    clear hB hC HB0 HC0
    by_cases hlt : k < 16
    · obtain ⟨m, hm⟩ : ∃ m, m = 60 - 4 * k := ⟨_, rfl⟩
      have hm60 : m ≤ 60 := by omega
      have e0 : IntKind.i64.wrap (4 * (k : Int)) = 4 * (k : Int) := IntWalk.i64_in _ (by omega)
      have e1 : IntKind.i64.wrap (60 - 4 * (k : Int)) = (m : Int) := by rw [IntWalk.i64_in _ (by omega)]; omega
      obtain ⟨y, hy⟩ : ∃ y, y = s / 2 ^ m := ⟨_, rfl⟩
      have e2 : (s : Int) / 2 ^ m = (y : Int) := by rw [hy]; simp
      have hyl : y < 18446744073709551616 := by rw [hy]; exact Dg.half_lt _ hs
      obtain ⟨j, hj⟩ : ∃ j, j = y &&& 15 := ⟨_, rfl⟩
      have e3 : bits .and .u64 (y : Int) 15 = (j : Int) := by rw [hj]; exact bits_and_u64_nat y 15 hyl (by decide)
      have hjd : j = Dg.dig s k := by rw [hj, hy, hm]; rfl
      have hjl : j < 16 := by rw [hjd]; exact Dg.dig_lt s k
      have hjl2 : (j : Int) < 16 := by omega
      have hcell := (HL.out.quiet HC.out).cell j hjl
      rw [Dg.hexd_tab j hjl] at hcell
      have HJ := Lib.hid hjd
      have hold : ∃ v, wr.cell? ⟨tb, k, none⟩ = some v := ⟨_, HB.out.cell (i := k) (by rw [List.getElem?_map, List.getElem?_eq_getElem (by rw [Dg.part_len]; exact hlt)]; rfl)⟩
      obtain ⟨v0, hv0⟩ := hold
      have hf0 := HB.out.free k
      clear hm hy hj hjd hyl
      go_wp2_with fail
      go_roundw
      case rel =>
        refine ⟨k + 1, by omega, by go_num, ?_, HC.out.setCell _ _ (.inr (by rw [HTB.out]; exact Nat.le_refl _))⟩
        rw [← Dg.part_set s k hlt, List.map_set, ← HJ.out]
        exact HB.out.set k _
      case measure => simp [intOf]; omega
    · have hk16 : k = 16 := by omega
      subst hk16
      have hb := HB.out
      rw [Dg.part_all] at hb
      have hcv : (convert 56 9 (.slice (some ⟨tb, 0, none⟩) 16 16)).run Tryz.prog wr = .ok (.string ⟨(Dg.text s).toArray⟩) wr := by
        have hrun' : (Conv.bytesToString (.slice (some ⟨tb, 0, none⟩) 16 16)).run Tryz.prog wr = .ok (.string ⟨(Dg.text s).toArray⟩) wr := run_bytes_of (l := Dg.text s) hb (by rw [← Dg.part_all, Dg.part_len]) (fun j hj => by rw [Nat.zero_add])
        rw [run_convert_bytes_string _ _ _ 5 _ _ _ Tryz.underlying56 Tryz.underlying5 Tryz.underlying9]
        exact hrun'
      clear hb
      go_wp2_with fail
      go_ret
      exact ⟨rfl, HC.out⟩
end Go.Proofs.YtpmkgedlnanjiaaGreatDoor
