/-
  Layer 7: the contract of at (tokens$1): the class of the byte at i, or 0 past the end.
-/
import Derived.Test.YtocadlcglgpdcaaDoorLxC
namespace Go.Proofs.YtocadlcglgpdcaaDoor
set_option linter.unusedVariables false
set_option linter.unusedSimpArgs false
open Go Go.RowKit
namespace Lx
def at' (l : List UInt8) (i : Nat) : Nat := match l[i]? with
  | some b => cls b
  | none => 0
theorem tab_get (b : UInt8) : tab[b.toNat]? = some (.int .u8 (cls b : Nat)) := by
  unfold tab nt
  rw [List.getElem?_map, List.getElem?_map, List.getElem?_range (UInt8.toNat_lt b)]
  simp [u8v]
end Lx
attribute [local irreducible] Lx.tab Lx.cls
theorem at_past (w : World) (s : ByteArray) (i : Nat) (b c : Nat) (hb : w.cell? ⟨b, 0, none⟩ = some (.string s)) (hi : s.size ≤ i) :
    Calls Tryd.prog 43 #[.int .i64 (i : Int), .pointer (some ⟨b, 0, none⟩), .pointer (some ⟨c, 0, none⟩)] w fun e w' => e = .returned (.int .u8 0) ∧ w' = w := by
  have h : (i : Int) ≥ (s.size : Int) := by omega
  have h' : (s.size : Int) ≤ (i : Int) := by omega
  clear hi
  go_enter Tryd.func43, Tryd.ntmps43
  go_wp2_with fail
  exact bodyPost_ret (v := .int .u8 0) (by simp [results, Tryd.results43, go_sem]) rfl ⟨rfl, rfl⟩
set_option maxRecDepth 100000 in
set_option maxHeartbeats 1000000 in
theorem at_in (w : World) (s : ByteArray) (i : Nat) (b c : Nat) (hb : w.cell? ⟨b, 0, none⟩ = some (.string s)) (hc : Blk w c Lx.tab 96) (hi : i < s.size) :
    Calls Tryd.prog 43 #[.int .i64 (i : Int), .pointer (some ⟨b, 0, none⟩), .pointer (some ⟨c, 0, none⟩)] w fun e w' => e = .returned (.int .u8 (Lx.cls s[i] : Nat)) ∧ w' = w := by
  have h : ¬ (s.size : Int) ≤ (i : Int) := by omega
  have h0 : (0 : Int) ≤ (i : Int) := by omega
  have h1 : (i : Int) < (s.size : Int) := by omega
  have ht := hc.cell (Lx.tab_get s[i])
  have HC := Lib.hid hc
  have hx2 : (s[i].toNat : Int) < 256 := by have := UInt8.toNat_lt s[i]; omega
  have hx3 : (0 : Int) ≤ (s[i].toNat : Int) := by omega
  clear hc
  go_enter Tryd.func43, Tryd.ntmps43
  go_wp2_with fail
  exact bodyPost_ret (v := .int .u8 (Lx.cls s[i] : Nat)) (by simp [results, Tryd.results43, go_sem]) rfl ⟨rfl, rfl⟩
end Go.Proofs.YtocadlcglgpdcaaDoor
