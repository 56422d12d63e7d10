/-
  Layer 5: the table of classes, in plain terms.
-/
import Derived.Test.YtocadlcglgpdcaaDoorLxA
import Derived.Test.YtocadlcglgpdcaaDoorShelf
import Derived.Deep.MidRow
import Derived.OwnWalk
import Derived.Deep.DeepCutAuto
import Derived.Deep.CutBlock
namespace Go.Proofs.YtocadlcglgpdcaaDoor
set_option linter.unusedVariables false
set_option linter.unusedSimpArgs false
open Go Go.RowKit

theorem Blk.range {w : World} {b : Nat} {cs : List Value} {e : TypeId} (h : Blk w b cs e) : w.rangeAt b 0 cs := fun j v hv => by
  rw [Nat.zero_add]
  exact h.cell hv
theorem Blk.there {w : World} {b : Nat} {cs : List Value} {e : TypeId} (h : Blk w b cs e) {n : Nat} (hn : n = cs.length) : w.there b 0 n := fun j hj => by
  rw [Nat.zero_add]
  refine ⟨?_, h.free j⟩
  rw [h.cell (i := j) (v := cs[j]'(by omega)) (by simp)]
  rfl
theorem setCells_blk (b : Nat) (e : TypeId) : ∀ (vs : List Value) (o : Nat) (w : World) (cs : List Value), Blk w b cs e → o + vs.length ≤ cs.length →
    Blk (w.setCells b o vs) b (cs.take o ++ vs ++ cs.drop (o + vs.length)) e ∧ Chg [b] w (w.setCells b o vs)
  | [], o, w, cs, h, _ => by
    refine ⟨?_, Chg.refl _ _⟩
    simpa [World.setCells] using h
  | v :: r, o, w, cs, h, hl => by
    rw [World.setCells]
    simp only [List.length_cons] at hl
    obtain ⟨h1, h2⟩ := setCells_blk b e r (o + 1) _ _ (h.set o v) (by rw [List.length_set]; omega)
    refine ⟨?_, ((Chg.refl [b] w).setCell ⟨b, o, none⟩ v (.inl (by simp))).trans h2 (by simp)⟩
    have he : (cs.set o v).take (o + 1) ++ r ++ (cs.set o v).drop (o + 1 + r.length) = cs.take o ++ (v :: r) ++ cs.drop (o + (v :: r).length) := by
      rw [List.drop_set_of_lt (by omega), List.length_cons, show o + 1 + r.length = o + (r.length + 1) by omega]
      congr 1
      rw [List.take_add_one, List.take_set_of_le (by omega), List.getElem?_set_self (by omega)]
      simp
    rw [he] at h1
    exact h1
namespace Lx
/-- The classes that the loop lays: without hash, under and bang. -/
def cl0 (k : Nat) : Nat := if cls (UInt8.ofNat k) = 2 ∨ cls (UInt8.ofNat k) = 5 ∨ cls (UInt8.ofNat k) = 8 then 0 else cls (UInt8.ofNat k)
def nt0 (k : Nat) : List Nat := (List.range 256).map fun i => if i < k then cl0 i else 0
def nt : List Nat := (List.range 256).map fun i => cls (UInt8.ofNat i)
def u8v (n : Nat) : Value := .int .u8 (n : Int)
def tab0 (k : Nat) : List Value := (nt0 k).map u8v
def tab : List Value := nt.map u8v
theorem nt0_len (k : Nat) : (nt0 k).length = 256 := by unfold nt0; rw [List.length_map, List.length_range]
theorem tab0_len (k : Nat) : (tab0 k).length = 256 := by unfold tab0; rw [List.length_map, nt0_len]
theorem tab_len : tab.length = 256 := by unfold tab nt; rw [List.length_map, List.length_map, List.length_range]
theorem zero_row : ∀ n : Nat, ((List.range n).map fun i => if i < 0 then cl0 i else 0).map u8v = List.replicate n (.int .u8 0)
  | 0 => rfl
  | n + 1 => by rw [List.range_succ, List.map_append, List.map_append, zero_row n, List.replicate_succ']; rfl
theorem tab0_zero : tab0 0 = List.replicate 256 (.int .u8 0) := zero_row 256
theorem nt0_set (k : Nat) (hk : k < 256) : (nt0 k).set k (cl0 k) = nt0 (k + 1) := by
  apply List.ext_getElem
  · rw [List.length_set, nt0_len, nt0_len]
  · intro i h1 h2
    rw [List.getElem_set]
    simp only [nt0, List.getElem_map, List.getElem_range]
    split
    · rename_i h
      subst h
      rw [if_pos (by omega)]
    · rename_i h
      by_cases h3 : i < k
      · rw [if_pos h3, if_pos (by omega)]
      · rw [if_neg h3, if_neg (by omega)]
theorem tab0_set (k : Nat) (hk : k < 256) : (tab0 k).set k (.int .u8 (cl0 k : Nat)) = tab0 (k + 1) := by
  unfold tab0
  rw [← nt0_set k hk, List.map_set]
  rfl
theorem tab0_same (k : Nat) (hk : k < 256) (h0 : cl0 k = 0) : tab0 k = tab0 (k + 1) := by
  unfold tab0
  rw [← nt0_set k hk, h0]
  congr 1
  apply List.ext_getElem
  · rw [List.length_set]
  · intro i h1 h2
    rw [List.getElem_set]
    split
    · rename_i h
      subst h
      simp only [nt0, List.getElem_map, List.getElem_range]
      rw [if_neg (by omega)]
    · rfl
theorem nt_eq : ((((nt0 256).set 35 2).set 95 5).set 33 8) = nt := by decide +kernel
theorem tab_eq : ((((tab0 256).set 35 (.int .u8 2)).set 95 (.int .u8 5)).set 33 (.int .u8 8)) = tab := by
  unfold tab0 tab
  rw [← nt_eq, List.map_set, List.map_set, List.map_set]
  rfl
theorem ix_blank : ∀ k, k < 256 → (0 ≤ Lib.indexByte [32, 9, 10] k.toUInt8 ↔ k = 32 ∨ k = 9 ∨ k = 10) := by decide +kernel
theorem ix_sym : ∀ k, k < 256 → (0 ≤ Lib.indexByte [59, 44, 46, 58, 40, 41, 123, 125, 61, 43, 45, 47] k.toUInt8 ↔ k ∈ [59, 44, 46, 58, 40, 41, 123, 125, 61, 43, 45, 47]) := by decide +kernel
theorem cl_letter : ∀ k, k < 256 → (97 ≤ k ∧ k ≤ 122 ∨ 65 ≤ k ∧ k ≤ 90) → cl0 k = 3 := by decide +kernel
theorem cl_digit : ∀ k, k < 256 → 48 ≤ k → k ≤ 57 → cl0 k = 4 := by decide +kernel
theorem cl_blank : ∀ k, k < 256 → (k = 32 ∨ k = 9 ∨ k = 10) → cl0 k = 1 := by decide +kernel
theorem cl_sym : ∀ k, k < 256 → k ∈ [59, 44, 46, 58, 40, 41, 123, 125, 61, 43, 45, 47] → cl0 k = 6 := by decide +kernel
theorem cl_pre : ∀ k, k < 256 → (k = 60 ∨ k = 62) → cl0 k = 7 := by decide +kernel
theorem cl_otherB : ∀ k, k < 256 → (decide (97 ≤ k ∧ k ≤ 122) || decide (65 ≤ k ∧ k ≤ 90) || decide (48 ≤ k ∧ k ≤ 57) || decide (k = 32 ∨ k = 9 ∨ k = 10) || decide (k ∈ [59, 44, 46, 58, 40, 41, 123, 125, 61, 43, 45, 47]) || decide (k = 60 ∨ k = 62) || cl0 k == 0) = true := by decide +kernel
theorem cl_other (k : Nat) (hk : k < 256) (h1 : ¬ (97 ≤ k ∧ k ≤ 122)) (h2 : ¬ (65 ≤ k ∧ k ≤ 90)) (h3 : ¬ (48 ≤ k ∧ k ≤ 57)) (h4 : ¬ (k = 32 ∨ k = 9 ∨ k = 10)) (h5 : ¬ k ∈ [59, 44, 46, 58, 40, 41, 123, 125, 61, 43, 45, 47]) (h6 : ¬ (k = 60 ∨ k = 62)) : cl0 k = 0 := by
  have h := cl_otherB k hk
  rw [decide_eq_false h1, decide_eq_false h2, decide_eq_false h3, decide_eq_false h4, decide_eq_false h5, decide_eq_false h6] at h
  simpa using h
end Lx
/-- What a round of the loop of classes leaves behind. -/
theorem lx_round {w x : World} {B k : Nat} (hk6 : k < 256) (h : Blk x B (Lx.tab0 0) 96 ∧ Blk x (B + 1) (Lx.tab0 (k + 1)) 96 ∧ Chg [] w x) :
    (∃ k_1 : Nat, k_1 ≤ 256 ∧ Value.int IntKind.i64 ((k : Int) + 1) = Value.int IntKind.i64 (k_1 : Int) ∧ Blk x B (Lx.tab0 0) 96 ∧ Blk x (B + 1) (Lx.tab0 k_1) 96 ∧ Chg [] w x) ∧
      256 - (intOf (Value.int IntKind.i64 ((k : Int) + 1))).toNat < 256 - (intOf (Value.int IntKind.i64 (k : Int))).toNat := by
  refine ⟨⟨k + 1, by omega, rfl, h⟩, ?_⟩
  show 256 - ((k : Int) + 1).toNat < 256 - (k : Int).toNat
  omega
end Go.Proofs.YtocadlcglgpdcaaDoor
