/-
  Plan, layer 23: stands (where it is true).
-/
import Derived.Test.YtocadlcglgpdcaaDoorPnW
import Derived.Test.YtocadlcglgpdcaaDoorPoD
import Derived.Laws.DeepStrings4
namespace Go.Proofs.YtocadlcglgpdcaaDoor
set_option linter.unusedVariables false
set_option linter.unusedSimpArgs false
open Go Go.RowKit Go.Shelf
open Lx (Tk)
attribute [local go_sem ↓] Go.wp_at_zero Go.wp_at_succ
theorem sub_mid (s : Bytes) (i n : Nat) : (⟨s.toArray⟩ : ByteArray).extract i (i + n) = ⟨((s.drop i).take n).toArray⟩ := by
  apply ByteArray.ext
  rw [ByteArray.data_extract, List.extract_toArray, List.extract_eq_take_drop]
  simp
theorem stands_true (w : World) (sb : ByteArray) (s x : Bytes) (HS : Hid (sb = ⟨s.toArray⟩)) (hs : s.length ≤ 1000000) (hx : x.length ≤ 1000) (a n : Nat) (HT : Hid (Pn.Std s x a n)) :
    Calls Tryd.prog 15 #[.string sb, .string ⟨x.toArray⟩, .int .i64 (a : Nat), .int .i64 (n : Nat)] w fun e w' => e = .returned (.bool true) ∧ w' = w := by
  obtain ⟨h1, h2, h3⟩ := HT.out
  have hsz : (sb.size : Int) = (s.length : Int) := by rw [HS.out]; show ((s.toArray.size : Nat) : Int) = _; simp
  obtain ⟨xb, hxb⟩ : ∃ xb : ByteArray, xb = ⟨x.toArray⟩ := ⟨_, rfl⟩
  rw [← hxb]
  have hxz : (xb.size : Int) = (x.length : Int) := by rw [hxb]; show ((x.toArray.size : Nat) : Int) = _; simp
  have HE : Hid (sb.extract a (a + x.length) = xb) := Lib.hid (by rw [HS.out, sub_mid, h3, hxb])
  clear h3 hxb
  go_enter Tryd.func15, Tryd.ntmps15
  have q1 : (n : Int) ≤ (a : Int) := by omega
  have q2 : (a : Int) ≤ (s.length : Int) - (x.length : Int) := by omega
  have q3 : IntKind.i64.wrap ((s.length : Int) - (x.length : Int)) = (s.length : Int) - (x.length : Int) := IntWalk.i64_in _ (by omega)
  have q4 : IntKind.i64.wrap ((a : Int) + (x.length : Int)) = ((a + x.length : Nat) : Int) := by rw [IntWalk.i64_in _ (by omega)]; omega
  go_wp2_with fail
  go_ret
  rw [HE.out]
  exact ⟨by simp, rfl⟩
theorem stands_r {w : World} {sb : ByteArray} {s x : Bytes} (HS : Hid (sb = ⟨s.toArray⟩)) (hs : s.length ≤ 1000000) (hx : x.length ≤ 1000) {a n : Nat} (HT : Hid (Pn.Std s x a n)) {R : Ending → World → Prop} (h : R (.returned (.bool true)) w) :
    Calls Tryd.prog 15 #[.string sb, .string ⟨x.toArray⟩, .int .i64 (a : Nat), .int .i64 (n : Nat)] w R := by
  refine (stands_true w sb s x HS hs hx a n HT).mono ?_
  rintro e w' ⟨rfl, rfl⟩
  exact h
theorem ListS.len_le {α : Type} {w : World} {B : Nat} {E : TypeId} {size : Nat} {C : α → List Value → World → Prop} {l : List α} {v : Value} (h : ListS B E size C l v w) : l.length ≤ 9223372036854775807 := by
  obtain ⟨css, _, _, h3⟩ := h
  rcases h3.2 with ⟨_, h0⟩ | ⟨g, cap, cur, _, _, _, hle, hm, _⟩
  · omega
  · unfold maxLen at hm
    omega
theorem vintP {k : IntKind} {a b : Int} (h : a = b) : Value.int k a = Value.int k b := by rw [h]
end Go.Proofs.YtocadlcglgpdcaaDoor
