/-
  Plan, layer 23: stands (where it is true).
-/
import Derived.Test.YtocadlcglgpdcaaDoorPnW
import Derived.Test.YtocadlcglgpdcaaDoorPoB
import Derived.Laws.DeepStrings4
namespace Go.Proofs.YtocadlcglgpdcaaDoor
set_option linter.unusedVariables false
set_option linter.unusedSimpArgs false
open Go Go.RowKit Go.Shelf
open Lx (Tk)
attribute [local go_sem ↓] Go.wp_at_zero Go.wp_at_succ
theorem sub_mid (s : Bytes) (i n : Nat) : (⟨s.toArray⟩ : ByteArray).extract i (i + n) = ⟨((s.drop i).take n).toArray⟩ := by
  apply ByteArray.ext
  rw [ByteArray.data_extract, List.extract_toArray, List.extract_eq_take_drop]
  simp
theorem ListS.len_le {α : Type} {w : World} {B : Nat} {E : TypeId} {size : Nat} {C : α → List Value → World → Prop} {l : List α} {v : Value} (h : ListS B E size C l v w) : l.length ≤ 9223372036854775807 := by
  obtain ⟨css, _, _, h3⟩ := h
  rcases h3.2 with ⟨_, h0⟩ | ⟨g, cap, cur, _, _, _, hle, hm, _⟩
  · omega
  · unfold maxLen at hm
    omega
theorem vintP {k : IntKind} {a b : Int} (h : a = b) : Value.int k a = Value.int k b := by rw [h]
theorem size_of (s : Bytes) : (⟨s.toArray⟩ : ByteArray).size = s.length := by show s.toArray.size = _; simp
theorem sub_take (s : Bytes) (i : Nat) : (⟨s.toArray⟩ : ByteArray).extract 0 i = ⟨(s.take i).toArray⟩ := by
  have := sub_mid s 0 i
  simpa using this
theorem lex_r {w : World} {s : Bytes} (hs : s.length ≤ 100000) {sb : ByteArray} (HSB : Hid (sb = ⟨s.toArray⟩)) {R : Ending → World → Prop}
    (h : ∀ (ao : Option Addr) (n cap E : Nat) (A : Int) (w' : World), Hid (TokS w' (.slice ao n cap) (Lx.lex s).1) → Hid (Chg [] w w') → Hid ((Lx.lex s).1.length = n ∧ (Lx.lex s).2.1 = E ∧ (Lx.lex s).2.2 = A) →
      R (.returned (.tuple #[.slice ao n cap, .int .i64 (E : Int), .int .i64 A])) w') : Calls Tryd.prog 13 #[.string sb] w R := by
  rw [HSB.out]
  refine (lex_spec w s (by omega)).mono ?_
  rintro e w' ⟨v, rfl, ht, hc⟩
  obtain ⟨ao, cap, rfl⟩ := ht.frm
  exact h ao _ cap _ _ w' (Lib.hid ht) (Lib.hid hc) (Lib.hid ⟨rfl, rfl, rfl⟩)
theorem hsize {s : Bytes} {sb : ByteArray} (HSB : Hid (sb = ⟨s.toArray⟩)) : sb.size = s.length := by rw [HSB.out]; exact size_of s
theorem nl_cat {s m : Bytes} {sb mb : ByteArray} (HSB : Hid (sb = ⟨s.toArray⟩)) (HMB : Hid (mb = ⟨m.toArray⟩)) : sb ++ (⟨#[10]⟩ : ByteArray) ++ mb = ⟨(s ++ 10 :: m).toArray⟩ := by
  rw [HSB.out, HMB.out]
  apply ByteArray.ext
  apply Array.ext'
  simp
theorem cut_to {s : Bytes} {sb : ByteArray} (HSB : Hid (sb = ⟨s.toArray⟩)) (i : Nat) : sb.extract 0 i = ⟨(s.take i).toArray⟩ := by
  rw [HSB.out]
  exact sub_take s i
theorem TokS.get {w : World} {ao : Option Addr} {m cap : Nat} {l : List Lx.Tk} (h : TokS w (.slice ao m cap) l) {k : Nat} {t : Lx.Tk} (ht : l[k]? = some t) : ∃ g off, ao = some ⟨g, off, none⟩ ∧ m ≤ cap ∧ m = l.length ∧
    w.cell? ⟨g, off + k * 4, none⟩ = some (.int .i64 t.kind) ∧ w.cell? ⟨g, off + k * 4 + 1, none⟩ = some (.string ⟨t.text.toArray⟩) ∧ w.cell? ⟨g, off + k * 4 + 2, none⟩ = some (.int .i64 t.n) ∧ w.cell? ⟨g, off + k * 4 + 3, none⟩ = some (.int .i64 t.at_) := by
  obtain ⟨ao', cap', he, h4, h5⟩ := h
  cases he
  obtain ⟨g, off, rfl, k0, k1, k2, k3⟩ := h5 k t ht
  rw [Nat.mul_comm 4 k] at k0 k1 k2 k3
  exact ⟨g, off, rfl, h4, rfl, k0, k1, k2, k3⟩
theorem drop_cons {α : Type} {l : List α} {i : Nat} {a : α} (h : l[i]? = some a) : l.drop i = a :: l.drop (i + 1) := by
  obtain ⟨hi, h⟩ := List.getElem?_eq_some_iff.1 h
  rw [← h]
  exact List.drop_eq_getElem_cons hi
theorem ListS.len_le' {α : Type} {w : World} {B : Nat} {E : TypeId} {size : Nat} {C : α → List Value → World → Prop} {l : List α} {ao : Option Addr} {n c : Nat} (h : ListS B E size C l (.slice ao n c) w) : n = l.length := by
  obtain ⟨ao', cap, e⟩ := h.form
  cases e
  rfl
def intN : Value → Nat
  | .int _ n => n.toNat
  | _ => 0
theorem parse_hl {w : World} {s : Bytes} {sb : ByteArray} (hs : s.length ≤ 1000000) (HS : Hid (sb = ⟨s.toArray⟩)) {R : Ending → World → Prop}
    (h : ∀ (h : Pn.Hl) (er : Nat) (at_ : Int) (ao : Option Addr) (n cap : Nat) (w' : World), Hid (Pn.parse s = (h, er, at_)) → Hid (n = h.levels.length) → Hid (ListS w.heap.size 47 8 (Clv w.heap.size) h.levels (.slice ao n cap) w') → Hid (Chg [] w w') →
      R (.returned (.tuple #[.agg #[.string ⟨h.name.toArray⟩, .int .i64 (h.sx : Nat), .int .i64 (h.sy : Nat), .slice ao n cap], .int .i64 (er : Nat), .int .i64 at_])) w') :
    Calls Tryd.prog 10 #[.string sb] w R := by
  rw [HS.out]
  refine (parse_spec w s hs).mono ?_
  intro e w' hp
  obtain ⟨ao, cap, rfl, hl, hc⟩ := hall_form hp
  exact h _ _ _ ao _ cap w' (Lib.hid rfl) (Lib.hid rfl) (Lib.hid hl) (Lib.hid hc)
end Go.Proofs.YtocadlcglgpdcaaDoor
