/-
  The statements' own helpers: text, fill, size, ok.
-/
import Derived.Test.YtnlgblcldbdnlaaHeap
import Derived.Test.YtnlgblcldbdnlaaDkModel
import Derived.Test.YtnlgblcldbdnlaaProg
import Derived.Deep.DeepCutAuto
namespace Go.Proofs.Ytnlgblcldbdnlaa
set_option linter.unusedVariables false
set_option linter.unusedSimpArgs false
open Go Go.RowKit

/-- An operation. -/
structure ActD where
  kind : Int
  sector : Int
  bytes : Int
  text : Bytes
  odd : Bool
  after : Int

/-- The first 64 bytes of a text that is repeated. -/
def rep64 (t : Bytes) : Bytes := ((List.replicate 64 t).flatten).take 64

namespace ActD
def cells (a : ActD) : List Value := [.int .i64 a.kind, .int .i64 a.sector, .int .i64 a.bytes, .string ⟨a.text.toArray⟩, .bool a.odd, .int .i64 a.after]
def val (a : ActD) : Value := .agg #[.int .i64 a.kind, .int .i64 a.sector, .int .i64 a.bytes, .string ⟨a.text.toArray⟩, .bool a.odd, .int .i64 a.after]
def txt (a : ActD) : Bytes := if a.odd = true ∨ a.text = [] then a.text else rep64 a.text
end ActD

theorem rep_len (t : Bytes) (k : Nat) : ((List.replicate k t).flatten).length = k * t.length := by
  induction k with
  | zero => simp
  | succ k ih => rw [List.replicate_succ, List.flatten_cons, List.length_append, ih, Nat.succ_mul]; omega
theorem rep_take (t : Bytes) (k : Nat) (hk : k ≤ 64) (h : 64 ≤ k * t.length) : ((List.replicate k t).flatten).take 64 = ((List.replicate 64 t).flatten).take 64 := by
  have e : (List.replicate 64 t).flatten = (List.replicate k t).flatten ++ (List.replicate (64 - k) t).flatten := by
    rw [← List.flatten_append, List.replicate_append_replicate]
    congr 2
    omega
  rw [e, List.take_append_of_le_length (by rw [rep_len]; exact h)]
theorem rep_succ (t : Bytes) (k : Nat) : (List.replicate (k + 1) t).flatten = (List.replicate k t).flatten ++ t := by
  rw [List.replicate_succ', List.flatten_append]
  simp
def strLen : Value → Nat | .string s => s.size | _ => 0

theorem text_odd (w : World) (a : ActD) (ho : a.odd = true ) :
    Calls Try.prog 23 #[a.val] w fun e w' => e = .returned (.string ⟨a.text.toArray⟩) ∧ Chg [] w w' := by
  unfold ActD.val
  rw [ho]
  go_enter Try.func23, Try.ntmps23
  go_wp2_with fail
  go_ret
  exact ⟨rfl, (Chg.refl _ _).alloc _⟩
theorem text_empty (w : World) (a : ActD) (ho : a.odd = false) (ht : a.text = []) :
    Calls Try.prog 23 #[a.val] w fun e w' => e = .returned (.string ⟨a.text.toArray⟩) ∧ Chg [] w w' := by
  unfold ActD.val
  rw [ho, ht]
  go_enter Try.func23, Try.ntmps23
  go_wp2_with fail
  go_ret
  exact ⟨rfl, (Chg.refl _ _).alloc _⟩
theorem text_full (w : World) (a : ActD) (ho : a.odd = false) (t : Bytes) (Ht : Hid (a.text = t)) (h1 : (t == []) = false) (h0 : 0 < t.length) (hl : t.length ≤ 100) :
    Calls Try.prog 23 #[a.val] w fun e w' => e = .returned (.string ⟨(rep64 t).toArray⟩) ∧ Chg [] w w' := by
  unfold ActD.val
  rw [ho, Ht.out]
  go_enter Try.func23, Try.ntmps23
  go_wp2_with fail
  go_loop [3] (fun s3 => ∃ k : Nat, k ≤ 64 ∧ s3 = .string ⟨((List.replicate k t).flatten).toArray⟩) (fun s3 => 64 - strLen s3)
  case atStart => exact ⟨0, by omega, rfl⟩
  case round =>
    obtain ⟨k, hk, rfl⟩ := hrel
    have hL := rep_len t k
    obtain ⟨L, hLL⟩ : ∃ L, L = (List.replicate k t).flatten := ⟨_, rfl⟩
    rw [← hLL] at hL ⊢
    have HL := Lib.hid hL
    have HLL := Lib.hid hLL
    clear hL hLL
    by_cases hlt : L.length < 64
    · go_wp2_with fail
      go_round
      case rel =>
        have e1 := HL.out
        have e2 := Nat.le_mul_of_pos_right k h0
        exact ⟨k + 1, by omega, by rw [ByteArray.mk_append_mk, rep_succ, HLL.out]⟩
      case measure =>
        rw [ByteArray.mk_append_mk]
        simp only [strLen, Lib.size_eq, List.toList_toArray, List.length_append]
        omega
    · go_wp2_with fail
      go_ret
      refine ⟨?_, (Chg.refl _ _).alloc _⟩
      have e1 := HL.out
      rw [ByteArray.extract_mk, HLL.out]
      simp only [List.drop_zero, Nat.sub_zero]
      rw [rep_take t k hk (by omega)]
      rfl

theorem text_spec (w : World) (a : ActD) (hl : a.text.length ≤ 100) :
    Calls Try.prog 23 #[a.val] w fun e w' => e = .returned (.string ⟨a.txt.toArray⟩) ∧ Chg [] w w' := by
  unfold ActD.txt
  cases ho : a.odd with
  | true => rw [if_pos (.inl rfl)]; exact text_odd w a ho
  | false =>
    by_cases ht : a.text = []
    · rw [if_pos (.inr ht)]; exact text_empty w a ho ht
    · rw [if_neg (by simp; exact ht)]
      exact text_full w a ho a.text (Lib.hid rfl) (by simpa using ht) (List.length_pos_iff.2 ht) hl

/-- 64 equal letters. -/
def fillD (c : UInt8) : Bytes := List.replicate 64 c
theorem fill_txt (c : UInt8) : rep64 [c] = fillD c := by
  unfold fillD rep64
  rw [List.flatten_replicate_singleton]
  simp
theorem fill_spec (w : World) (c : UInt8) :
    Calls Try.prog 27 #[.string ⟨#[c]⟩] w fun e w' => e = .returned (.string ⟨(fillD c).toArray⟩) ∧ Chg [] w w' := by
  go_enter Try.func27, Try.ntmps27
  go_wp2_with fail
  refine (text_full w ⟨0, 0, 0, [c], false, 0⟩ rfl [c] (Lib.hid rfl) rfl (by simp) (by simp)).mono ?_
  rintro e w1 ⟨rfl, hc⟩
  rw [fill_txt]
  go_wp2_with fail
  go_ret
  exact ⟨rfl, hc⟩

theorem size_spec (w : World) (raw : Nat) (h : raw < 256) :
    Calls Try.prog 13 #[.int .u8 raw] w fun e w' => e = .returned (.int .i64 ((1 + raw % 12 : Nat) : Int)) ∧ w = w' := by
  go_enter Try.func13, Try.ntmps13
  go_wp2_with fail
  go_ret
  refine ⟨?_, rfl⟩
  first | rfl | (congr 2; omega)
end Go.Proofs.Ytnlgblcldbdnlaa
