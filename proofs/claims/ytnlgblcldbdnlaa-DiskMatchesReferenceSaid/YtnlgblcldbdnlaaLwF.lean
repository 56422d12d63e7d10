/-
  The statements' own helper 'head': it returns true.
-/
import Derived.Test.YtnlgblcldbdnlaaLwE
namespace Go.Proofs.Ytnlgblcldbdnlaa
set_option linter.unusedVariables false
set_option linter.unusedSimpArgs false
open Go Go.RowKit

def fa : Bytes := fillD 97
def fb : Bytes := fillD 98
def f0 : Bytes := fillD 0
def sBB : Bytes := [98, 98] ++ (fillD 97).drop 2
def sAB : Bytes := [97, 98] ++ (fillD 97).drop 2
def hA0 : DK := DK.new 2
def hA1 : DK := (hA0.write 0 fa).2
def hA2 : DK := hA1.sync.2
def hA3 : DK := (hA2.write 0 fb).2
def hA4 : DK := hA3.fail 0 2
def hA5 : DK := hA4.sync.2
def hA6 : DK := hA5.start
def hX0 : DK := DK.new 1
def hX1 : DK := (hX0.write 0 fa).2
def hX2 : DK := hX1.sync.2
def hX3 : DK := hX2.rot 0 1 3
def hX4 : DK := hX3.stale 0
def hK0 : DK := DK.new 1
def hK1 : DK := hK0.setArm 1 1 2
def hK2 : DK := (hK1.write 0 fa).2
def hK3 : DK := (hK2.write 0 fb).2
def hK4 : DK := hK3.start
theorem w_hA1 : (hA0.write 0 fa).1 = 0 := by decide +kernel
theorem c_hA1 {w0 wc : World} {p : Nat} (h : At w0 wc [] p hA0) : Calls Try.prog 22 #[.pointer (some ⟨p, 0, none⟩), .int .i64 0, .string ⟨fa.toArray⟩] wc fun e w' => e = .returned (.int .i64 0) ∧ At w0 w' [] p hA1 := by
  refine (h.write (by decide +kernel) 0 ⟨fa.toArray⟩).mono ?_
  rintro e w' ⟨rfl, h1, _⟩
  rw [show (hA0.write 0 (⟨fa.toArray⟩ : ByteArray).data.toList).1 = 0 from w_hA1]
  exact ⟨rfl, h1⟩
theorem w_hA3 : (hA2.write 0 fb).1 = 0 := by decide +kernel
theorem c_hA3 {w0 wc : World} {p : Nat} (h : At w0 wc [] p hA2) : Calls Try.prog 22 #[.pointer (some ⟨p, 0, none⟩), .int .i64 0, .string ⟨fb.toArray⟩] wc fun e w' => e = .returned (.int .i64 0) ∧ At w0 w' [] p hA3 := by
  refine (h.write (by decide +kernel) 0 ⟨fb.toArray⟩).mono ?_
  rintro e w' ⟨rfl, h1, _⟩
  rw [show (hA2.write 0 (⟨fb.toArray⟩ : ByteArray).data.toList).1 = 0 from w_hA3]
  exact ⟨rfl, h1⟩
theorem w_hX1 : (hX0.write 0 fa).1 = 0 := by decide +kernel
theorem c_hX1 {w0 wc : World} {p : Nat} (h : At w0 wc [] p hX0) : Calls Try.prog 22 #[.pointer (some ⟨p, 0, none⟩), .int .i64 0, .string ⟨fa.toArray⟩] wc fun e w' => e = .returned (.int .i64 0) ∧ At w0 w' [] p hX1 := by
  refine (h.write (by decide +kernel) 0 ⟨fa.toArray⟩).mono ?_
  rintro e w' ⟨rfl, h1, _⟩
  rw [show (hX0.write 0 (⟨fa.toArray⟩ : ByteArray).data.toList).1 = 0 from w_hX1]
  exact ⟨rfl, h1⟩
theorem w_hK2 : (hK1.write 0 fa).1 = 0 := by decide +kernel
theorem c_hK2 {w0 wc : World} {p : Nat} (h : At w0 wc [] p hK1) : Calls Try.prog 22 #[.pointer (some ⟨p, 0, none⟩), .int .i64 0, .string ⟨fa.toArray⟩] wc fun e w' => e = .returned (.int .i64 0) ∧ At w0 w' [] p hK2 := by
  refine (h.write (by decide +kernel) 0 ⟨fa.toArray⟩).mono ?_
  rintro e w' ⟨rfl, h1, _⟩
  rw [show (hK1.write 0 (⟨fa.toArray⟩ : ByteArray).data.toList).1 = 0 from w_hK2]
  exact ⟨rfl, h1⟩
theorem w_hK3 : (hK2.write 0 fb).1 = 24 := by decide +kernel
theorem c_hK3 {w0 wc : World} {p : Nat} (h : At w0 wc [] p hK2) : Calls Try.prog 22 #[.pointer (some ⟨p, 0, none⟩), .int .i64 0, .string ⟨fb.toArray⟩] wc fun e w' => e = .returned (.int .i64 24) ∧ At w0 w' [] p hK3 := by
  refine (h.write (by decide +kernel) 0 ⟨fb.toArray⟩).mono ?_
  rintro e w' ⟨rfl, h1, _⟩
  rw [show (hK2.write 0 (⟨fb.toArray⟩ : ByteArray).data.toList).1 = 24 from w_hK3]
  exact ⟨rfl, h1⟩
theorem w_hA2 : hA1.sync.1 = 0 := by decide +kernel
theorem c_hA2 {w0 wc : World} {p : Nat} (h : At w0 wc [] p hA1) : Calls Try.prog 20 #[.pointer (some ⟨p, 0, none⟩)] wc fun e w' => e = .returned (.int .i64 0) ∧ At w0 w' [] p hA2 := by
  refine (h.sync (by decide +kernel)).mono ?_
  rintro e w' ⟨rfl, h1, _⟩
  rw [w_hA2]
  exact ⟨rfl, h1⟩
theorem w_hA5 : hA4.sync.1 = 24 := by decide +kernel
theorem c_hA5 {w0 wc : World} {p : Nat} (h : At w0 wc [] p hA4) : Calls Try.prog 20 #[.pointer (some ⟨p, 0, none⟩)] wc fun e w' => e = .returned (.int .i64 24) ∧ At w0 w' [] p hA5 := by
  refine (h.sync (by decide +kernel)).mono ?_
  rintro e w' ⟨rfl, h1, _⟩
  rw [w_hA5]
  exact ⟨rfl, h1⟩
theorem w_hX2 : hX1.sync.1 = 0 := by decide +kernel
theorem c_hX2 {w0 wc : World} {p : Nat} (h : At w0 wc [] p hX1) : Calls Try.prog 20 #[.pointer (some ⟨p, 0, none⟩)] wc fun e w' => e = .returned (.int .i64 0) ∧ At w0 w' [] p hX2 := by
  refine (h.sync (by decide +kernel)).mono ?_
  rintro e w' ⟨rfl, h1, _⟩
  rw [w_hX2]
  exact ⟨rfl, h1⟩
theorem r_hA30 : hA3.read 0 = (fb, 0) := by decide +kernel
theorem c_hA30 {w0 wc : World} {p : Nat} (h : At w0 wc [] p hA3) : Calls Try.prog 17 #[.pointer (some ⟨p, 0, none⟩), .int .i64 0] wc fun e w' => e = .returned (.tuple #[.string ⟨(fb : Bytes).toArray⟩, .int .i64 0]) ∧ At w0 w' [] p hA3 := by
  refine (h.read (by decide +kernel) 0).mono ?_
  rintro e w' ⟨rfl, h1, _⟩
  rw [r_hA30]
  exact ⟨rfl, h1⟩
theorem r_hA60 : hA6.read 0 = (sBB, 0) := by decide +kernel
theorem c_hA60 {w0 wc : World} {p : Nat} (h : At w0 wc [] p hA6) : Calls Try.prog 17 #[.pointer (some ⟨p, 0, none⟩), .int .i64 0] wc fun e w' => e = .returned (.tuple #[.string ⟨(sBB : Bytes).toArray⟩, .int .i64 0]) ∧ At w0 w' [] p hA6 := by
  refine (h.read (by decide +kernel) 0).mono ?_
  rintro e w' ⟨rfl, h1, _⟩
  rw [r_hA60]
  exact ⟨rfl, h1⟩
theorem r_hA61 : hA6.read 1 = (f0, 0) := by decide +kernel
theorem c_hA61 {w0 wc : World} {p : Nat} (h : At w0 wc [] p hA6) : Calls Try.prog 17 #[.pointer (some ⟨p, 0, none⟩), .int .i64 1] wc fun e w' => e = .returned (.tuple #[.string ⟨(f0 : Bytes).toArray⟩, .int .i64 0]) ∧ At w0 w' [] p hA6 := by
  refine (h.read (by decide +kernel) 1).mono ?_
  rintro e w' ⟨rfl, h1, _⟩
  rw [r_hA61]
  exact ⟨rfl, h1⟩
theorem r_hA62 : hA6.read 2 = ([], 1) := by decide +kernel
theorem c_hA62 {w0 wc : World} {p : Nat} (h : At w0 wc [] p hA6) : Calls Try.prog 17 #[.pointer (some ⟨p, 0, none⟩), .int .i64 2] wc fun e w' => e = .returned (.tuple #[.string ⟨([] : Bytes).toArray⟩, .int .i64 1]) ∧ At w0 w' [] p hA6 := by
  refine (h.read (by decide +kernel) 2).mono ?_
  rintro e w' ⟨rfl, h1, _⟩
  rw [r_hA62]
  exact ⟨rfl, h1⟩
theorem r_hX30 : hX3.read 0 = (sAB, 0) := by decide +kernel
theorem c_hX30 {w0 wc : World} {p : Nat} (h : At w0 wc [] p hX3) : Calls Try.prog 17 #[.pointer (some ⟨p, 0, none⟩), .int .i64 0] wc fun e w' => e = .returned (.tuple #[.string ⟨(sAB : Bytes).toArray⟩, .int .i64 0]) ∧ At w0 w' [] p hX3 := by
  refine (h.read (by decide +kernel) 0).mono ?_
  rintro e w' ⟨rfl, h1, _⟩
  rw [r_hX30]
  exact ⟨rfl, h1⟩
theorem r_hX40 : hX4.read 0 = (f0, 0) := by decide +kernel
theorem c_hX40 {w0 wc : World} {p : Nat} (h : At w0 wc [] p hX4) : Calls Try.prog 17 #[.pointer (some ⟨p, 0, none⟩), .int .i64 0] wc fun e w' => e = .returned (.tuple #[.string ⟨(f0 : Bytes).toArray⟩, .int .i64 0]) ∧ At w0 w' [] p hX4 := by
  refine (h.read (by decide +kernel) 0).mono ?_
  rintro e w' ⟨rfl, h1, _⟩
  rw [r_hX40]
  exact ⟨rfl, h1⟩
theorem r_hK40 : hK4.read 0 = (sBB, 0) := by decide +kernel
theorem c_hK40 {w0 wc : World} {p : Nat} (h : At w0 wc [] p hK4) : Calls Try.prog 17 #[.pointer (some ⟨p, 0, none⟩), .int .i64 0] wc fun e w' => e = .returned (.tuple #[.string ⟨(sBB : Bytes).toArray⟩, .int .i64 0]) ∧ At w0 w' [] p hK4 := by
  refine (h.read (by decide +kernel) 0).mono ?_
  rintro e w' ⟨rfl, h1, _⟩
  rw [r_hK40]
  exact ⟨rfl, h1⟩
theorem w_short : (hA6.write 1 [115, 104, 111, 114, 116]) = (1, hA6) := by rfl
theorem c_short {w0 wc : World} {p : Nat} (h : At w0 wc [] p hA6) : Calls Try.prog 22 #[.pointer (some ⟨p, 0, none⟩), .int .i64 1, .string ⟨#[115, 104, 111, 114, 116]⟩] wc fun e w' => e = .returned (.int .i64 1) ∧ At w0 w' [] p hA6 := by
  refine (h.write (by decide +kernel) 1 ⟨#[115, 104, 111, 114, 116]⟩).mono ?_
  rintro e w' ⟨rfl, h1, _⟩
  rw [show (hA6.write 1 (⟨#[115, 104, 111, 114, 116]⟩ : ByteArray).data.toList) = (1, hA6) from w_short] at h1 ⊢
  exact ⟨rfl, h1⟩
end Go.Proofs.Ytnlgblcldbdnlaa
