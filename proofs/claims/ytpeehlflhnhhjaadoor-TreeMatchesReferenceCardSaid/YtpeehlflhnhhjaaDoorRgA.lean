/-
  The reference of the digest (layer 2): mixing, and decimal digits.
-/
import Derived.Test.YtpeehlflhnhhjaaDoorLwDiffers
namespace Go.Proofs.YtpeehlflhnhhjaaDoor
set_option linter.unusedVariables false
set_option linter.unusedSimpArgs false
open Go Go.RowKit Go.Shelf

namespace Dg
def mx (x : Nat) : Nat :=
  let y := mix (mix x 4294967296 11400714819323198485) 536870912 13787848793156543929
  y ^^^ (y / 4294967296)
theorem take_mx (s b : Nat) : take s b = mx (s ^^^ b) := rfl
theorem mx_lt (x : Nat) : mx x < 18446744073709551616 := xor_lt (mix_lt _ _ _) (half_lt _ (mix_lt _ _ _))
end Dg
theorem mix_spec (w : World) (x0 : Nat) (hx0 : x0 < 18446744073709551616) :
    Calls Tryd.prog 44 #[.int .u64 (x0 : Int)] w fun e w' => e = .returned (.int .u64 (Dg.mx x0 : Nat)) ∧ w = w' := by
  obtain ⟨T, hT⟩ : ∃ T, T = Dg.mx x0 := ⟨_, rfl⟩
  have HT := Lib.hid hT
  rw [← hT]
  unfold Dg.mx at hT
  have e0 := xor_shr32 x0 hx0
  obtain ⟨x1, hx1⟩ : ∃ x1, x1 = x0 ^^^ (x0 / 4294967296) := ⟨_, rfl⟩
  rw [← hx1] at e0
  have hl1 : x1 < 18446744073709551616 := by rw [hx1]; exact Dg.xor_lt hx0 (Dg.half_lt _ hx0)
  obtain ⟨x2, hx2⟩ : ∃ x2, x2 = x1 * 11400714819323198485 % 18446744073709551616 := ⟨_, rfl⟩
  have hl2 : x2 < 18446744073709551616 := by rw [hx2]; exact Nat.mod_lt _ (by decide)
  have e1 : IntKind.u64.wrap ((x1 : Int) * 11400714819323198485) = (x2 : Int) := by
    rw [hx2]; show ((x1 : Int) * 11400714819323198485) % 18446744073709551616 = _; omega
  have e2 := xor_shr29 x2 hl2
  obtain ⟨x3, hx3⟩ : ∃ x3, x3 = x2 ^^^ (x2 / 536870912) := ⟨_, rfl⟩
  rw [← hx3] at e2
  have hl3 : x3 < 18446744073709551616 := by rw [hx3]; exact Dg.xor_lt hl2 (Dg.half_lt _ hl2)
  obtain ⟨x4, hx4⟩ : ∃ x4, x4 = x3 * 13787848793156543929 % 18446744073709551616 := ⟨_, rfl⟩
  have hl4 : x4 < 18446744073709551616 := by rw [hx4]; exact Nat.mod_lt _ (by decide)
  have e3 : IntKind.u64.wrap ((x3 : Int) * 13787848793156543929) = (x4 : Int) := by
    rw [hx4]; show ((x3 : Int) * 13787848793156543929) % 18446744073709551616 = _; omega
  have e4 := xor_shr32 x4 hl4
  have hTT : T = x4 ^^^ (x4 / 4294967296) := by
    rw [hT, hx4, hx3, hx2, hx1]
    rfl
  rw [← hTT] at e4
  clear hT hx1 hx2 hx3 hx4 hTT hl1 hl2 hl3 hl4 hx0
  go_enter Tryd.func44, Tryd.ntmps44
  go_wp2_with fail
  go_ret
  exact ⟨rfl, rfl⟩
theorem dec_go (n : Nat) (h : ¬ n < 10) : Lib.decDigits n = Lib.decDigits (n / 10) ++ [UInt8.ofNat (48 + n % 10)] := by rw [Lib.decDigits, dif_neg h]
theorem dig_str : ∀ d : Nat, d < 10 → (⟨#[48, 49, 50, 51, 52, 53, 54, 55, 56, 57]⟩ : ByteArray).extract d (d + 1) = ⟨[UInt8.ofNat (48 + d)].toArray⟩ := by decide
theorem join2 (a x : Bytes) : (⟨a.toArray⟩ : ByteArray) ++ ⟨x.toArray⟩ = ⟨(a ++ x).toArray⟩ := by
  apply ByteArray.ext
  apply Array.ext'
  simp
theorem dec_len (n : Nat) (hn : n ≤ 9223372036854775807) : (Lib.decDigits n).length ≤ 21 := by
  have := Lib.itoa_length_le (n : Int) (by omega) (by omega)
  rwa [Lib.itoa_nonneg] at this
theorem digits_spec (w : World) (n : Nat) (hn : n ≤ 9223372036854775807) :
    Calls Tryd.prog 49 #[.int .u64 (n : Int)] w fun e w' => e = .returned (.string ⟨(Lib.decDigits n).toArray⟩) ∧ w = w' := by
  have hd := dig_str (n % 10) (Nat.mod_lt _ (by decide))
  have hn0 : (0 : Int) ≤ (n : Int) := by omega
  have HLEN := Lib.hid (dec_len n hn)
  go_enter Tryd.func49, Tryd.ntmps49
  go_wp2_with fail
  have HD := Lib.hid hd
  clear hd
  go_loop [0, 3] (fun a b => ∃ (r : Nat) (tl : Bytes), a = .int .u64 (r : Int) ∧ b = .string ⟨tl.toArray⟩ ∧ r ≤ 9223372036854775807 ∧ Lib.decDigits n = (if r = 0 then [] else Lib.decDigits r) ++ tl) (fun a _ => (intOf a).toNat)
  case atStart =>
    refine ⟨n / 10, _, by simp, by rw [HD.out], by omega, ?_⟩
    by_cases h : n < 10
    · rw [if_pos (by omega), Lib.decDigits_one h, show n % 10 = n by omega]
      rfl
    · rw [if_neg (by omega)]
      exact dec_go n h
  case round =>
    obtain ⟨r, tl, rfl, rfl, hr, hrel⟩ := hrel
    have HR := Lib.hid hrel
    have htl : tl.length ≤ 21 := by
      have := HLEN.out
      rw [hrel, List.length_append] at this
      omega
    clear hrel
    have hr0 : (0 : Int) ≤ (r : Int) := by omega
    by_cases h0 : 0 < r
    · have hd2 := dig_str (r % 10) (Nat.mod_lt _ (by decide))
      have hsz : ¬ 9223372036854775807 < 1 + tl.length := by omega
      go_wp2_with fail
      go_round
      case rel =>
        refine ⟨r / 10, [UInt8.ofNat (48 + r % 10)] ++ tl, by simp, by rw [← join2]; simp, by omega, ?_⟩
        rw [HR.out, if_neg (by omega), ← List.append_assoc]
        congr 1
        by_cases h : r < 10
        · rw [if_pos (by omega), Lib.decDigits_one h, show r % 10 = r by omega]
          rfl
        · rw [if_neg (by omega)]
          exact dec_go r h
      case measure => simp [intOf]; omega
    · have hr00 : r = 0 := by omega
      rw [if_pos hr00, List.nil_append] at HR
      clear hr00
      go_wp2_with fail
      go_ret
      exact ⟨by rw [HR.out]; rfl, rfl⟩
theorem decimal_spec (w : World) (n : Nat) (hn : n ≤ 9223372036854775807) :
    Calls Tryd.prog 45 #[.int .i64 (n : Int)] w fun e w' => e = .returned (.string ⟨(Lib.itoa (n : Int)).toArray⟩) ∧ w = w' := by
  have hn0 : (0 : Int) ≤ (n : Int) := by omega
  rw [Lib.itoa_nonneg]
  go_enter Tryd.func45, Tryd.ntmps45
  go_wp2_with fail
  refine (digits_spec _ n hn).mono ?_
  rintro e w2 ⟨rfl, rfl⟩
  go_wp2_with fail
  go_ret
  exact ⟨rfl, rfl⟩
end Go.Proofs.YtpeehlflhnhhjaaDoor
