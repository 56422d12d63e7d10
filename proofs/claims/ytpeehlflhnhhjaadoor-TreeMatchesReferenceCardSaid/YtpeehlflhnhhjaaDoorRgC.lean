/-
  The reference of the digest (layer 2): blocks of eight bytes, plain.
-/
import Derived.Test.YtpeehlflhnhhjaaDoorRgB
namespace Go.Proofs.YtpeehlflhnhhjaaDoor
set_option linter.unusedVariables false
set_option linter.unusedSimpArgs false
open Go Go.RowKit

namespace Dg
/-- The stream of bytes: the text, a one, zeros. -/
def cs (l : Bytes) (j : Nat) : Nat := if j < l.length then (l.getD j 0).toNat else if j = l.length then 1 else 0
theorem cs_lt (l : Bytes) (j : Nat) : cs l j < 256 := by
  unfold cs
  split
  · exact UInt8.toNat_lt _
  · split <;> omega
/-- The value of the bytes from place k of a block on. -/
def V (l : Bytes) (fr : Nat) : Nat → Nat
  | 0 => 0
  | k + 1 => V l fr k * 256 + cs l (fr + (7 - k))
theorem V_lt (l : Bytes) (fr : Nat) : ∀ k, V l fr k < 256 ^ k
  | 0 => by simp [V]
  | k + 1 => by
    have h := V_lt l fr k
    have h2 := cs_lt l (fr + (7 - k))
    rw [V, Nat.pow_succ]
    omega
/-- The value of the first k bytes of a block. -/
def Pv (l : Bytes) (fr : Nat) : Nat → Nat
  | 0 => 0
  | k + 1 => Pv l fr k + cs l (fr + k) * 256 ^ k
theorem Pv_lt (l : Bytes) (fr : Nat) : ∀ k, Pv l fr k < 256 ^ k
  | 0 => by simp [Pv]
  | k + 1 => by
    have h := Pv_lt l fr k
    have h2 := cs_lt l (fr + k)
    have h3 : cs l (fr + k) * 256 ^ k ≤ 255 * 256 ^ k := Nat.mul_le_mul_right _ (by omega)
    rw [Pv, Nat.pow_succ]
    omega
theorem P_V (l : Bytes) (fr b : Nat) : ∀ a, a + b = 8 → Pv l fr a + V l fr b * 256 ^ a = Pv l fr 8 := by
  induction b with
  | zero =>
    intro a h
    obtain rfl : a = 8 := by omega
    rw [V, Nat.zero_mul, Nat.add_zero]
  | succ b ih =>
    intro a h
    have h1 := ih (a + 1) (by omega)
    rw [Pv, Nat.pow_succ] at h1
    rw [V, show fr + (7 - b) = fr + a by omega, Nat.add_mul, ← h1, Nat.mul_assoc, Nat.mul_comm 256]
    omega
theorem V_P (l : Bytes) (fr : Nat) : V l fr 8 = Pv l fr 8 := by
  have h := P_V l fr 8 0 rfl
  rw [Pv, Nat.pow_zero, Nat.mul_one, Nat.zero_add] at h
  exact h
/-- The state behind j blocks. -/
def st (l : Bytes) : Nat → Nat
  | 0 => 7046029254386353131
  | j + 1 => mx (st l j ^^^ V l (8 * j) 8)
theorem st_lt (l : Bytes) : ∀ j, st l j < 18446744073709551616
  | 0 => by rw [st]; decide
  | j + 1 => mx_lt _
def feedTo (l : Bytes) : Nat → St
  | 0 => start
  | j + 1 => (feedTo l j).add (UInt8.ofNat (cs l j))
theorem or_add (b c n : Nat) (hb : b < 2 ^ n) : b ||| c * 2 ^ n = b + c * 2 ^ n := by
  rw [Nat.or_comm, Nat.mul_comm, ← Nat.two_pow_add_eq_or_of_lt hb, Nat.add_comm]
theorem pow_256 (k : Nat) : (256 : Nat) ^ k = 2 ^ (8 * k) := by rw [Nat.pow_mul]
theorem feedTo_blocks (l : Bytes) : ∀ j k : Nat, k < 8 → feedTo l (8 * j + k) = ⟨st l j, Pv l (8 * j) k, k⟩ := by
  have step : ∀ j k : Nat, k < 7 → feedTo l (8 * j + k) = ⟨st l j, Pv l (8 * j) k, k⟩ → feedTo l (8 * j + (k + 1)) = ⟨st l j, Pv l (8 * j) (k + 1), k + 1⟩ := by
    intro j k hk h
    rw [show 8 * j + (k + 1) = (8 * j + k) + 1 by omega, feedTo, h]
    unfold St.add
    simp only
    rw [if_neg (by omega), UInt8.toNat_ofNat_of_lt' (by have := cs_lt l (8 * j + k); exact this), or_add _ _ _ (by rw [← pow_256]; exact Pv_lt l (8 * j) k), ← pow_256]
    rfl
  have all : ∀ j, feedTo l (8 * j) = ⟨st l j, 0, 0⟩ → ∀ k, k < 8 → feedTo l (8 * j + k) = ⟨st l j, Pv l (8 * j) k, k⟩ := by
    intro j h k
    induction k with
    | zero => intro _; exact h
    | succ k ih => intro hk; exact step j k (by omega) (ih (by omega))
  have base : ∀ j, feedTo l (8 * j) = ⟨st l j, 0, 0⟩ := by
    intro j
    induction j with
    | zero => rfl
    | succ j ih =>
      have h7 := all j ih 7 (by omega)
      rw [show 8 * (j + 1) = (8 * j + 7) + 1 by omega, feedTo, h7]
      unfold St.add
      simp only
      rw [if_pos trivial, UInt8.toNat_ofNat_of_lt' (by have := cs_lt l (8 * j + 7); exact this), or_add _ _ _ (by rw [← pow_256]; exact Pv_lt l (8 * j) 7), ← pow_256, take_mx, st, V_P]
      rfl
  exact fun j => all j (base j)
theorem feedTo_feed (l : Bytes) : ∀ j, j ≤ l.length → feedTo l j = feed (l.take j)
  | 0, _ => by simp [feedTo, feed]
  | j + 1, h => by
    rw [feedTo, feedTo_feed l j (by omega)]
    have hx : l[j]? = some (l[j]'(by omega)) := List.getElem?_eq_getElem _
    rw [feed_snoc l j _ hx]
    congr 1
    unfold cs
    rw [if_pos (by omega), List.getD_eq_getElem?_getD, hx]
    simp
theorem pad_feedTo (l : Bytes) : ∀ k j : Nat, l.length < j → j ≤ 8 * (l.length / 8 + 1) → 8 * (l.length / 8 + 1) ≤ j + k → pad k (feedTo l j) = feedTo l (8 * (l.length / 8 + 1))
  | 0, j, h1, h2, h3 => by rw [show j = 8 * (l.length / 8 + 1) by omega]; rfl
  | k + 1, j, h1, h2, h3 => by
    have hb := feedTo_blocks l (j / 8) (j % 8) (by omega)
    rw [show 8 * (j / 8) + j % 8 = j by omega] at hb
    show (if (feedTo l j).n = 0 then feedTo l j else pad k ((feedTo l j).add 0)) = _
    by_cases h : j % 8 = 0
    · rw [if_pos (by rw [hb]; exact h), show j = 8 * (l.length / 8 + 1) by omega]
    · rw [if_neg (by rw [hb]; exact h)]
      have hs : (feedTo l j).add 0 = feedTo l (j + 1) := by
        rw [feedTo]
        congr 1
        unfold cs
        rw [if_neg (by omega), if_neg (by omega)]
        rfl
      rw [hs]
      exact pad_feedTo l k (j + 1) (by omega) (by omega) (by omega)
theorem sum_st (l : Bytes) : sum l = text (st l (l.length / 8 + 1)) := by
  unfold sum
  have h1 : (feed l).add 1 = feedTo l (l.length + 1) := by
    rw [feedTo, feedTo_feed l l.length (Nat.le_refl _), List.take_length]
    congr 1
    unfold cs
    rw [if_neg (by omega), if_pos rfl]
    rfl
  rw [h1, pad_feedTo l 8 (l.length + 1) (by omega) (by omega) (by omega), show 8 * (l.length / 8 + 1) = 8 * (l.length / 8 + 1) + 0 by omega, feedTo_blocks l _ 0 (by decide)]
theorem and15 (a : Nat) : a &&& 15 = a % 16 := Nat.and_two_pow_sub_one_eq_mod a 4
theorem text_drop (S i : Nat) (h : i < 16) : (text S).drop (16 - (i + 1)) = hexd ((S / 16 ^ i) % 16) :: (text S).drop (16 - i) := by
  have hl : (text S).length = 16 := by unfold text; simp
  rw [List.drop_eq_getElem_cons (by rw [hl]; omega), show 16 - (i + 1) + 1 = 16 - i by omega]
  congr 1
  unfold text
  simp only [List.getElem_map, List.getElem_range]
  unfold dig
  rw [and15, show 60 - 4 * (16 - (i + 1)) = 4 * i by omega, Nat.pow_mul]
end Dg
end Go.Proofs.YtpeehlflhnhhjaaDoor
