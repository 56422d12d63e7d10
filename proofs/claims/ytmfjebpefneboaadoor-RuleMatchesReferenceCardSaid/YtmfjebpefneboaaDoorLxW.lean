/-
  Small things on texts, tokens and digits.
-/
import Derived.Test.YtmfjebpefneboaaDoorLxJ
import Derived.Test.YtmfjebpefneboaaDoorLxQ
import Derived.Lib.ItoaLen
import Derived.Laws.Bits64
import Derived.Laws.Bits64b
import Derived.Laws.BitsAllLaws
import Derived.Lib.AppendStr
import Derived.Laws.DeepStrings4
namespace Go.Proofs.YtmfjebpefneboaaDoor
set_option linter.unusedVariables false
set_option linter.unusedSimpArgs false
open Go Go.RowKit Go.Shelf

/-- Reading a token out of a list. -/
theorem TokS.get {w : World} {ao : Option Addr} {m cap : Nat} {l : List Lx.Tk} (h : TokS w (.slice ao m cap) l) {k : Nat} {t : Lx.Tk} (ht : l[k]? = some t) : ∃ g off, ao = some ⟨g, off, none⟩ ∧
    w.cell? ⟨g, off + k * 4, none⟩ = some (.int .i64 t.kind) ∧ w.cell? ⟨g, off + k * 4 + 1, none⟩ = some (.string ⟨t.text.toArray⟩) ∧ w.cell? ⟨g, off + k * 4 + 2, none⟩ = some (.int .i64 t.n) ∧ w.cell? ⟨g, off + k * 4 + 3, none⟩ = some (.int .i64 t.at_) := by
  obtain ⟨ao', cap', he, _, h3⟩ := h
  cases he
  rw [Nat.mul_comm k 4]
  exact h3 k t ht
theorem TokS.form {w : World} {v : Value} {l : List Lx.Tk} (h : TokS w v l) : ∃ ao cap, v = .slice ao l.length cap ∧ l.length ≤ cap := by
  obtain ⟨ao, cap, h1, h2, _⟩ := h
  exact ⟨ao, cap, h1, h2⟩
theorem sub_take (s : Bytes) (i : Nat) : (⟨s.toArray⟩ : ByteArray).extract 0 i = ⟨(s.take i).toArray⟩ := by
  rw [ByteArray.extract_mk]
  simp
theorem sub_drop (s : Bytes) (i : Nat) : (⟨s.toArray⟩ : ByteArray).extract i s.length = ⟨(s.drop i).toArray⟩ := by
  rw [ByteArray.extract_mk]
  simp [List.take_of_length_le]
theorem size_of (s : Bytes) : (⟨s.toArray⟩ : ByteArray).size = s.length := by show s.toArray.size = _; simp
theorem dec_go (n : Nat) (h : ¬ n < 10) : Lib.decDigits n = Lib.decDigits (n / 10) ++ [UInt8.ofNat (48 + n % 10)] := by rw [Lib.decDigits, dif_neg h]
theorem dig_str : ∀ d : Nat, d < 10 → (⟨#[48, 49, 50, 51, 52, 53, 54, 55, 56, 57]⟩ : ByteArray).extract d (d + 1) = ⟨[UInt8.ofNat (48 + d)].toArray⟩ := by decide
theorem join2 (a x : Bytes) : (⟨a.toArray⟩ : ByteArray) ++ ⟨x.toArray⟩ = ⟨(a ++ x).toArray⟩ := by
  apply ByteArray.ext
  apply Array.ext'
  simp
theorem dec_len (n : Nat) (hn : n ≤ 9223372036854775807) : (Lib.decDigits n).length ≤ 21 := by
  have := Lib.itoa_length_le (n : Int) (by omega) (by omega)
  rwa [Lib.itoa_nonneg] at this
namespace Lx
def tshift (d : Nat) (t : Tk) : Tk := { t with at_ := t.at_ + d }
theorem take_eq {α : Type} {a b : List α} {k : Nat} {x y : α} (h : a.take k = b.take k) (hx : a[k]? = some x) (hy : b[k]? = some y) (e : x = y) : a.take (k + 1) = b.take (k + 1) := by
  rw [List.take_add_one, List.take_add_one, hx, hy, h, e]
theorem dig_cls : ∀ d, d < 10 → cls (UInt8.ofNat (48 + d)) = 4 ∧ (UInt8.ofNat (48 + d)).toNat - 48 = d ∧ UInt8.ofNat (48 + d) ≠ 61 := by decide +kernel
theorem dec_facts : ∀ (d n : Nat), 0 < d → n < 10 ^ d → Lib.decDigits n ≠ [] ∧ (Lib.decDigits n).length ≤ d ∧ (∀ c ∈ Lib.decDigits n, cls c = 4 ∧ c ≠ 61) ∧ num (Lib.decDigits n) = n
  | 0, n, h, _ => absurd h (by omega)
  | d + 1, n, _, h => by
    by_cases h10 : n < 10
    · have hd := dig_cls n h10
      rw [Lib.decDigits_one h10]
      refine ⟨by simp, by simp, ?_, ?_⟩
      · intro c hc
        rw [List.mem_singleton.1 hc]
        exact ⟨hd.1, hd.2.2⟩
      · show 10 * 0 + ((UInt8.ofNat (48 + n)).toNat - 48) = n
        rw [hd.2.1]
        omega
    · have hd0 : 0 < d := by
        rcases Nat.eq_zero_or_pos d with h0 | h0
        · subst h0
          simp at h
          omega
        · exact h0
      have ih := dec_facts d (n / 10) hd0 (by rw [Nat.pow_succ] at h; omega)
      have hd := dig_cls (n % 10) (Nat.mod_lt _ (by decide))
      rw [dec_go n h10]
      refine ⟨by simp, by rw [List.length_append]; have := ih.2.1; simp; omega, ?_, ?_⟩
      · intro c hc
        rcases List.mem_append.1 hc with h1 | h1
        · exact ih.2.2.1 c h1
        · rw [List.mem_singleton.1 h1]
          exact ⟨hd.1, hd.2.2⟩
      · have h4 := ih.2.2.2
        unfold num at h4 ⊢
        rw [List.foldl_append, h4]
        show 10 * (n / 10) + ((UInt8.ofNat (48 + n % 10)).toNat - 48) = n
        rw [hd.2.1]
        omega
theorem wl_every (p : UInt8 → Bool) : ∀ s : Bytes, (∀ c ∈ s, p c = true) → wl p s = s.length
  | [], _ => rfl
  | c :: s, h => by
    rw [wl, if_pos (h c (by simp)), wl_every p s (fun d hd => h d (by simp [hd]))]
    rfl
end Lx
end Go.Proofs.YtmfjebpefneboaaDoor
