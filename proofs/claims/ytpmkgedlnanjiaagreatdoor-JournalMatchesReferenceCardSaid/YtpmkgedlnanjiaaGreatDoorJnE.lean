/-
  Journal, plain laws: heads and pieces by what the library reads.
-/
import Derived.Test.YtpmkgedlnanjiaaGreatDoorJnC
import Derived.Test.YtpmkgedlnanjiaaGreatDoorJnD
namespace Go.Proofs.YtpmkgedlnanjiaaGreatDoor
set_option linter.unusedVariables false
set_option linter.unusedSimpArgs false
open Go
namespace Jn
theorem head_dig {sm : Bytes → Bytes} (hs : ∀ s, (sm s).length = 16) (p : Nat) {n : Nat} (hn : n < 100000000) : ((head sm p n).drop 16).take 8 = dgt n 8 := by
  have l1 : (dgt n 8).length = 8 := dgt_len (w := 7) hn
  have h := fit_take (a := dgt n 8) (b := []) (by omega)
  rw [List.append_nil, l1] at h
  rw [show head sm p n = sealed sm p (dgt n 8) from rfl, sealed_drop hs, h]
theorem cnt_lib {sm : Bytes → Bytes} (hs : ∀ s, (sm s).length = 16) {p room : Nat} (hr : room < 100000000) {s : Bytes} (hz : s ≠ zero) :
    cnt sm p s room = (match Lib.atoiAll ((s.drop 16).take 8) with | .ok v => if 0 ≤ v ∧ v ≤ (room : Int) ∧ head sm p v.toNat = s then some v.toNat else none | _ => none) := by
  cases h : cnt sm p s room with
  | some n =>
    obtain ⟨h1, h2 | h2⟩ := cnt_some h
    · rw [h2, head_dig hs p (by omega), atoi_dgt (by omega)]
      show _ = if 0 ≤ (n : Int) ∧ (n : Int) ≤ (room : Int) ∧ head sm p (n : Int).toNat = head sm p n then some (n : Int).toNat else none
      rw [if_pos ⟨by omega, by omega, by rw [Int.toNat_natCast]⟩, Int.toNat_natCast]
    · exact absurd h2.2 hz
  | none =>
    cases hv : Lib.atoiAll ((s.drop 16).take 8) using num_cases with
    | bad => rfl
    | range => rfl
    | ok v =>
      simp only
      by_cases hc : 0 ≤ v ∧ v ≤ (room : Int) ∧ head sm p v.toNat = s
      · exfalso
        have h2 := cnt_head hs (p := p) (n := v.toNat) (room := room) (by omega) hr
        rw [hc.2.2, h] at h2
        cases h2
      · rw [if_neg hc]
theorem sector_dig {sm : Bytes → Bytes} (hs : ∀ s, (sm s).length = 16) (p : Nat) {x : Bytes} (h : x.length ≤ 46) : ((sector sm p x).drop 16).take 2 = dgt x.length 2 := by
  have l2 := sector_len2 h
  have h1 := fit_take (a := dgt x.length 2) (b := x) (by omega)
  rw [l2] at h1
  rw [show sector sm p x = sealed sm p (dgt x.length 2 ++ x) from rfl, sealed_drop hs, h1]
/-- The piece of a sector, by what the library reads. -/
theorem piece_lib {sm : Bytes → Bytes} (hs : ∀ s, (sm s).length = 16) {p : Nat} {s : Bytes} :
    piece sm p s = (match Lib.atoiAll ((s.drop 16).take 2) with | .ok v => if 1 ≤ v ∧ v ≤ 46 ∧ sector sm p ((s.drop 18).take v.toNat) = s then some ((s.drop 18).take v.toNat) else none | _ => none) := by
  cases h : piece sm p s with
  | some x =>
    obtain ⟨h1, h2, h3⟩ := piece_some hs h
    have h4 : (s.drop 18).take x.length = x := by
      rw [h1, sector_drop hs h3, List.take_append_of_le_length (Nat.le_refl _), List.take_length]
    have h5 : (s.drop 16).take 2 = dgt x.length 2 := by rw [h1]; exact sector_dig hs p h3
    rw [h5, atoi_dgt (by omega)]
    show _ = if 1 ≤ (x.length : Int) ∧ (x.length : Int) ≤ 46 ∧ sector sm p ((s.drop 18).take (x.length : Int).toNat) = s then some ((s.drop 18).take (x.length : Int).toNat) else none
    rw [Int.toNat_natCast, h4, if_pos ⟨by omega, by omega, h1.symm⟩]
  | none =>
    cases hv : Lib.atoiAll ((s.drop 16).take 2) using num_cases with
    | bad => rfl
    | range => rfl
    | ok v =>
      simp only
      by_cases hc : 1 ≤ v ∧ v ≤ 46 ∧ sector sm p ((s.drop 18).take v.toNat) = s
      · exfalso
        have hl : s.length = 64 := by rw [← hc.2.2]; exact sealed_len hs _ _
        have h2 := piece_sector hs (p := p) (x := (s.drop 18).take v.toNat) (by rw [List.length_take, List.length_drop]; omega) (by rw [List.length_take, List.length_drop]; omega)
        rw [hc.2.2, h] at h2
        cases h2
      · rw [if_neg hc]
end Jn
end Go.Proofs.YtpmkgedlnanjiaaGreatDoor
