/-
  Rule: digits (the law file's own).
-/
import Derived.Test.YtmfjebpefneboaaDoorLwRErr
namespace Go.Proofs.YtmfjebpefneboaaDoor
set_option linter.unusedVariables false
set_option linter.unusedSimpArgs false
open Go Go.RowKit Go.Shelf

theorem digits_spec07 (n : Nat) : ∀ (w : World), n ≤ 65535 →
    Calls Tryd.prog 19 #[.int .i64 (n : Int)] w fun e w' => e = .returned (.string ⟨(Lib.decDigits n).toArray⟩) ∧ w' = w := by
  induction n using Nat.strongRecOn with
  | ind n ih =>
    intro w hn
    have hn0 : (0 : Int) ≤ (n : Int) := by omega
    have IH := Lib.hid ih
    clear ih
    by_cases h : n < 10
    · have q1 : (n : Int) < 10 := by omega
      have q2 : (n : Int) + 1 ≤ 10 := by omega
      have q3 : (n : Int) ≤ (n : Int) + 1 := by omega
      have q4 : (0 : Int) ≤ (n : Int) + 1 := by omega
      have q5 : ((n : Int) + 1).toNat = n + 1 := by omega
      have HD := Lib.hid (dig_str n h)
      have HE : Hid (Lib.decDigits n = [UInt8.ofNat (48 + n)]) := Lib.hid (Lib.decDigits_one h)
      go_enter Tryd.func19, Tryd.ntmps19
      go_wp2_with fail
      go_ret
      refine ⟨?_, rfl⟩
      rw [HE.out, ← HD.out]
      rfl
    · have q1 : ¬ (n : Int) < 10 := by omega
      have d1 : (n : Int).tdiv 10 = ((n / 10 : Nat) : Int) := by rw [Int.tdiv_eq_ediv_of_nonneg (by omega)]; omega
      have d2 : (n : Int).tmod 10 = ((n % 10 : Nat) : Int) := by rw [Int.tmod_eq_emod_of_nonneg (by omega)]; omega
      have HE : Hid (Lib.decDigits n = Lib.decDigits (n / 10) ++ Lib.decDigits (n % 10)) := Lib.hid (by
        rw [dec_go n h, Lib.decDigits_one (i := n % 10) (Nat.mod_lt _ (by decide))])
      have h1 := dec_len (n / 10) (by omega)
      have h2 := dec_len (n % 10) (by omega)
      obtain ⟨a, ha⟩ : ∃ a, a = n / 10 := ⟨_, rfl⟩
      obtain ⟨b, hb⟩ : ∃ b, b = n % 10 := ⟨_, rfl⟩
      have ha1 : a < n := by omega
      have hb1 : b < n := by omega
      rw [← ha] at d1 HE h1
      rw [← hb] at d2 HE h2
      clear ha hb
      go_enter Tryd.func19, Tryd.ntmps19
      go_wp2_with fail
      refine (IH.out a ha1 _ (by omega)).mono ?_
      rintro e w1 ⟨rfl, rfl⟩
      go_wp2_with fail
      refine (IH.out b hb1 _ (by omega)).mono ?_
      rintro e w2 ⟨rfl, rfl⟩
      have n1 : ¬ 9223372036854775807 < (Lib.decDigits a).length + (Lib.decDigits b).length := by omega
      go_wp2_with fail
      go_ret
      refine ⟨?_, rfl⟩
      rw [HE.out, ← join2]
      rfl
end Go.Proofs.YtmfjebpefneboaaDoor
