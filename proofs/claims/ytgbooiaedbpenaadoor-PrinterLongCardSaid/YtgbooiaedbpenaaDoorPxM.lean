/-
 Layer 16: the reference's small functions: letter, digit, word, has, gap, Gaps.
-/
import Derived.Test.YtgbooiaedbpenaaDoorPxC
import Derived.Test.YtgbooiaedbpenaaDoorLxL
namespace Go.Proofs.YtgbooiaedbpenaaDoor
set_option linter.unusedVariables false
set_option linter.unusedSimpArgs false
open Go Go.RowKit Go.Shelf

namespace Lx
theorem dig_num (c : UInt8) : decide (cls c = 4) = decide (48 ≤ c.toNat ∧ c.toNat ≤ 57) :=
 eq_of_beq (all_u8 (fun c => decide (cls c = 4) == decide (48 ≤ c.toNat ∧ c.toNat ≤ 57)) (by decide +kernel) c)
theorem und_num (c : UInt8) : decide (cls c = 5) = decide (c.toNat = 95) :=
 eq_of_beq (all_u8 (fun c => decide (cls c = 5) == decide (c.toNat = 95)) (by decide +kernel) c)
theorem hash_num (c : UInt8) : decide (cls c = 2) = decide (c.toNat = 35) :=
 eq_of_beq (all_u8 (fun c => decide (cls c = 2) == decide (c.toNat = 35)) (by decide +kernel) c)
theorem blank_has (c : UInt8) : ([32, 9, 10] : Bytes).contains c = decide (cls c = 1) :=
 eq_of_beq (all_u8 (fun c => ([32, 9, 10] : Bytes).contains c == decide (cls c = 1)) (by decide +kernel) c)
theorem pre_has (c : UInt8) : ([33, 60, 62] : Bytes).contains c = decide (cls c = 7 ∨ cls c = 8) :=
 eq_of_beq (all_u8 (fun c => ([33, 60, 62] : Bytes).contains c == decide (cls c = 7 ∨ cls c = 8)) (by decide +kernel) c)
theorem sym_has (c : UInt8) : ([59, 44, 46, 58, 40, 41, 123, 125, 61, 60, 62, 43, 45, 47] : Bytes).contains c = decide (cls c = 6 ∨ cls c = 7) :=
 eq_of_beq (all_u8 (fun c => ([59, 44, 46, 58, 40, 41, 123, 125, 61, 60, 62, 43, 45, 47] : Bytes).contains c == decide (cls c = 6 ∨ cls c = 7)) (by decide +kernel) c)
end Lx
attribute [local irreducible] Lx.cls
theorem letter_spec (w : World) (c : UInt8) : Calls Tryd.prog 67 #[.int .u8 (c.toNat : Int)] w fun e w' => e = .returned (.bool (decide (Lx.cls c = 3))) ∧ w' = w := by
 rw [Lx.let_num]
 obtain ⟨n, hn⟩ : ∃ n, n = c.toNat := ⟨_, rfl⟩
 rw [← hn]
 clear hn
 go_enter Tryd.func67, Tryd.ntmps67
 by_cases a1 : 97 ≤ n
 · have b1 : (97 : Int) ≤ (n : Int) := by omega
   by_cases a2 : n ≤ 122
   · have b2 : (n : Int) ≤ 122 := by omega
     go_wp2_with fail
     go_ret
     exact ⟨by simp [a1, a2], rfl⟩
   · have b2 : ¬ (n : Int) ≤ 122 := by omega
     have b3 : (65 : Int) ≤ (n : Int) := by omega
     have b4 : ¬ (n : Int) ≤ 90 := by omega
     go_wp2_with fail
     go_ret
     exact ⟨by simp [a1, a2]; omega, rfl⟩
 · have b1 : ¬ (97 : Int) ≤ (n : Int) := by omega
   by_cases a3 : 65 ≤ n
   · have b3 : (65 : Int) ≤ (n : Int) := by omega
     by_cases a4 : n ≤ 90
     · have b4 : (n : Int) ≤ 90 := by omega
       go_wp2_with fail
       go_ret
       exact ⟨by simp [a1, a3, a4], rfl⟩
     · have b4 : ¬ (n : Int) ≤ 90 := by omega
       go_wp2_with fail
       go_ret
       exact ⟨by simp [a1, a3, a4], rfl⟩
   · have b3 : ¬ (65 : Int) ≤ (n : Int) := by omega
     go_wp2_with fail
     go_ret
     exact ⟨by simp [a1, a3], rfl⟩
theorem digit_spec (w : World) (c : UInt8) : Calls Tryd.prog 81 #[.int .u8 (c.toNat : Int)] w fun e w' => e = .returned (.bool (decide (Lx.cls c = 4))) ∧ w' = w := by
 rw [Lx.dig_num]
 obtain ⟨n, hn⟩ : ∃ n, n = c.toNat := ⟨_, rfl⟩
 rw [← hn]
 clear hn
 go_enter Tryd.func81, Tryd.ntmps81
 by_cases a1 : 48 ≤ n
 · have b1 : (48 : Int) ≤ (n : Int) := by omega
   by_cases a2 : n ≤ 57
   · have b2 : (n : Int) ≤ 57 := by omega
     go_wp2_with fail
     go_ret
     exact ⟨by simp [a1, a2], rfl⟩
   · have b2 : ¬ (n : Int) ≤ 57 := by omega
     go_wp2_with fail
     go_ret
     exact ⟨by simp [a1, a2], rfl⟩
 · have b1 : ¬ (48 : Int) ≤ (n : Int) := by omega
   go_wp2_with fail
   go_ret
   exact ⟨by simp [a1], rfl⟩
theorem word_spec (w : World) (c : UInt8) : Calls Tryd.prog 66 #[.int .u8 (c.toNat : Int)] w fun e w' => e = .returned (.bool (Lx.word c)) ∧ w' = w := by
 have hu := Lx.und_num c
 go_enter Tryd.func66, Tryd.ntmps66
 go_wp2_with fail
 refine (letter_spec _ c).mono ?_
 rintro e w1 ⟨rfl, rfl⟩
 by_cases h3 : Lx.cls c = 3
 · rw [decide_eq_true h3]
   have hw : Lx.word c = true := by unfold Lx.word; simp [h3]
   have HW := Lib.hid hw
   clear hu h3 hw
   go_wp2_with fail
   go_ret
   exact ⟨by rw [HW.out]; rfl, rfl⟩
 · rw [decide_eq_false h3]
   go_wp2_with fail
   refine (digit_spec _ c).mono ?_
   rintro e w1 ⟨rfl, rfl⟩
   by_cases h4 : Lx.cls c = 4
   · rw [decide_eq_true h4]
     have hw : Lx.word c = true := by unfold Lx.word; simp [h4]
     have HW := Lib.hid hw
     clear hu h3 hw
     go_wp2_with fail
     go_ret
     exact ⟨by rw [HW.out]; rfl, rfl⟩
   · rw [decide_eq_false h4]
     by_cases h5 : Lx.cls c = 5
     · have hw : Lx.word c = true := by unfold Lx.word; simp [h5]
       have n95 : ((c.toNat : Int) == 95) = true := by
        rw [decide_eq_true h5] at hu
        have := of_decide_eq_true hu.symm
        rw [beq_iff_eq]; omega
       have HW := Lib.hid hw
       clear hu h3 h4 h5 hw
       go_wp2_with fail
       go_ret
       exact ⟨by rw [HW.out]; rfl, rfl⟩
     · have hw : Lx.word c = false := by unfold Lx.word; simp [h3, h4, h5]
       have n95 : ((c.toNat : Int) == 95) = false := by
        rw [decide_eq_false h5] at hu
        have := of_decide_eq_false hu.symm
        rw [beq_eq_false_iff_ne]; omega
       have HW := Lib.hid hw
       clear hu h3 h4 h5 hw
       go_wp2_with fail
       go_ret
       exact ⟨by rw [HW.out]; rfl, rfl⟩
theorem has_spec (w : World) (s : Bytes) (hs : s.length ≤ 1000000) (c : UInt8) (B : Bool) (HB : Hid (s.contains c = B)) : Calls Tryd.prog 82 #[.string ⟨s.toArray⟩, .int .u8 (c.toNat : Int)] w fun e w' => e = .returned (.bool B) ∧ w' = w := by
 obtain ⟨sb, hsb⟩ : ∃ sb : ByteArray, sb = ⟨s.toArray⟩ := ⟨_, rfl⟩
 have HSB := Lib.hid hsb
 have HSZ : Hid (sb.size = s.length) := Lib.hid (by rw [hsb]; show s.toArray.size = _; simp)
 rw [← hsb]
 clear hsb
 go_enter Tryd.func82, Tryd.ntmps82
 go_wp2_with fail
 go_loop [5] (fun i => ∃ k : Nat, i = .int .i64 (k : Int) ∧ k ≤ s.length ∧ Hid (s.contains c = (s.drop k).contains c)) (fun i => s.length - (intOf i).toNat)
 case atStart => exact ⟨0, rfl, Nat.zero_le _, Lib.hid rfl⟩
 case round =>
  obtain ⟨k, rfl, hk, hc⟩ := hrel
  by_cases hlt : k < s.length
  · have q1 : (k : Int) < (sb.size : Int) := by rw [HSZ.out]; omega
    have q0 : (0 : Int) ≤ (k : Int) := by omega
    have hkk : k < sb.size := by rw [HSZ.out]; exact hlt
    have hg := sb_get HSB hkk hlt
    have hd := List.drop_eq_getElem_cons hlt
    by_cases he : s[k] = c
    · have n1 : ((sb[k].toNat : Int) == (c.toNat : Int)) = true := by rw [hg, he]; exact beq_self_eq_true _
      have HF : Hid (B = true) := Lib.hid (by rw [← HB.out, hc.out, hd, he]; simp)
      clear hd hg he
      go_wp2_with fail
      go_ret
      exact ⟨by rw [HF.out]; rfl, rfl⟩
    · have n1 : ((sb[k].toNat : Int) == (c.toNat : Int)) = false := by
       rw [hg, beq_eq_false_iff_ne]
       intro h
       exact he (UInt8.toNat.inj (by omega))
      have HN : Hid (s.contains c = (s.drop (k + 1)).contains c) := Lib.hid (by
       rw [hc.out, hd, List.contains_cons]
       simp [Ne.symm he])
      clear hd hg he
      go_wp2_with fail
      go_round
      case rel => exact ⟨k + 1, vint (by omega), by omega, HN⟩
      case measure => simp [intOf]; omega
  · have q1 : ¬ (k : Int) < (sb.size : Int) := by rw [HSZ.out]; omega
    have HF : Hid (B = false) := Lib.hid (by rw [← HB.out, hc.out, List.drop_eq_nil_of_le (by omega)]; rfl)
    go_wp2_with fail
    go_ret
    exact ⟨by rw [HF.out]; rfl, rfl⟩
end Go.Proofs.YtgbooiaedbpenaaDoor
