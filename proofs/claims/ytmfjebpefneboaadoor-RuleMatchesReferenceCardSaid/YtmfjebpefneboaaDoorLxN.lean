/-
  Layer 17: the reference's gap and Gaps.
-/
import Derived.Test.YtmfjebpefneboaaDoorLxM
namespace Go.Proofs.YtmfjebpefneboaaDoor
set_option linter.unusedVariables false
set_option linter.unusedSimpArgs false
open Go Go.RowKit Go.Shelf
namespace Lx
/-- From a place on there is a token, or nothing. -/
def atTok (s : Bytes) (j : Nat) : Prop := ∀ h : j < s.length, cls s[j] ≠ 1 ∧ cls s[j] ≠ 2
theorem sc_next1 {s : Bytes} {k : Nat} (h : k < s.length) (hc : cls s[k] = 1) (o : Nat) : sc (o + k) (s.drop k) = sc (o + (k + 1)) (s.drop (k + 1)) := by
  rw [List.drop_eq_getElem_cons h, sc_blank hc, Nat.add_assoc]
theorem sc_next2 {s : Bytes} {k j m : Nat} (h : k < s.length) (hc : cls s[k] = 2) (hw : wl line (s.drop k) = j) (hm : m = k + j) (o : Nat) : sc (o + k) (s.drop k) = sc (o + m) (s.drop m) := by
  have h1 := sc_hash (o := o + k) (r := s.drop (k + 1)) hc
  rw [← List.drop_eq_getElem_cons h, hw, List.drop_drop, Nat.add_assoc, ← hm] at h1
  exact h1
theorem sc_some {o : Nat} {c : UInt8} {r : Bytes} (h1 : cls c ≠ 1) (h2 : cls c ≠ 2) : sc o (c :: r) ≠ [] := by
  by_cases h3 : (tok (c :: r)).2.2 = 0
  · rw [sc_tok h1 h2 h3]; simp
  · rw [sc_err h1 h2 h3]; simp
end Lx
attribute [local irreducible] Lx.tab Lx.tab0 Lx.cls Lx.sc
set_option maxHeartbeats 1000000 in
theorem gap_spec (w : World) (s : Bytes) (hs : s.length ≤ 1000000) (i : Int) (i0 : Nat) (hi : i = (i0 : Int)) (hi0 : i0 ≤ s.length) : Calls Tryd.prog 28 #[.string ⟨s.toArray⟩, .int .i64 i] w fun e w' => (∃ j : Nat, e = .returned (.int .i64 (j : Int)) ∧ i0 ≤ j ∧ j ≤ s.length ∧ Lx.atTok s j ∧ ∀ o, Lx.sc (o + i0) (s.drop i0) = Lx.sc (o + j) (s.drop j)) ∧ w' = w := by
  subst hi
  obtain ⟨sb, hsb⟩ : ∃ sb : ByteArray, sb = ⟨s.toArray⟩ := ⟨_, rfl⟩
  have HSB := Lib.hid hsb
  have HSZ : Hid (sb.size = s.length) := Lib.hid (by rw [hsb]; show s.toArray.size = _; simp)
  rw [← hsb]
  clear hsb
  go_enter Tryd.func28, Tryd.ntmps28
  go_wp2_with fail
  go_loop [1] (fun i => ∃ k : Nat, i = .int .i64 (k : Int) ∧ i0 ≤ k ∧ k ≤ s.length ∧ Hid (∀ o, Lx.sc (o + i0) (s.drop i0) = Lx.sc (o + k) (s.drop k))) (fun i => s.length - (intOf i).toNat)
  case atStart => exact ⟨i0, rfl, Nat.le_refl _, hi0, Lib.hid fun o => rfl⟩
  case round =>
    obtain ⟨k, rfl, hik, hk, hc⟩ := hrel
    by_cases hlt : k < s.length
    · have q1 : (k : Int) < (sb.size : Int) := by rw [HSZ.out]; omega
      have q0 : (0 : Int) ≤ (k : Int) := by omega
      have hkk : k < sb.size := by rw [HSZ.out]; exact hlt
      have HGE := Lib.hid (sb_get HSB hkk hlt)
      have HLT := Lib.hid hlt
      go_wp2_with fail
      by_cases h1 : Lx.cls s[k] = 1
      · have HN := Lib.hid fun o => (hc.out o).trans (Lx.sc_next1 hlt h1 o)
        refine (has_spec _ [32, 9, 10] (by decide) sb[k] true (Lib.hid ((Lx.blank_has _).trans (decide_eq_true (by rw [HGE.out]; exact h1))))).mono ?_
        rintro e w1 ⟨rfl, rfl⟩
        clear h1
        go_wp2_with fail
        go_round
        case rel => exact ⟨k + 1, vint (by omega), by omega, by omega, HN⟩
        case measure => simp [intOf]; omega
      · refine (has_spec _ [32, 9, 10] (by decide) sb[k] false (Lib.hid ((Lx.blank_has _).trans (decide_eq_false (by rw [HGE.out]; exact h1))))).mono ?_
        rintro e w1 ⟨rfl, rfl⟩
        have hh := Lx.hash_num s[k]
        by_cases h2 : Lx.cls s[k] = 2
        · rw [decide_eq_true h2] at hh
          have hh2 := of_decide_eq_true hh.symm
          have n35 : ((sb[k].toNat : Int) == 35) = true := by rw [HGE.out, beq_iff_eq]; omega
          have HP := Lib.hid (line_pos2 hlt (by rw [Lx.at'_lt hlt]; exact h2))
          have HN2 := Lib.hid fun j m (hw : Lx.wl Lx.line (s.drop k) = j) (hm : m = k + j) o => (hc.out o).trans (Lx.sc_next2 hlt h2 hw hm o)
          clear h1 h2 hh hh2
          go_upto_region 5 with fail
          go_loop [1] (fun i => ∃ j : Nat, i = .int .i64 ((k + j : Nat) : Int) ∧ k + j ≤ s.length ∧ Hid (Lx.wl Lx.line (s.drop k) = j + Lx.wl Lx.line (s.drop (k + j)))) (fun i => s.length - (intOf i).toNat)
          case atStart => exact ⟨0, rfl, hk, Lib.hid (by simp)⟩
          case round =>
            obtain ⟨j, rfl, hj, hwl⟩ := hrel
            obtain ⟨m, hm⟩ : ∃ m, m = k + j := ⟨_, rfl⟩
            rw [← hm]
            have HM := Lib.hid hm
            rw [← hm] at hj hwl
            clear hm
            by_cases hm : m < s.length
            · have r1 : (m : Int) < (sb.size : Int) := by rw [HSZ.out]; omega
              have r0 : (0 : Int) ≤ (m : Int) := by omega
              go_wp2_with fail
              · rename_i hx
                go_round
                case rel => exact ⟨j + 1, vint (by have := HM.out; omega), by have := HM.out; omega, wl_more hwl HM (line_yes HSB _ hm hx)⟩
                case measure => simp [intOf]; omega
              · rename_i hx
                have hw0 := line_no HSB _ hm hx
                have hwj := hwl.out
                rw [hw0, Nat.add_zero] at hwj
                have hj0 : 0 < j := by have := HP.out; omega
                go_round
                case rel => exact ⟨m, rfl, by have := HM.out; omega, hj, Lib.hid (HN2.out j m hwj HM.out)⟩
                case measure => have := HM.out; simp [intOf]; omega
            · have r1 : ¬ (m : Int) < (sb.size : Int) := by rw [HSZ.out]; omega
              have hwj := hwl.out
              rw [Lx.wl_end Lx.line s m (by omega), Nat.add_zero] at hwj
              go_wp2_with fail
              go_round
              case rel => exact ⟨m, rfl, by have := HM.out; omega, hj, Lib.hid (HN2.out j m hwj HM.out)⟩
              case measure => have := HLT.out; simp [intOf]; omega
        · rw [decide_eq_false h2] at hh
          have hh2 := of_decide_eq_false hh.symm
          have n35 : ((sb[k].toNat : Int) == 35) = false := by rw [HGE.out, beq_eq_false_iff_ne]; omega
          have HA : Hid (Lx.atTok s k) := Lib.hid fun _ => ⟨h1, h2⟩
          clear h1 h2 hh hh2
          go_wp2_with fail
          go_ret
          exact ⟨⟨k, rfl, hik, hk, HA.out, hc.out⟩, rfl⟩
    · have q1 : ¬ (k : Int) < (sb.size : Int) := by rw [HSZ.out]; omega
      have HA : Hid (Lx.atTok s k) := Lib.hid fun h => absurd h hlt
      go_wp2_with fail
      go_ret
      exact ⟨⟨k, rfl, hik, hk, HA.out, hc.out⟩, rfl⟩
theorem gaps_spec (w : World) (s : Bytes) (hs : s.length ≤ 1000000) : Calls Tryd.prog 16 #[.string ⟨s.toArray⟩] w fun e w' => e = .returned (.bool (decide (Lx.sc 0 s = []))) ∧ w' = w := by
  obtain ⟨sb, hsb⟩ : ∃ sb : ByteArray, sb = ⟨s.toArray⟩ := ⟨_, rfl⟩
  have HSB := Lib.hid hsb
  have HSZ : Hid (sb.size = s.length) := Lib.hid (by rw [hsb]; show s.toArray.size = _; simp)
  rw [← hsb]
  clear hsb
  go_enter Tryd.func16, Tryd.ntmps16
  go_wp2_with fail
  rw [HSB.out]
  refine (gap_spec _ s hs 0 0 rfl (Nat.zero_le _)).mono ?_
  rintro e w1 ⟨⟨j, rfl, _, hj, ha, hsc⟩, rfl⟩
  rw [← HSB.out]
  have h0 := hsc 0
  rw [List.drop_zero, Nat.zero_add, Nat.zero_add] at h0
  by_cases hjs : j = s.length
  · have HF : Hid (decide (Lx.sc 0 s = []) = true) := Lib.hid (by rw [decide_eq_true_iff, h0, hjs, List.drop_length]; exact Lx.sc_nil _)
    have n1 : ((j : Int) == (sb.size : Int)) = true := by rw [HSZ.out, hjs]; exact beq_self_eq_true _
    clear hsc h0 ha hjs
    go_wp2_with fail
    go_ret
    exact ⟨by rw [HF.out]; rfl, rfl⟩
  · have HF : Hid (decide (Lx.sc 0 s = []) = false) := Lib.hid (by
      have hlt : j < s.length := by omega
      rw [decide_eq_false_iff_not, h0, List.drop_eq_getElem_cons hlt]
      exact Lx.sc_some (ha hlt).1 (ha hlt).2)
    have n1 : ((j : Int) == (sb.size : Int)) = false := by rw [HSZ.out, beq_eq_false_iff_ne]; omega
    clear hsc h0 ha hjs
    go_wp2_with fail
    go_ret
    exact ⟨by rw [HF.out]; rfl, rfl⟩
end Go.Proofs.YtmfjebpefneboaaDoor
