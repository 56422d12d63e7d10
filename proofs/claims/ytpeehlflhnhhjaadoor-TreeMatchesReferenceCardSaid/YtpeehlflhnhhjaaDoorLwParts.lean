/-
  Layer 4: the walk of TreeParts.
-/
import Derived.Test.YtpeehlflhnhhjaaDoorLwComplete
import Derived.WalkSpells
namespace Go.Proofs.YtpeehlflhnhhjaaDoor
set_option linter.unusedVariables false
set_option linter.unusedSimpArgs false
open Go Go.RowKit Go.Shelf Go.IntWalk

theorem Strs.back {w : World} {ao : Option Addr} {n cap : Nat} {l : List Bytes} (h : Strs w (.slice ao n cap) l) {k : Nat} (hk : k < l.length) : ∃ g off, ao = some ⟨g, off, none⟩ ∧ Strs w (.slice (some ⟨g, off + k, none⟩) (n - k) (cap - k)) (l.drop k) := by
  obtain ⟨ao', cap', he, hle, h2⟩ := h
  cases he
  obtain ⟨g, off, rfl, _⟩ := h2 k l[k] (by simp)
  refine ⟨g, off, rfl, ⟨_, _, by rw [List.length_drop], by rw [List.length_drop]; omega, fun i x hx => ?_⟩⟩
  rw [List.getElem?_drop] at hx
  obtain ⟨g', off', he, h3⟩ := h2 (k + i) x hx
  cases he
  exact ⟨g, off + k, rfl, by rw [Nat.add_assoc]; exact h3⟩
theorem top_le : ∀ (f : Nat) (l : List Bytes), (∀ x ∈ l, x.length ≤ 1000000) → (Tr.top f l).length ≤ 1000000
  | 0, l, h => by cases l <;> simp [Tr.top] at h ⊢; exact h.1
  | f + 1, l, h => by
    unfold Tr.top
    split
    · cases l <;> simp at h ⊢; exact h.1
    · exact top_le f _ (Tr.up_small h)
theorem root_le (l : List Bytes) : (Tr.root l).length ≤ 1000000 := by
  unfold Tr.root
  split
  · unfold Tr.none Dg.list; rw [Dg.sum_len]; decide
  · exact top_le _ _ (fun x hx => by
      obtain ⟨y, _, rfl⟩ := List.mem_map.1 hx
      exact leaf_le y)
set_option maxRecDepth 100000 in
set_option maxHeartbeats 2000000 in
theorem parts_walk (w : World) (HL : Hid (Laid w)) (v : Value) (l : List Bytes) (HV : Hid (Strs w v l)) (HS : Hid (Small l)) (r : Nat) (hr : r < 256) :
    Calls Tryd.prog 7 #[v, .int .u8 (r : Int)] w fun e w' => e = .returned (.bool true) ∧ Chg [] w w' := by
  obtain ⟨ao, cap, rfl, hcap, hv⟩ := HV.out
  obtain ⟨m, hm⟩ : ∃ m, m = l.length := ⟨_, rfl⟩
  have hm9 : m ≤ 9223372036854775807 := by rw [hm]; exact HS.out.1
  have HV2 : Hid (Strs w (.slice ao m cap) l) := Lib.hid (by rw [hm]; exact HV.out)
  rw [← hm] at hcap ⊢
  have HM := Lib.hid hm
  clear hv hm
  have hr0 : (0 : Int) ≤ (r : Int) := by omega
  obtain ⟨k, hk⟩ : ∃ k, k = r % 6 := ⟨_, rfl⟩
  have hk6 : k < 6 := by rw [hk]; exact Nat.mod_lt _ (by decide)
  have hrk : (r : Int) % 6 = (k : Int) := by rw [hk]; simp
  clear hk
  obtain ⟨n, hn⟩ : ∃ n, n = 2 ^ k := ⟨_, rfl⟩
  have hw : wrap64 ((2 : Int) ^ k) = (n : Int) := by
    rw [hn]
    have : k = 0 ∨ k = 1 ∨ k = 2 ∨ k = 3 ∨ k = 4 ∨ k = 5 := by omega
    rcases this with rfl | rfl | rfl | rfl | rfl | rfl <;> (rw [wrap64_in _ (by decide)]; rfl)
  have hn32 : n ≤ 32 := by
    rw [hn]
    exact Nat.le_trans (Nat.pow_le_pow_right (by decide) (show k ≤ 5 by omega)) (by decide)
  have HN := Lib.hid hn
  clear hn
  cases hsh : Tr.short l 64 with
  | false =>
    have HSH := Lib.hid hsh
    clear hsh
    go_enter Tryd.func7, Tryd.ntmps7
    go_wp2_with fail
    refine (head_spec w HL).mono ?_
    rintro e w1 ⟨rfl, hc⟩
    have HC := Lib.hid hc
    clear hc
    go_wp2_with fail
    refine (short_no _ _ l (Lib.hid (HV2.out.quiet HC.out)) HS 64 (by decide) HSH).mono ?_
    rintro e w2 ⟨rfl, rfl⟩
    clear hw
    go_wp2_with fail
    go_ret
    exact ⟨rfl, HC.out⟩
  | true =>
    have HSH := Lib.hid hsh
    have hm64 : m ≤ 64 := by rw [HM.out]; exact short_len hsh
    clear hsh
    by_cases h1 : m ≤ n
    · have h1' : (m : Int) ≤ (n : Int) := by omega
      go_enter Tryd.func7, Tryd.ntmps7
      go_wp2_with fail
      refine (head_spec w HL).mono ?_
      rintro e w1 ⟨rfl, hc⟩
      have HC := Lib.hid hc
      clear hc
      go_wp2_with fail
      rw [hw]
      refine (short_yes _ _ l (Lib.hid (HV2.out.quiet HC.out)) HS 64 (by decide) HSH).mono ?_
      rintro e w2 ⟨rfl, rfl⟩
      clear hw
      go_wp2_with fail
      go_ret
      exact ⟨rfl, HC.out⟩
    · have h1' : ¬ (m : Int) ≤ (n : Int) := by omega
      by_cases h2 : 2 * n < m
      · have h2' : 2 * (n : Int) < (m : Int) := by omega
        go_enter Tryd.func7, Tryd.ntmps7
        go_wp2_with fail
        refine (head_spec w HL).mono ?_
        rintro e w1 ⟨rfl, hc⟩
        have HC := Lib.hid hc
        clear hc
        go_wp2_with fail
        rw [hw]
        refine (short_yes _ _ l (Lib.hid (HV2.out.quiet HC.out)) HS 64 (by decide) HSH).mono ?_
        rintro e w2 ⟨rfl, rfl⟩
        clear hw
        go_wp2_with fail
        go_ret
        exact ⟨rfl, HC.out⟩
      · have h2' : ¬ 2 * (n : Int) < (m : Int) := by omega
        have hnm : n < l.length := by rw [← HM.out]; omega
        obtain ⟨g, off, rfl, hback⟩ := HV2.out.back hnm
        have HVB := Lib.hid hback
        have HVF := Lib.hid (HV2.out.front (k := n) (by omega))
        have HALL := Lib.hid (short_all HSH.out)
        have hcn : ¬ cap = n := by omega
        have hnc : (n : Int) ≤ (cap : Int) := by omega
        have hnm' : (n : Int) ≤ (m : Int) := by omega
        have HRP : Hid (Tr.root l = Tr.node (Tr.root (l.take n)) (Tr.root (l.drop n))) := Lib.hid (by
          have := Tr.root_parts k (l.take n) (l.drop n) (by rw [List.length_take, ← HN.out]; omega) (by rw [List.length_drop, ← HM.out]; omega) (by rw [List.length_drop, ← HM.out, ← HN.out]; omega)
          rwa [List.take_append_drop] at this)
        have HL1 : Hid (l ≠ [] ∧ l.take n ≠ [] ∧ l.drop n ≠ []) := Lib.hid (by
          have hn1 : 1 ≤ n := by rw [HN.out]; exact Nat.one_le_two_pow
          exact ⟨List.length_pos_iff.1 (by rw [← HM.out]; omega), List.length_pos_iff.1 (by rw [List.length_take, ← HM.out]; omega), List.length_pos_iff.1 (by rw [List.length_drop, ← HM.out]; omega)⟩)
        clear hback hnm
        go_enter Tryd.func7, Tryd.ntmps7
        go_wp2_with fail
        refine (head_spec w HL).mono ?_
        rintro e w1 ⟨rfl, hc⟩
        have HC := Lib.hid hc
        clear hc
        go_wp2_with fail
        rw [hw]
        refine (short_yes _ _ l (Lib.hid (HV2.out.quiet HC.out)) HS 64 (by decide) HSH).mono ?_
        rintro e w2 ⟨rfl, rfl⟩
        clear hw
        go_wp2_with fail
        have HL2 := Lib.hid (HL.out.quiet HC.out)
        have HW0 := Lib.hid (HV2.out.quiet HC.out)
        have HW1 := Lib.hid (HVF.out.quiet HC.out)
        have HW2 := Lib.hid (HVB.out.quiet HC.out)
        have hm90 : m ≤ 900 := by omega
        have heq : (Tr.root l == Tr.node (Tr.root (l.take n)) (Tr.root (l.drop n))) = true := by rw [beq_iff_eq]; exact HRP.out
        go_region_held3 (fun W => Chg [] w1 W) (first | exact (Chg.refl _ _).drew | exact Chg.trans (by assumption) hcx (by simp))
          (first
            | (go_at_call 13; (with_reducible refine (root_cons _ (Lib.hid (HL2.out.quiet (by assumption))) (.slice (some ⟨g, off, none⟩) m cap) l (Lib.hid (HW0.out.quiet (by assumption))) HL1.out.1 (by rw [← HM.out]; exact hm90) HALL).mono ?_); rintro e wx ⟨rfl, hcx⟩)
            | (go_at_call 13; (with_reducible refine (root_cons _ (Lib.hid (HL2.out.quiet (by assumption))) (.slice (some ⟨g, off, none⟩) n cap) (l.take n) (Lib.hid (HW1.out.quiet (by assumption))) HL1.out.2.1 (by rw [List.length_take, ← HM.out]; omega) (Lib.hid (fun x hx => HALL.out x (List.mem_of_mem_take hx)))).mono ?_); rintro e wx ⟨rfl, hcx⟩)
            | (go_at_call 13; (with_reducible refine (root_cons _ (Lib.hid (HL2.out.quiet (by assumption))) (.slice (some ⟨g, off + n, none⟩) (m - n) (cap - n)) (l.drop n) (Lib.hid (HW2.out.quiet (by assumption))) HL1.out.2.2 (by rw [List.length_drop, ← HM.out]; omega) (Lib.hid (fun x hx => HALL.out x (List.mem_of_mem_drop hx)))).mono ?_); rintro e wx ⟨rfl, hcx⟩)
            | (go_at_call 19; refine (node_spec _ (Lib.hid (HL2.out.quiet (by assumption))) _ _ (root_le _) (root_le _)).mono ?_; rintro e wx ⟨rfl, hcx⟩))
        all_goals
          (go_wp2_with fail)
          go_ret
          exact ⟨rfl, HC.out.trans (own1 := []) (by go_split_ands; assumption) (by simp)⟩
end Go.Proofs.YtpeehlflhnhhjaaDoor
