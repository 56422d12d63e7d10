/-
  Layer 4: Short, Same and collide.
-/
import Derived.Test.YtpeehlflhnhhjaaDoorTrJ
import Derived.Deep.QuietTactic
import Derived.BigQuiet
namespace Go.Proofs.YtpeehlflhnhhjaaDoor
set_option linter.unusedVariables false
set_option linter.unusedSimpArgs false
open Go Go.RowKit Go.Shelf

namespace Tr
def short (l : List Bytes) (n : Nat) : Bool := decide (l.length ≤ n ∧ ∀ x ∈ l, x.length ≤ 200)
theorem short_iff {l : List Bytes} {n : Nat} : short l n = true ↔ l.length ≤ n ∧ ∀ x ∈ l, x.length ≤ 200 := by simp [short]
end Tr
/-- A list of texts whose length and texts Go can count. -/
def Small (l : List Bytes) : Prop := l.length ≤ 9223372036854775807 ∧ ∀ x ∈ l, x.length ≤ 9223372036854775807

theorem short_spec (w : World) (v : Value) (l : List Bytes) (HV : Hid (Strs w v l)) (HS : Hid (Small l)) (N : Nat) (hN : N ≤ 1000) :
    Calls Tryd.prog 10 #[v, .int .i64 (N : Int)] w fun e w' => e = .returned (.bool (Tr.short l N)) ∧ w = w' := by
  obtain ⟨ao, cap, rfl, hcap, hv⟩ := HV.out
  have HE := Lib.hid hv
  obtain ⟨m, hm⟩ : ∃ m, m = l.length := ⟨_, rfl⟩
  have hm9 : m ≤ 9223372036854775807 := by rw [hm]; exact HS.out.1
  rw [← hm] at hcap ⊢
  have HM := Lib.hid hm
  clear hv hm
  by_cases hmN : m ≤ N
  · go_enter Tryd.func10, Tryd.ntmps10
    go_wp2_with fail
    go_loop [5] (fun i => ∃ k : Nat, k ≤ m ∧ i = .int .i64 k ∧ ∀ x ∈ l.take k, x.length ≤ 200) (fun i => m - (intOf i).toNat)
    case atStart => exact ⟨0, Nat.zero_le _, rfl, by simp⟩
    case round =>
      obtain ⟨k, hk, rfl, hall⟩ := hrel
      have HA := Lib.hid hall
      clear hall
      by_cases hlt : k < m
      · obtain ⟨x, hx⟩ : ∃ x, l[k]? = some x := ⟨l[k]'(by rw [← HM.out]; exact hlt), by simp⟩
        obtain ⟨g, off, rfl, c0⟩ := HE.out k x hx
        have hxl : x.length ≤ 9223372036854775807 := HS.out.2 x (List.mem_of_getElem? hx)
        have HX := Lib.hid hx
        clear hx
        by_cases h2 : x.length ≤ 200
        · have h2' : ¬ 200 < x.length := by omega
          go_wp2_with fail
          go_round
          case rel =>
            refine ⟨k + 1, by omega, by go_num, ?_⟩
            rw [List.take_add_one, HX.out]
            intro y hy
            rcases List.mem_append.1 hy with hy | hy
            · exact HA.out y hy
            · simp at hy; rw [hy]; exact h2
          case measure => simp [intOf]; omega
        · have h2' : 200 < x.length := by omega
          have HF : Hid (Tr.short l N = false) := Lib.hid (by
            rw [← Bool.not_eq_true, Tr.short_iff]
            intro h
            have := h.2 x (List.mem_of_getElem? HX.out)
            omega)
          go_wp2_with fail
          go_ret
          exact ⟨by rw [HF.out]; rfl, rfl⟩
      · have hkm : k = m := by omega
        have HT : Hid (Tr.short l N = true) := Lib.hid (by
          rw [Tr.short_iff]
          refine ⟨by rw [← HM.out]; exact hmN, ?_⟩
          have := HA.out
          rwa [List.take_of_length_le (by rw [← HM.out, hkm]; exact Nat.le_refl _)] at this)
        clear hkm
        go_wp2_with fail
        go_ret
        refine ⟨?_, rfl⟩
        rw [HT.out]
        try simp
        try omega
  · have HF : Hid (Tr.short l N = false) := Lib.hid (by
      rw [← Bool.not_eq_true, Tr.short_iff]
      intro h
      have := h.1
      rw [← HM.out] at this
      exact hmN this)
    by_cases h0 : 0 < m
    · go_enter Tryd.func10, Tryd.ntmps10
      go_wp2_with fail
      refine wp_loop_rounds 1 ?_
      rw [rounds_succ]
      go_wp2_with fail
      go_ret
      exact ⟨by rw [HF.out]; try simp; try omega, rfl⟩
    · omega
theorem same_spec (w : World) (v u : Value) (a b : List Bytes) (HV : Hid (Strs w v a)) (HU : Hid (Strs w u b)) (HA : Hid (a.length ≤ 9223372036854775807)) (HB : Hid (b.length ≤ 9223372036854775807)) :
    Calls Tryd.prog 15 #[v, u] w fun e w' => e = .returned (.bool (decide (a = b))) ∧ Chg [] w w' := by
  obtain ⟨ao, cap, rfl, hcap, hv⟩ := HV.out
  obtain ⟨bo, cup, rfl, hcup, hu⟩ := HU.out
  have HE := Lib.hid hv
  have HG := Lib.hid hu
  obtain ⟨m, hm⟩ : ∃ m, m = a.length := ⟨_, rfl⟩
  obtain ⟨q, hq⟩ : ∃ q, q = b.length := ⟨_, rfl⟩
  have hm9 : m ≤ 9223372036854775807 := by rw [hm]; exact HA.out
  have hq9 : q ≤ 9223372036854775807 := by rw [hq]; exact HB.out
  rw [← hm] at hcap ⊢
  rw [← hq] at hcup ⊢
  have HM := Lib.hid hm
  have HQ := Lib.hid hq
  clear hv hm hu hq
  by_cases hmq : m = q
  · obtain rfl : m = q := hmq
    go_enter Tryd.func15, Tryd.ntmps15
    go_wp2_with fail
    go_loopw [5] (fun i wr => ∃ k : Nat, k ≤ m ∧ i = .int .i64 k ∧ a.take k = b.take k ∧ Chg [] w wr) (fun i _ => m - (intOf i).toNat)
    case atStart => exact ⟨0, Nat.zero_le _, rfl, by simp, Chg.refl _ _⟩
    case round =>
      obtain ⟨k, hk, rfl, hall, hc⟩ := hrel
      have HT := Lib.hid hall
      have HC := Lib.hid hc
      clear hall hc
      by_cases hlt : k < m
      · obtain ⟨x, hx⟩ : ∃ x, a[k]? = some x := ⟨a[k]'(by rw [← HM.out]; exact hlt), by simp⟩
        obtain ⟨y, hy⟩ : ∃ y, b[k]? = some y := ⟨b[k]'(by rw [← HQ.out]; exact hlt), by simp⟩
        obtain ⟨g, off, rfl, c0⟩ := HE.out k x hx
        obtain ⟨g2, off2, rfl, c1⟩ := HG.out k y hy
        have d0 := (World.cell?_of_block (HC.out.block g (World.block_lt_of_cell? _ _ c0) (by simp))).trans c0
        have d1 := (World.cell?_of_block (HC.out.block g2 (World.block_lt_of_cell? _ _ c1) (by simp))).trans c1
        have HX := Lib.hid hx
        have HY := Lib.hid hy
        clear hx hy c0 c1
        have hki : (0 : Int) ≤ (k : Int) := by omega
        have hki2 : (k : Int) < (m : Int) := by omega
        have e0 : ((k : Int)).toNat = k := by omega
        by_cases hxy : x = y
        · have hne : (!x == y) = false := by simpa using hxy
          have HXY := Lib.hid hxy
          clear hxy
          go_wp2_with fail
          go_quiet (fail)
          clear e0
          go_wp2_with fail
          refine ⟨⟨k + 1, by omega, by go_num, ?_, ⟨HC.out.os, HC.out.tape, HC.out.output, HC.out.size, HC.out.block⟩⟩, by simp [intOf]; omega⟩
          rw [List.take_add_one, List.take_add_one, HX.out, HY.out, HT.out, HXY.out]
        · have hne : (!x == y) = true := by simpa using hxy
          have HF : Hid (decide (a = b) = false) := Lib.hid (by
            rw [decide_eq_false_iff_not]
            rintro rfl
            have := HX.out.symm.trans HY.out
            exact hxy (by simpa using this))
          clear hxy
          go_wp2_with fail
          go_quiet (fail)
          clear e0
          go_wp2_with fail
          go_ret
          exact ⟨by rw [HF.out]; rfl, ⟨HC.out.os, HC.out.tape, HC.out.output, HC.out.size, HC.out.block⟩⟩
      · have hkm : k = m := by omega
        have HF : Hid (decide (a = b) = true) := Lib.hid (by
          rw [decide_eq_true_iff]
          have := HT.out
          rwa [List.take_of_length_le (by rw [← HM.out, hkm]; exact Nat.le_refl _), List.take_of_length_le (by rw [← HQ.out, hkm]; exact Nat.le_refl _)] at this)
        clear hkm
        go_wp2_with fail
        go_ret
        exact ⟨by rw [HF.out]; rfl, HC.out⟩
  · have HF : Hid (decide (a = b) = false) := Lib.hid (by
      rw [decide_eq_false_iff_not]
      rintro rfl
      exact hmq (HM.out.trans HQ.out.symm))
    go_enter Tryd.func15, Tryd.ntmps15
    go_wp2_with fail
    go_ret
    exact ⟨by rw [HF.out]; rfl, Chg.refl _ _⟩
end Go.Proofs.YtpeehlflhnhhjaaDoor
