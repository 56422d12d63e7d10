/-
  Layer 21: comparing lists of tokens apart from their offsets (Alike).
-/
import Derived.Test.YtghhddpaloogmaaDoorLxO
namespace Go.Proofs.YtghhddpaloogmaaDoor
set_option linter.unusedVariables false
set_option linter.unusedSimpArgs false
open Go Go.RowKit Go.Shelf
attribute [local irreducible] Go.wpStill

set_option maxHeartbeats 1000000 in
theorem alike_spec (w : World) (v u : Value) (a b : List Lx.Tk) (HV : Hid (TokS w v a)) (HU : Hid (TokS w u b)) (ha : a.length ≤ 1000000) (hb : b.length ≤ 1000000) :
    Calls Tryd.prog 17 #[v, u] w fun e w' => e = .returned (.bool (decide (a.map Lx.bare = b.map Lx.bare))) ∧ Chg [] w w' := by
  obtain ⟨ao, cap, rfl, hcap⟩ := HV.out.form
  obtain ⟨bo, cup, rfl, hcup⟩ := HU.out.form
  obtain ⟨m, hm⟩ : ∃ m, m = a.length := ⟨_, rfl⟩
  obtain ⟨q, hq⟩ : ∃ q, q = b.length := ⟨_, rfl⟩
  rw [← hm] at hcap ha HV ⊢
  rw [← hq] at hcup hb HU ⊢
  have HM := Lib.hid hm
  have HQ := Lib.hid hq
  clear hm hq
  by_cases hmq : m = q
  · obtain rfl : m = q := hmq
    go_enter Tryd.func17, Tryd.ntmps17
    go_wp2_with fail
    go_loopw [5] (fun i wr => ∃ k : Nat, k ≤ m ∧ i = .int .i64 k ∧ Hid ((a.map Lx.bare).take k = (b.map Lx.bare).take k) ∧ Chg [] w wr) (fun i _ => m - (intOf i).toNat)
    case atStart => exact ⟨0, Nat.zero_le _, rfl, Lib.hid (by simp), Chg.refl _ _⟩
    case round =>
      obtain ⟨k, hk, rfl, HT, hc⟩ := hrel
      have HC := Lib.hid hc
      clear hc
      by_cases hlt : k < m
      · obtain ⟨x, hx⟩ : ∃ x, a[k]? = some x := ⟨a[k]'(by rw [← HM.out]; exact hlt), by simp⟩
        obtain ⟨y, hy⟩ : ∃ y, b[k]? = some y := ⟨b[k]'(by rw [← HQ.out]; exact hlt), by simp⟩
        obtain ⟨g, off, rfl, c0, c1, c2, _⟩ := (HV.out.quiet HC.out).get hx
        obtain ⟨g2, off2, rfl, e0, e1, e2, _⟩ := (HU.out.quiet HC.out).get hy
        have HX := Lib.hid (show (a.map Lx.bare)[k]? = some (Lx.bare x) by rw [List.getElem?_map, hx]; rfl)
        have HY := Lib.hid (show (b.map Lx.bare)[k]? = some (Lx.bare y) by rw [List.getElem?_map, hy]; rfl)
        clear hx hy
        have hki : (0 : Int) ≤ (k : Int) := by omega
        have hki2 : (k : Int) < (m : Int) := by omega
        have CW : Chg [] w wr := ⟨HC.out.os, HC.out.tape, HC.out.output, HC.out.size, HC.out.block⟩
        have HCW := Lib.hid CW
        clear CW
        have hno : Lx.bare x ≠ Lx.bare y → decide (a.map Lx.bare = b.map Lx.bare) = false := fun h9 => by
          rw [decide_eq_false_iff_not]
          intro e
          have h8 := HX.out
          rw [e, HY.out] at h8
          exact h9 (Option.some.inj h8).symm
        obtain ⟨b1, h1⟩ : ∃ b, ((x.kind : Int) != (y.kind : Int)) = b := ⟨_, rfl⟩
        obtain ⟨b2, h2⟩ : ∃ b, (!x.text == y.text) = b := ⟨_, rfl⟩
        obtain ⟨b3, h3⟩ : ∃ b, ((x.n : Int) != (y.n : Int)) = b := ⟨_, rfl⟩
        cases b1 with
        | true =>
          have HF : Hid (decide (a.map Lx.bare = b.map Lx.bare) = false) := Lib.hid (hno (by intro e; simp only [Lx.bare, Prod.mk.injEq] at e; simp [e] at h1))
          clear hno
          go_wp2_with fail
          go_quiet (fail)
          go_wp2_with fail
          go_ret
          exact ⟨by rw [HF.out]; rfl, ⟨HC.out.os, HC.out.tape, HC.out.output, HC.out.size, HC.out.block⟩⟩
        | false =>
          cases b2 with
          | true =>
            have HF : Hid (decide (a.map Lx.bare = b.map Lx.bare) = false) := Lib.hid (hno (by intro e; simp only [Lx.bare, Prod.mk.injEq] at e; simp [e] at h2))
            clear hno
            go_wp2_with fail
            go_quiet (fail)
            go_wp2_with fail
            go_ret
            exact ⟨by rw [HF.out]; rfl, ⟨HC.out.os, HC.out.tape, HC.out.output, HC.out.size, HC.out.block⟩⟩
          | false =>
            cases b3 with
            | true =>
              have HF : Hid (decide (a.map Lx.bare = b.map Lx.bare) = false) := Lib.hid (hno (by intro e; simp only [Lx.bare, Prod.mk.injEq] at e; simp [e] at h3))
              clear hno
              go_wp2_with fail
              go_quiet (fail)
              go_wp2_with fail
              go_ret
              exact ⟨by rw [HF.out]; rfl, ⟨HC.out.os, HC.out.tape, HC.out.output, HC.out.size, HC.out.block⟩⟩
            | false =>
              have HXY : Hid (Lx.bare x = Lx.bare y) := Lib.hid (by
                have e1 : (x.kind : Int) = (y.kind : Int) := by simpa using h1
                have e2 : x.text = y.text := by simpa using h2
                have e3 : (x.n : Int) = (y.n : Int) := by simpa using h3
                unfold Lx.bare
                rw [e2, show x.kind = y.kind by omega, show x.n = y.n by omega])
              clear hno
              go_wp2_with fail
              go_quiet (fail)
              go_wp2_with fail
              refine ⟨⟨k + 1, by omega, by go_num, Lib.hid (Lx.take_eq HT.out HX.out HY.out HXY.out), ?_⟩, by simp [intOf]; omega⟩
              exact ⟨HC.out.os, HC.out.tape, HC.out.output, HC.out.size, HC.out.block⟩
      · have hkm : k = m := by omega
        have HF : Hid (decide (a.map Lx.bare = b.map Lx.bare) = true) := Lib.hid (by
          rw [decide_eq_true_iff]
          have := HT.out
          rwa [List.take_of_length_le (by rw [List.length_map, ← HM.out, hkm]; exact Nat.le_refl _), List.take_of_length_le (by rw [List.length_map, ← HQ.out, hkm]; exact Nat.le_refl _)] at this)
        clear hkm
        go_wp2_with fail
        go_ret
        exact ⟨by rw [HF.out]; rfl, HC.out⟩
  · have HF : Hid (decide (a.map Lx.bare = b.map Lx.bare) = false) := Lib.hid (by
      rw [decide_eq_false_iff_not]
      intro h
      have := congrArg List.length h
      rw [List.length_map, List.length_map] at this
      exact hmq (HM.out.trans (this.trans HQ.out.symm)))
    go_enter Tryd.func17, Tryd.ntmps17
    go_wp2_with fail
    go_ret
    exact ⟨by rw [HF.out]; rfl, Chg.refl _ _⟩
end Go.Proofs.YtghhddpaloogmaaDoor
