/-
  Plan, layer 26: count. Printed by gencount06.py.
-/
import Derived.Test.YtocadlcglgpdcaaDoorPnY
import Derived.Test.YtocadlcglgpdcaaDoorPoJ
namespace Go.Proofs.YtocadlcglgpdcaaDoor
set_option linter.unusedVariables false
set_option linter.unusedSimpArgs false
open Go Go.RowKit Go.Shelf
open Lx (Tk)
attribute [local go_sem ↓] Go.wp_at_zero Go.wp_at_succ
theorem dep_bound (l : List Tk) : -(l.length : Int) ≤ Pn.dep l ∧ Pn.dep l ≤ (l.length : Int) := by
  induction l with
  | nil => exact ⟨by decide, by decide⟩
  | cons t r ih =>
    have h : -1 ≤ Pn.braceT t ∧ Pn.braceT t ≤ 1 := by
      unfold Pn.braceT
      split
      · decide
      · split <;> decide
    have h2 : Pn.dep (t :: r) = Pn.braceT t + Pn.dep r := rfl
    rw [h2]
    simp only [List.length_cons]
    omega
theorem dep_take {l : List Tk} {j : Nat} {t : Tk} (h : l[j]? = some t) : Pn.dep (l.take (j + 1)) = Pn.dep (l.take j) + Pn.braceT t := by
  rw [take_snoc h, Pn.dep_append]
  show _ + (Pn.braceT t + 0) = _
  rw [Int.add_zero]
/-- Up to here the tokens are as those of one item. -/
def SoF (l : List Tk) (j : Nat) : Prop := ∀ (i : Nat) (t : Tk), i < j → l[i]? = some t → 0 ≤ Pn.dep (l.take (i + 1)) ∧ ((Pn.dep (l.take (i + 1)) = 0 ∧ Pn.isEnd t = true) ↔ i + 1 = l.length)
theorem sof_step {l : List Tk} {j : Nat} {t : Tk} (h : SoF l j) (ht : l[j]? = some t) (h1 : 0 ≤ Pn.dep (l.take (j + 1))) (h2 : (Pn.dep (l.take (j + 1)) = 0 ∧ Pn.isEnd t = true) ↔ j + 1 = l.length) : SoF l (j + 1) := fun i u hi hu => by
  by_cases hij : i = j
  · subst hij
    rw [ht] at hu
    cases hu
    exact ⟨h1, h2⟩
  · exact h i u (by omega) hu
set_option maxHeartbeats 8000000 in
set_option maxRecDepth 100000 in
theorem count_spec (w : World) (l : List Tk) (ao : Option Addr) (n cap : Nat) (HT : Hid (TokS w (.slice ao n cap) l)) (HN : Hid (l.length = n)) (hn : n ≤ 100000) (v : Value) :
    Calls Tryd.prog 17 #[.slice ao n cap, v] w fun e w' => ((Pn.CP l ∧ e = .returned (.int .i64 1)) ∨ (¬ Pn.CP l ∧ e = .returned (.int .i64 (-1)))) ∧ w' = w := by
  go_enter Tryd.func17, Tryd.ntmps17
  go_wp2_with fail
  go_loopw [5, 6, 7] (fun dv iv _ wr => ∃ j : Nat, dv = .int .i64 (Pn.dep (l.take j)) ∧ iv = .int .i64 (j : Int) ∧ j ≤ n ∧ Hid (SoF l j) ∧ Hid (wr = w)) (fun _ iv _ _ => n - intN iv)
  case atStart => exact ⟨0, rfl, rfl, Nat.zero_le _, Lib.hid (fun i t hi => absurd hi (Nat.not_lt_zero _)), Lib.hid rfl⟩
  case round =>
    obtain ⟨j, rfl, rfl, hj, HSO, HWR⟩ := hrel
    by_cases hlt : j < n
    · obtain ⟨t, ht⟩ : ∃ t, l[j]? = some t := ⟨l[j]'(by rw [HN.out]; exact hlt), by simp⟩
      obtain ⟨g, off, e1, e2, e3, k0, k1, k2, k3⟩ := HT.out.get ht
      rw [← HWR.out] at k0 k1 k2 k3
      subst e1
      have q0 : (0 : Int) ≤ (j : Int) := by omega
      have q1 : (j : Int) < (n : Int) := by omega
      have q2 : (j : Int) ≤ (cap : Int) := by omega
      have qj : ((j : Int)).toNat = j := by omega
      have hw2 : IntKind.i64.wrap ((j : Int) + 1) = ((j + 1 : Nat) : Int) := by rw [IntWalk.i64_in _ (by omega)]; omega
      have hw3 : IntKind.i64.wrap ((n : Int) - 1) = (n : Int) - 1 := IntWalk.i64_in _ (by omega)
      obtain ⟨d, hd⟩ : ∃ d, d = Pn.dep (l.take j) := ⟨_, rfl⟩
      obtain ⟨d1, hd1⟩ : ∃ d, d = Pn.dep (l.take (j + 1)) := ⟨_, rfl⟩
      have hstep := dep_take ht
      rw [← hd, ← hd1] at hstep
      have hbd := dep_bound (l.take j)
      rw [← hd, List.length_take] at hbd
      have HD1 := Lib.hid hd1
      have HTT := Lib.hid ht
      have HST := Lib.hid (show d1 = d + Pn.braceT t from hstep)
      have HB := Lib.hid (show -100000 ≤ d ∧ d ≤ 100000 by omega)
      rw [← hd]
      clear hd hd1 hstep hbd ht e2 e3
      by_cases ho : t.text = Pn.cOpen
      · have b1 : (t.text == [123]) = true := by rw [ho]; rfl
        have b2 : (t.text == [125]) = false := by rw [ho]; rfl
        have b3 : (t.text == [59]) = false := by rw [ho]; rfl
        have hb : Pn.braceT t = 1 := by unfold Pn.braceT; rw [if_pos ho]
        have hd1 : d1 = d + (1) := by rw [HST.out, hb]
        have HEN : Hid (Pn.isEnd t = false) := Lib.hid (by unfold Pn.isEnd; rw [ho]; rfl)
        have hw1 : IntKind.i64.wrap (d + 1) = d1 := by rw [IntWalk.i64_in _ (by have := HB.out; omega)]; omega
        clear hb hd1 ho
        by_cases hz : d1 = 0
        · by_cases hla : j + 1 = n
          · have z1 : (d1 == 0) = true := by rw [hz]; rfl
            have z2 : ¬ d1 < 0 := by omega
            have z3 : ((j : Int) == (n : Int) - 1) = true := by simp; omega
            have HZ := Lib.hid hz
            have HLA := Lib.hid hla
            clear hz hla
            go_wp2_with fail
            go_ret
            refine ⟨.inr ⟨fun hcp => ?_, rfl⟩, HWR.out⟩
            obtain ⟨p1, p2⟩ := hcp j t HTT.out
            rw [← HD1.out] at p1 p2
            have p3 := p2.2 (by have h1 := HLA.out; rw [HN.out]; exact h1)
            rw [HEN.out] at p3
            cases p3.2
          · have z1 : (d1 == 0) = true := by rw [hz]; rfl
            have z2 : ¬ d1 < 0 := by omega
            have z3 : ((j : Int) == (n : Int) - 1) = false := by simp; omega
            have HZ := Lib.hid hz
            have HLA := Lib.hid hla
            clear hz hla
            go_wp2_with fail
            have HS2 : Hid (SoF l (j + 1)) := Lib.hid (sof_step HSO.out HTT.out (by rw [← HD1.out]; omega) (iff_of_false (fun h => by rw [HEN.out] at h; cases h.2) (by rw [HN.out]; exact HLA.out)))
            refine ⟨?_, by simp [intN]; omega⟩
            first | exact ⟨j + 1, by rw [← HD1.out], vintP (by omega), by omega, HS2, HWR⟩ | ((repeat apply Exists.intro); exact ⟨⟨j + 1, by rw [← HD1.out], vintP (by omega), by omega, HS2, HWR⟩, rfl⟩)
        · by_cases hng : d1 < 0
          · by_cases hla : j + 1 = n
            · have z1 : (d1 == 0) = false := by simp; omega
              have z2 : d1 < 0 := by omega
              have z3 : ((j : Int) == (n : Int) - 1) = true := by simp; omega
              have HZ := Lib.hid hz
              have HLA := Lib.hid hla
              have HNG := Lib.hid hng
              clear hz hla hng
              go_wp2_with fail
              go_ret
              refine ⟨.inr ⟨fun hcp => ?_, rfl⟩, HWR.out⟩
              obtain ⟨p1, p2⟩ := hcp j t HTT.out
              rw [← HD1.out] at p1 p2
              have := HNG.out
              omega
            · have z1 : (d1 == 0) = false := by simp; omega
              have z2 : d1 < 0 := by omega
              have z3 : ((j : Int) == (n : Int) - 1) = false := by simp; omega
              have HZ := Lib.hid hz
              have HLA := Lib.hid hla
              have HNG := Lib.hid hng
              clear hz hla hng
              go_wp2_with fail
              go_ret
              refine ⟨.inr ⟨fun hcp => ?_, rfl⟩, HWR.out⟩
              obtain ⟨p1, p2⟩ := hcp j t HTT.out
              rw [← HD1.out] at p1 p2
              have := HNG.out
              omega
          · by_cases hla : j + 1 = n
            · have z1 : (d1 == 0) = false := by simp; omega
              have z2 : ¬ d1 < 0 := by omega
              have z3 : ((j : Int) == (n : Int) - 1) = true := by simp; omega
              have HZ := Lib.hid hz
              have HLA := Lib.hid hla
              have HNG := Lib.hid hng
              clear hz hla hng
              go_wp2_with fail
              go_ret
              refine ⟨.inr ⟨fun hcp => ?_, rfl⟩, HWR.out⟩
              obtain ⟨p1, p2⟩ := hcp j t HTT.out
              rw [← HD1.out] at p1 p2
              have p3 := p2.2 (by have h1 := HLA.out; rw [HN.out]; exact h1)
              exact HZ.out p3.1
            · have z1 : (d1 == 0) = false := by simp; omega
              have z2 : ¬ d1 < 0 := by omega
              have z3 : ((j : Int) == (n : Int) - 1) = false := by simp; omega
              have HZ := Lib.hid hz
              have HLA := Lib.hid hla
              have HNG := Lib.hid hng
              clear hz hla hng
              go_wp2_with fail
              have HS2 : Hid (SoF l (j + 1)) := Lib.hid (sof_step HSO.out HTT.out (by rw [← HD1.out]; omega) (iff_of_false (fun h => HZ.out (HD1.out.trans h.1)) (by rw [HN.out]; exact HLA.out)))
              refine ⟨?_, by simp [intN]; omega⟩
              first | exact ⟨j + 1, by rw [← HD1.out], vintP (by omega), by omega, HS2, HWR⟩ | ((repeat apply Exists.intro); exact ⟨⟨j + 1, by rw [← HD1.out], vintP (by omega), by omega, HS2, HWR⟩, rfl⟩)
      · by_cases hc : t.text = Pn.cClose
        · have b1 : (t.text == [123]) = false := by rw [hc]; rfl
          have b2 : (t.text == [125]) = true := by rw [hc]; rfl
          have b3 : (t.text == [59]) = false := by rw [hc]; rfl
          have hb : Pn.braceT t = -1 := by unfold Pn.braceT; rw [hc]; rfl
          have hd1 : d1 = d + (-1) := by rw [HST.out, hb]
          have HEN : Hid (Pn.isEnd t = true) := Lib.hid (by unfold Pn.isEnd; rw [hc]; rfl)
          have hw1 : IntKind.i64.wrap (d - 1) = d1 := by rw [IntWalk.i64_in _ (by have := HB.out; omega)]; omega
          clear hb hd1 ho hc
          by_cases hz : d1 = 0
          · by_cases hla : j + 1 = n
            · have z1 : (d1 == 0) = true := by rw [hz]; rfl
              have z2 : ¬ d1 < 0 := by omega
              have z3 : ((j : Int) == (n : Int) - 1) = true := by simp; omega
              have HZ := Lib.hid hz
              have HLA := Lib.hid hla
              clear hz hla
              go_wp2_with fail
              have HS2 : Hid (SoF l (j + 1)) := Lib.hid (sof_step HSO.out HTT.out (by rw [← HD1.out]; omega) (iff_of_true ⟨by rw [← HD1.out]; exact HZ.out, HEN.out⟩ (by rw [HN.out]; exact HLA.out)))
              refine ⟨?_, by simp [intN]; omega⟩
              first | exact ⟨j + 1, by rw [← HD1.out], vintP (by omega), by omega, HS2, HWR⟩ | ((repeat apply Exists.intro); exact ⟨⟨j + 1, by rw [← HD1.out], vintP (by omega), by omega, HS2, HWR⟩, rfl⟩)
            · have z1 : (d1 == 0) = true := by rw [hz]; rfl
              have z2 : ¬ d1 < 0 := by omega
              have z3 : ((j : Int) == (n : Int) - 1) = false := by simp; omega
              have HZ := Lib.hid hz
              have HLA := Lib.hid hla
              clear hz hla
              go_wp2_with fail
              go_ret
              refine ⟨.inr ⟨fun hcp => ?_, rfl⟩, HWR.out⟩
              obtain ⟨p1, p2⟩ := hcp j t HTT.out
              rw [← HD1.out] at p1 p2
              have p3 := p2.1 ⟨HZ.out, HEN.out⟩
              rw [HN.out] at p3
              exact HLA.out p3
          · by_cases hng : d1 < 0
            · by_cases hla : j + 1 = n
              · have z1 : (d1 == 0) = false := by simp; omega
                have z2 : d1 < 0 := by omega
                have z3 : ((j : Int) == (n : Int) - 1) = true := by simp; omega
                have HZ := Lib.hid hz
                have HLA := Lib.hid hla
                have HNG := Lib.hid hng
                clear hz hla hng
                go_wp2_with fail
                go_ret
                refine ⟨.inr ⟨fun hcp => ?_, rfl⟩, HWR.out⟩
                obtain ⟨p1, p2⟩ := hcp j t HTT.out
                rw [← HD1.out] at p1 p2
                have := HNG.out
                omega
              · have z1 : (d1 == 0) = false := by simp; omega
                have z2 : d1 < 0 := by omega
                have z3 : ((j : Int) == (n : Int) - 1) = false := by simp; omega
                have HZ := Lib.hid hz
                have HLA := Lib.hid hla
                have HNG := Lib.hid hng
                clear hz hla hng
                go_wp2_with fail
                go_ret
                refine ⟨.inr ⟨fun hcp => ?_, rfl⟩, HWR.out⟩
                obtain ⟨p1, p2⟩ := hcp j t HTT.out
                rw [← HD1.out] at p1 p2
                have := HNG.out
                omega
            · by_cases hla : j + 1 = n
              · have z1 : (d1 == 0) = false := by simp; omega
                have z2 : ¬ d1 < 0 := by omega
                have z3 : ((j : Int) == (n : Int) - 1) = true := by simp; omega
                have HZ := Lib.hid hz
                have HLA := Lib.hid hla
                have HNG := Lib.hid hng
                clear hz hla hng
                go_wp2_with fail
                go_ret
                refine ⟨.inr ⟨fun hcp => ?_, rfl⟩, HWR.out⟩
                obtain ⟨p1, p2⟩ := hcp j t HTT.out
                rw [← HD1.out] at p1 p2
                have p3 := p2.2 (by have h1 := HLA.out; rw [HN.out]; exact h1)
                exact HZ.out p3.1
              · have z1 : (d1 == 0) = false := by simp; omega
                have z2 : ¬ d1 < 0 := by omega
                have z3 : ((j : Int) == (n : Int) - 1) = false := by simp; omega
                have HZ := Lib.hid hz
                have HLA := Lib.hid hla
                have HNG := Lib.hid hng
                clear hz hla hng
                go_wp2_with fail
                have HS2 : Hid (SoF l (j + 1)) := Lib.hid (sof_step HSO.out HTT.out (by rw [← HD1.out]; omega) (iff_of_false (fun h => HZ.out (HD1.out.trans h.1)) (by rw [HN.out]; exact HLA.out)))
                refine ⟨?_, by simp [intN]; omega⟩
                first | exact ⟨j + 1, by rw [← HD1.out], vintP (by omega), by omega, HS2, HWR⟩ | ((repeat apply Exists.intro); exact ⟨⟨j + 1, by rw [← HD1.out], vintP (by omega), by omega, HS2, HWR⟩, rfl⟩)
        · by_cases hs : t.text = Pn.cSemi
          · have b1 : (t.text == [123]) = false := by rw [hs]; rfl
            have b2 : (t.text == [125]) = false := by rw [hs]; rfl
            have b3 : (t.text == [59]) = true := by rw [hs]; rfl
            have hb : Pn.braceT t = 0 := by unfold Pn.braceT; rw [hs]; rfl
            have hd1 : d1 = d + (0) := by rw [HST.out, hb]
            have HEN : Hid (Pn.isEnd t = true) := Lib.hid (by unfold Pn.isEnd; rw [hs]; rfl)
            have hdd : d1 = d := by omega
            subst hdd
            clear hb hd1 ho hc hs
            by_cases hz : d1 = 0
            · by_cases hla : j + 1 = n
              · have z1 : (d1 == 0) = true := by rw [hz]; rfl
                have z2 : ¬ d1 < 0 := by omega
                have z3 : ((j : Int) == (n : Int) - 1) = true := by simp; omega
                have HZ := Lib.hid hz
                have HLA := Lib.hid hla
                clear hz hla
                go_wp2_with fail
                have HS2 : Hid (SoF l (j + 1)) := Lib.hid (sof_step HSO.out HTT.out (by rw [← HD1.out]; omega) (iff_of_true ⟨by rw [← HD1.out]; exact HZ.out, HEN.out⟩ (by rw [HN.out]; exact HLA.out)))
                refine ⟨?_, by simp [intN]; omega⟩
                first | exact ⟨j + 1, by rw [← HD1.out], vintP (by omega), by omega, HS2, HWR⟩ | ((repeat apply Exists.intro); exact ⟨⟨j + 1, by rw [← HD1.out], vintP (by omega), by omega, HS2, HWR⟩, rfl⟩)
              · have z1 : (d1 == 0) = true := by rw [hz]; rfl
                have z2 : ¬ d1 < 0 := by omega
                have z3 : ((j : Int) == (n : Int) - 1) = false := by simp; omega
                have HZ := Lib.hid hz
                have HLA := Lib.hid hla
                clear hz hla
                go_wp2_with fail
                go_ret
                refine ⟨.inr ⟨fun hcp => ?_, rfl⟩, HWR.out⟩
                obtain ⟨p1, p2⟩ := hcp j t HTT.out
                rw [← HD1.out] at p1 p2
                have p3 := p2.1 ⟨HZ.out, HEN.out⟩
                rw [HN.out] at p3
                exact HLA.out p3
            · by_cases hng : d1 < 0
              · by_cases hla : j + 1 = n
                · have z1 : (d1 == 0) = false := by simp; omega
                  have z2 : d1 < 0 := by omega
                  have z3 : ((j : Int) == (n : Int) - 1) = true := by simp; omega
                  have HZ := Lib.hid hz
                  have HLA := Lib.hid hla
                  have HNG := Lib.hid hng
                  clear hz hla hng
                  go_wp2_with fail
                  go_ret
                  refine ⟨.inr ⟨fun hcp => ?_, rfl⟩, HWR.out⟩
                  obtain ⟨p1, p2⟩ := hcp j t HTT.out
                  rw [← HD1.out] at p1 p2
                  have := HNG.out
                  omega
                · have z1 : (d1 == 0) = false := by simp; omega
                  have z2 : d1 < 0 := by omega
                  have z3 : ((j : Int) == (n : Int) - 1) = false := by simp; omega
                  have HZ := Lib.hid hz
                  have HLA := Lib.hid hla
                  have HNG := Lib.hid hng
                  clear hz hla hng
                  go_wp2_with fail
                  go_ret
                  refine ⟨.inr ⟨fun hcp => ?_, rfl⟩, HWR.out⟩
                  obtain ⟨p1, p2⟩ := hcp j t HTT.out
                  rw [← HD1.out] at p1 p2
                  have := HNG.out
                  omega
              · by_cases hla : j + 1 = n
                · have z1 : (d1 == 0) = false := by simp; omega
                  have z2 : ¬ d1 < 0 := by omega
                  have z3 : ((j : Int) == (n : Int) - 1) = true := by simp; omega
                  have HZ := Lib.hid hz
                  have HLA := Lib.hid hla
                  have HNG := Lib.hid hng
                  clear hz hla hng
                  go_wp2_with fail
                  go_ret
                  refine ⟨.inr ⟨fun hcp => ?_, rfl⟩, HWR.out⟩
                  obtain ⟨p1, p2⟩ := hcp j t HTT.out
                  rw [← HD1.out] at p1 p2
                  have p3 := p2.2 (by have h1 := HLA.out; rw [HN.out]; exact h1)
                  exact HZ.out p3.1
                · have z1 : (d1 == 0) = false := by simp; omega
                  have z2 : ¬ d1 < 0 := by omega
                  have z3 : ((j : Int) == (n : Int) - 1) = false := by simp; omega
                  have HZ := Lib.hid hz
                  have HLA := Lib.hid hla
                  have HNG := Lib.hid hng
                  clear hz hla hng
                  go_wp2_with fail
                  have HS2 : Hid (SoF l (j + 1)) := Lib.hid (sof_step HSO.out HTT.out (by rw [← HD1.out]; omega) (iff_of_false (fun h => HZ.out (HD1.out.trans h.1)) (by rw [HN.out]; exact HLA.out)))
                  refine ⟨?_, by simp [intN]; omega⟩
                  first | exact ⟨j + 1, by rw [← HD1.out], vintP (by omega), by omega, HS2, HWR⟩ | ((repeat apply Exists.intro); exact ⟨⟨j + 1, by rw [← HD1.out], vintP (by omega), by omega, HS2, HWR⟩, rfl⟩)
          · have b1 : (t.text == [123]) = false := beq_eq_false_iff_ne.2 ho
            have b2 : (t.text == [125]) = false := beq_eq_false_iff_ne.2 hc
            have b3 : (t.text == [59]) = false := beq_eq_false_iff_ne.2 hs
            have hb : Pn.braceT t = 0 := by unfold Pn.braceT; rw [if_neg ho, if_neg hc]
            have hd1 : d1 = d + (0) := by rw [HST.out, hb]
            have HEN : Hid (Pn.isEnd t = false) := Lib.hid (by unfold Pn.isEnd; simp [hc, hs])
            have hdd : d1 = d := by omega
            subst hdd
            clear hb hd1 ho hc hs
            by_cases hz : d1 = 0
            · by_cases hla : j + 1 = n
              · have z1 : (d1 == 0) = true := by rw [hz]; rfl
                have z2 : ¬ d1 < 0 := by omega
                have z3 : ((j : Int) == (n : Int) - 1) = true := by simp; omega
                have HZ := Lib.hid hz
                have HLA := Lib.hid hla
                clear hz hla
                go_wp2_with fail
                go_ret
                refine ⟨.inr ⟨fun hcp => ?_, rfl⟩, HWR.out⟩
                obtain ⟨p1, p2⟩ := hcp j t HTT.out
                rw [← HD1.out] at p1 p2
                have p3 := p2.2 (by have h1 := HLA.out; rw [HN.out]; exact h1)
                rw [HEN.out] at p3
                cases p3.2
              · have z1 : (d1 == 0) = true := by rw [hz]; rfl
                have z2 : ¬ d1 < 0 := by omega
                have z3 : ((j : Int) == (n : Int) - 1) = false := by simp; omega
                have HZ := Lib.hid hz
                have HLA := Lib.hid hla
                clear hz hla
                go_wp2_with fail
                have HS2 : Hid (SoF l (j + 1)) := Lib.hid (sof_step HSO.out HTT.out (by rw [← HD1.out]; omega) (iff_of_false (fun h => by rw [HEN.out] at h; cases h.2) (by rw [HN.out]; exact HLA.out)))
                refine ⟨?_, by simp [intN]; omega⟩
                first | exact ⟨j + 1, by rw [← HD1.out], vintP (by omega), by omega, HS2, HWR⟩ | ((repeat apply Exists.intro); exact ⟨⟨j + 1, by rw [← HD1.out], vintP (by omega), by omega, HS2, HWR⟩, rfl⟩)
            · by_cases hng : d1 < 0
              · by_cases hla : j + 1 = n
                · have z1 : (d1 == 0) = false := by simp; omega
                  have z2 : d1 < 0 := by omega
                  have z3 : ((j : Int) == (n : Int) - 1) = true := by simp; omega
                  have HZ := Lib.hid hz
                  have HLA := Lib.hid hla
                  have HNG := Lib.hid hng
                  clear hz hla hng
                  go_wp2_with fail
                  go_ret
                  refine ⟨.inr ⟨fun hcp => ?_, rfl⟩, HWR.out⟩
                  obtain ⟨p1, p2⟩ := hcp j t HTT.out
                  rw [← HD1.out] at p1 p2
                  have := HNG.out
                  omega
                · have z1 : (d1 == 0) = false := by simp; omega
                  have z2 : d1 < 0 := by omega
                  have z3 : ((j : Int) == (n : Int) - 1) = false := by simp; omega
                  have HZ := Lib.hid hz
                  have HLA := Lib.hid hla
                  have HNG := Lib.hid hng
                  clear hz hla hng
                  go_wp2_with fail
                  go_ret
                  refine ⟨.inr ⟨fun hcp => ?_, rfl⟩, HWR.out⟩
                  obtain ⟨p1, p2⟩ := hcp j t HTT.out
                  rw [← HD1.out] at p1 p2
                  have := HNG.out
                  omega
              · by_cases hla : j + 1 = n
                · have z1 : (d1 == 0) = false := by simp; omega
                  have z2 : ¬ d1 < 0 := by omega
                  have z3 : ((j : Int) == (n : Int) - 1) = true := by simp; omega
                  have HZ := Lib.hid hz
                  have HLA := Lib.hid hla
                  have HNG := Lib.hid hng
                  clear hz hla hng
                  go_wp2_with fail
                  go_ret
                  refine ⟨.inr ⟨fun hcp => ?_, rfl⟩, HWR.out⟩
                  obtain ⟨p1, p2⟩ := hcp j t HTT.out
                  rw [← HD1.out] at p1 p2
                  have p3 := p2.2 (by have h1 := HLA.out; rw [HN.out]; exact h1)
                  exact HZ.out p3.1
                · have z1 : (d1 == 0) = false := by simp; omega
                  have z2 : ¬ d1 < 0 := by omega
                  have z3 : ((j : Int) == (n : Int) - 1) = false := by simp; omega
                  have HZ := Lib.hid hz
                  have HLA := Lib.hid hla
                  have HNG := Lib.hid hng
                  clear hz hla hng
                  go_wp2_with fail
                  have HS2 : Hid (SoF l (j + 1)) := Lib.hid (sof_step HSO.out HTT.out (by rw [← HD1.out]; omega) (iff_of_false (fun h => HZ.out (HD1.out.trans h.1)) (by rw [HN.out]; exact HLA.out)))
                  refine ⟨?_, by simp [intN]; omega⟩
                  first | exact ⟨j + 1, by rw [← HD1.out], vintP (by omega), by omega, HS2, HWR⟩ | ((repeat apply Exists.intro); exact ⟨⟨j + 1, by rw [← HD1.out], vintP (by omega), by omega, HS2, HWR⟩, rfl⟩)
    · have q1 : ¬ (j : Int) < (n : Int) := by omega
      go_wp2_with fail
      go_ret
      refine ⟨.inl ⟨fun i t ht => HSO.out i t ?_ ht, rfl⟩, HWR.out⟩
      have := (List.getElem?_eq_some_iff.1 ht).1
      rw [HN.out] at this
      omega
end Go.Proofs.YtocadlcglgpdcaaDoor
