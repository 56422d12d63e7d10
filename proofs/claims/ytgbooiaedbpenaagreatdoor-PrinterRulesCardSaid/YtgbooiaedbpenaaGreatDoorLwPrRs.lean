/-
  The law PrinterRules, walked.
-/
import Derived.Test.YtgbooiaedbpenaaGreatDoorPrHd
import Derived.Test.YtgbooiaedbpenaaGreatDoorPrRc
import Derived.Test.YtgbooiaedbpenaaGreatDoorPrSd
namespace Go.Proofs.YtgbooiaedbpenaaGreatDoor
set_option linter.unusedVariables false
set_option linter.unusedSimpArgs false
open Go Go.RowKit Go.Shelf
attribute [local irreducible] Go.wpStill

set_option maxHeartbeats 4000000 in
set_option maxRecDepth 100000 in
theorem printerRules_walk (w : World) (HL : Hid (Laid w)) (l : List Pr.Itm) (ao : Option Addr) (cap n : Nat) (HI : Hid (InR w l ao cap n)) :
    Calls Tryz.prog 3 #[.agg #[.slice ao n cap]] w fun e w' => e = .returned (.bool true) ∧ Chg [] w w' := by
  suffices H : ∀ {R : Ending → World → Prop}, (∀ w', Chg [] w w' → R (.returned (.bool true)) w') → Calls Tryz.prog 3 #[.agg #[.slice ao n cap]] w R from H (fun w' hc => ⟨rfl, hc⟩)
  intro R hR
  have HRR := hd hR
  clear hR
  go_enter Tryz.func3, Tryz.ntmps3
  go_upto_region 1 with (fail)
  obtain ⟨w1, hw⟩ : ∃ W, W = w.alloc (.cells #[.slice ao n cap] 24) := ⟨_, rfl⟩
  rw [← hw]
  obtain ⟨G, hX⟩ : ∃ X, X = w.heap.size := ⟨_, rfl⟩
  rw [← hX]
  have HG : Hid (Blk w1 G [.slice ao n cap] 24) := hd (by rw [hw, hX]; exact Blk.new w [.slice ao n cap] _)
  have C1 : Hid (Chg [] w w1) := hd (by rw [hw]; exact (Chg.refl _ _).alloc _)
  clear hw hX
  go_wp2_with fail
  refine head_r (hd (HL.out.quiet C1.out)) (fun w2 h2 => ?_)
  have C2 : Hid (Chg [] w w2) := hd (C1.out.trans h2 (by simp))
  have HG2 := hd (h2.blk HG.out (by simp))
  clear h2
  have g0 := HG2.out.cell (i := 0) rfl
  have I2 := HI.out.keep C2.out
  go_wp2_with fail
  refine fewRules_r l ao cap n (hd I2.hn) (hd I2.hm) I2.hr (fun w3 q h3 hq => ?_)
  have C3 : Hid (Chg [] w w3) := hd (C2.out.trans h3 (by simp))
  have HG3 := hd (h3.blk HG2.out (by simp))
  have HQ := hd hq
  clear h3 hq g0 I2
  cases q with
  | false =>
    go_wp2_with fail
    exact HRR.out w3 C3.out
  | true =>
    obtain ⟨t4, t5⟩ := HQ.out (by simp)
    have HT5 := hd t5
    clear t5 HQ
    have g0 := HG3.out.cell (i := 0) rfl
    have I3 := HI.out.keep C3.out
    have HL3 := hd (HL.out.quiet C3.out)
    go_wp2_with fail
    refine rules_r HL3 l ao cap n (hd I3.hn) (hd I3.hm) (by omega) HT5 (fun w4 h4 => ?_)
    have C4 : Hid (Chg [] w w4) := hd (C3.out.trans h4 (by simp))
    have HG4 := hd (h4.blk HG3.out (by simp))
    clear h4 g0 I3
    by_cases h0 : (Pr.rules l).2 = 0
    · obtain ⟨s, hs⟩ : ∃ s, s = (Pr.rules l).1 := ⟨_, rfl⟩
      have hrl : Pr.rules l = (s, 0) := by rw [hs, ← h0]
      obtain ⟨hok, hlen, xs, hp, he⟩ := Pr.rules_parse hrl
      have HP := hd hp
      have HE := hd he
      rw [h0, ← hs]
      clear hs hrl hp he h0 hok
      go_wp2_with fail
      refine (parse_spec w4 s (by omega)).mono ?_
      rintro e w5 ⟨v, rfl, hl, hc⟩
      have C5 : Hid (Chg [] w w5) := hd (C4.out.trans hc (by simp))
      have HG5 := hd (hc.blk HG4.out (by simp))
      rw [HP.out] at hl ⊢
      obtain ⟨hq1, hq2⟩ := rd_rules HI.out.hm HE.out hl
      obtain ⟨qo, qc, rfl, _, _⟩ := hq1.form
      obtain ⟨qn, hqn⟩ : ∃ z, z = (xs.map Pr.cbI).length := ⟨_, rfl⟩
      rw [← hqn] at hq1 ⊢
      have HQ1 := hd hq1
      have HQ2 := hd hq2
      clear hl hc hq1 hq2 hqn
      go_upto_region 8 with (fail)
      obtain ⟨w6, hw⟩ : ∃ W, W = w5.alloc (.cells #[.slice qo qn qc] 24) := ⟨_, rfl⟩
      rw [← hw]
      obtain ⟨Q, hX⟩ : ∃ X, X = w5.heap.size := ⟨_, rfl⟩
      rw [← hX]
      have HQB : Hid (Blk w6 Q [.slice qo qn qc] 24) := hd (by rw [hw, hX]; exact Blk.new w5 [.slice qo qn qc] _)
      have C6 : Hid (Chg [] w5 w6) := hd (by rw [hw]; exact (Chg.refl _ _).alloc _)
      clear hw hX
      have g0 := (C6.out.blk HG5.out (by simp)).cell (i := 0) rfl
      have q0 := HQB.out.cell (i := 0) rfl
      have CC : Hid (Chg [] w w6) := hd (C5.out.trans C6.out (by simp))
      go_wp2_with fail
      refine sameRules_r (hd (Chg.refl [] w6)) (xs.map Pr.cbI) l qo ao qc cap qn n (hd (HQ1.out.keep Pr.kq_itm C6.out)) (hd (HI.out.keep CC.out).hm) (fun w7 h7 => ?_)
      have C7 := hd h7
      clear h7 g0 q0
      rw [decide_eq_true HQ2.out]
      go_wp2_with fail
      exact HRR.out w7 (CC.out.trans C7.out (by simp))
    · rcases Pr.rules_err l h0 with h1 | h1
      · rw [h1]
        clear h0 h1
        go_wp2_with fail
        exact HRR.out w4 C4.out
      · rw [h1]
        clear h0 h1
        go_wp2_with fail
        exact HRR.out w4 C4.out
end Go.Proofs.YtgbooiaedbpenaaGreatDoor
