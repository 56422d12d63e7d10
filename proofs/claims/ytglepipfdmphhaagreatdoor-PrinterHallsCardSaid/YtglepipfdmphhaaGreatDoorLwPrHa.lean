/-
  The law PrinterHalls, walked.
-/
import Derived.Test.YtglepipfdmphhaaGreatDoorPrHd
import Derived.Test.YtglepipfdmphhaaGreatDoorPrRl
import Derived.Test.YtglepipfdmphhaaGreatDoorPrHc
import Derived.Test.YtglepipfdmphhaaGreatDoorPrSc
import Derived.Test.YtglepipfdmphhaaGreatDoorPrY
set_option maxRecDepth 100000
set_option maxHeartbeats 40000000
namespace Go.Proofs.YtglepipfdmphhaaGreatDoor
set_option linter.unusedVariables false
set_option linter.unusedSimpArgs false
open Go Go.RowKit Go.Shelf
attribute [local irreducible] Go.wpStill

theorem printerHalls_walk (w : World) (HL : Hid (Laid w)) (h : Pr.Hl) (ao : Option Addr) (cap n : Nat) (HH : Hid (InH w h ao cap n)) :
    Calls Tryz.prog 3 #[.agg #[.string ⟨h.name.toArray⟩, .int .i64 h.sx, .int .i64 h.sy, .slice ao n cap]] w fun e w' => e = .returned (.bool true) ∧ Chg [] w w' := by
  suffices H : ∀ {R : Ending → World → Prop}, (∀ w', Chg [] w w' → R (.returned (.bool true)) w') → Calls Tryz.prog 3 #[.agg #[.string ⟨h.name.toArray⟩, .int .i64 h.sx, .int .i64 h.sy, .slice ao n cap]] w R from H (fun w' hc => ⟨rfl, hc⟩)
  intro R hR
  have HRR := hd hR
  clear hR
  go_enter Tryz.func3, Tryz.ntmps3
  go_upto_region 1 with (fail)
  obtain ⟨w1, hw⟩ : ∃ W, W = w.alloc (.cells #[.string ⟨h.name.toArray⟩, .int .i64 h.sx, .int .i64 h.sy, .slice ao n cap] 26) := ⟨_, rfl⟩
  rw [← hw]
  obtain ⟨G, hX⟩ : ∃ X, X = w.heap.size := ⟨_, rfl⟩
  rw [← hX]
  have HG := newB hw hX
  have C1 := newC hw
  clear hw hX
  go_wp2_with fail
  refine head_r (hd (HL.out.quiet C1.out)) (fun w2 h2 => ?_)
  have C2 : Hid (Chg [] w w2) := hd (C1.out.trans h2 (by simp))
  have HG2 := hd (h2.blk HG.out (by simp))
  clear h2
  have g0 := HG2.out.cell (i := 0) rfl
  have g1 := HG2.out.cell (i := 1) rfl
  have g2 := HG2.out.cell (i := 2) rfl
  have g3 := HG2.out.cell (i := 3) rfl
  have I2 := HH.out.keep C2.out
  go_wp2_with fail
  refine few_r h ao cap n (hd I2.hn) (hd I2.hm) I2.hr (fun w3 q h3 hq => ?_)
  have C3 : Hid (Chg [] w w3) := hd (C2.out.trans h3 (by simp))
  have HG3 := hd (h3.blk HG2.out (by simp))
  have HQ := hd hq
  clear h3 hq g0 g1 g2 g3 I2
  cases q with
  | false =>
    go_wp2_with fail
    exact HRR.out w3 C3.out
  | true =>
    obtain ⟨t1, t2, t3⟩ := HQ.out (by simp)
    have HT3 := hd t3
    clear t3 HQ
    have g0 := HG3.out.cell (i := 0) rfl
    have g1 := HG3.out.cell (i := 1) rfl
    have g2 := HG3.out.cell (i := 2) rfl
    have g3 := HG3.out.cell (i := 3) rfl
    have I3 := HH.out.keep C3.out
    have HL3 := hd (HL.out.quiet C3.out)
    go_wp2_with fail
    refine hall_r HL3 h ao cap n (hd I3.hn) (hd I3.hm) (hd I3.hi) (by omega) (by omega) HT3 (fun w4 h4 => ?_)
    have C4 : Hid (Chg [] w w4) := hd (C3.out.trans h4 (by simp))
    have HG4 := hd (h4.blk HG3.out (by simp))
    clear h4 g0 g1 g2 g3 I3
    by_cases h0 : (Pr.hall h).2 = 0
    · obtain ⟨s, hs⟩ : ∃ s, s = (Pr.hall h).1 := ⟨_, rfl⟩
      have hrl : Pr.hall h = (s, 0) := by rw [hs, ← h0]
      obtain ⟨hok, hlen, x, hp, he⟩ := Pr.hall_parse hrl
      have HP := hd hp
      have HE := hd he
      rw [h0, ← hs]
      clear hs hrl hp he h0 hok
      go_wp2_with fail
      refine (parse_spec w4 s (by omega)).mono ?_
      rintro e w5 ⟨v, rfl, hl, hc⟩
      have C5 : Hid (Chg [] w w5) := hd (C4.out.trans hc (by simp))
      have HG5 := hd (hc.blk HG4.out (by simp))
      rw [HP.out] at hl ⊢
      have hq1 := Pr.rdF_hall (x := x) (by have h8 := Pn.fine_parse s; rw [HP.out] at h8; exact h8) hl
      obtain ⟨qo, qc, rfl, _, _⟩ := hq1.form
      obtain ⟨qn, hqn⟩ : ∃ z, z = (Pr.cbH x).levels.length := ⟨_, rfl⟩
      rw [← hqn] at hq1 ⊢
      have HQ1 := hd hq1
      have HZ : Hid (Pr.zH (Pr.cbH x) = Pr.zH h) := hd (by rw [Pr.zH_cb]; exact HE.out)
      clear hl hc hq1 hqn
      go_upto_region 8 with (fail)
      obtain ⟨w6, hw⟩ : ∃ W, W = w5.alloc (.cells #[.string ⟨x.name.toArray⟩, .int .i64 (x.sx : Nat), .int .i64 (x.sy : Nat), .slice qo qn qc] 26) := ⟨_, rfl⟩
      rw [← hw]
      obtain ⟨Q, hX⟩ : ∃ X, X = w5.heap.size := ⟨_, rfl⟩
      rw [← hX]
      have HQB := newB hw hX
      have C6 := newC hw
      clear hw hX
      have g0 := (C6.out.blk HG5.out (by simp)).cell (i := 0) rfl
      have g1 := (C6.out.blk HG5.out (by simp)).cell (i := 1) rfl
      have g2 := (C6.out.blk HG5.out (by simp)).cell (i := 2) rfl
      have g3 := (C6.out.blk HG5.out (by simp)).cell (i := 3) rfl
      have q0 := HQB.out.cell (i := 0) rfl
      have q1 := HQB.out.cell (i := 1) rfl
      have q2 := HQB.out.cell (i := 2) rfl
      have q3 := HQB.out.cell (i := 3) rfl
      have CC : Hid (Chg [] w w6) := hd (C5.out.trans C6.out (by simp))
      go_wp2_with fail
      refine sameHall_r (hd (Chg.refl [] w6)) (Pr.cbH x) h qo ao qc cap qn n (hd (HQ1.out.keep Pr.kq_lv C6.out)) (hd (HH.out.keep CC.out).hm) (fun w7 h7 => ?_)
      have C7 := hd h7
      clear h7 g0 g1 g2 g3 q0 q1 q2 q3
      rw [decide_eq_true HZ.out]
      go_wp2_with fail
      exact HRR.out w7 (CC.out.trans C7.out (by simp))
    · rcases Pr.hall_err h h0 with h1 | h1
      · rw [h1]
        clear h0 h1
        go_wp2_with fail
        exact HRR.out w4 C4.out
      · rw [h1]
        clear h0 h1
        go_wp2_with fail
        exact HRR.out w4 C4.out
end Go.Proofs.YtglepipfdmphhaaGreatDoor
