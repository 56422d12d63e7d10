/-
  The law PrinterEqual, walked.
-/
import Derived.Test.YtgbooiaedbpenaaDoorLwPrLi
import Derived.Test.YtgbooiaedbpenaaDoorPrSc
import Derived.Test.YtgbooiaedbpenaaDoorPrSd
import Derived.Deep.DeepCutAuto
namespace Go.Proofs.YtgbooiaedbpenaaDoor
set_option linter.unusedVariables false
set_option linter.unusedSimpArgs false
open Go Go.RowKit Go.Shelf
attribute [local irreducible] Go.wpStill

set_option maxHeartbeats 4000000 in
set_option maxRecDepth 100000 in
theorem printerEqual_walk (w : World) (HL : Hid (Laid w)) (a : Pr.Hl) (p1 : Option Addr) (k1 n1 : Nat) (HA : Hid (InH w a p1 k1 n1)) (b : Pr.Hl) (p2 : Option Addr) (k2 n2 : Nat) (HB : Hid (InH w b p2 k2 n2)) (r : List Pr.Itm) (p3 : Option Addr) (k3 n3 : Nat) (HR : Hid (InR w r p3 k3 n3)) (q : List Pr.Itm) (p4 : Option Addr) (k4 n4 : Nat) (HS : Hid (InR w q p4 k4 n4)) :
    Calls Tryd.prog 6 #[.agg #[.string ⟨a.name.toArray⟩, .int .i64 a.sx, .int .i64 a.sy, .slice p1 n1 k1], .agg #[.string ⟨b.name.toArray⟩, .int .i64 b.sx, .int .i64 b.sy, .slice p2 n2 k2], .agg #[.slice p3 n3 k3], .agg #[.slice p4 n4 k4]] w fun e w' => e = .returned (.bool true) ∧ Chg [] w w' := by
  suffices H : ∀ {R : Ending → World → Prop}, (∀ w', Chg [] w w' → R (.returned (.bool true)) w') → Calls Tryd.prog 6 #[.agg #[.string ⟨a.name.toArray⟩, .int .i64 a.sx, .int .i64 a.sy, .slice p1 n1 k1], .agg #[.string ⟨b.name.toArray⟩, .int .i64 b.sx, .int .i64 b.sy, .slice p2 n2 k2], .agg #[.slice p3 n3 k3], .agg #[.slice p4 n4 k4]] w R from H (fun w' hc => ⟨rfl, hc⟩)
  intro R hR
  have HRR := hd hR
  clear hR
  go_enter Tryd.func6, Tryd.ntmps6
  go_upto_region 1 with (fail)
  obtain ⟨A0, hA0⟩ : ∃ T, T = w.heap.size := ⟨_, rfl⟩
  obtain ⟨A1, hA1⟩ : ∃ T, T = w.heap.size + 1 := ⟨_, rfl⟩
  obtain ⟨R0, hR0⟩ : ∃ T, T = w.heap.size + 2 := ⟨_, rfl⟩
  obtain ⟨R1, hR1⟩ : ∃ T, T = w.heap.size + 3 := ⟨_, rfl⟩
  try rw [← hR1]
  try rw [← hR0]
  try rw [← hA1]
  try rw [← hA0]
  have hz0 : w.heap.size = w.heap.size + 0 := rfl
  have C1 : Hid (Chg [] w w) := hd (Chg.refl _ _)
  obtain ⟨w1_0, hu⟩ : ∃ W, W = w.alloc (.cells #[.string ⟨a.name.toArray⟩, .int .i64 a.sx, .int .i64 a.sy, .slice p1 n1 k1] 26) := ⟨_, rfl⟩
  rw [← hu]
  have hz1 : w1_0.heap.size = w.heap.size + 1 := by rw [hu]; simp <;> omega
  have HA0 : Hid (Blk w1_0 A0 [.string ⟨a.name.toArray⟩, .int .i64 a.sx, .int .i64 a.sy, .slice p1 n1 k1] 26) := hd (by have h9 : Blk (w.alloc (.cells #[.string ⟨a.name.toArray⟩, .int .i64 a.sx, .int .i64 a.sy, .slice p1 n1 k1] 26)) w.heap.size [.string ⟨a.name.toArray⟩, .int .i64 a.sx, .int .i64 a.sy, .slice p1 n1 k1] 26 := Blk.new _ _ _; rw [← hu, show w.heap.size = A0 by omega] at h9; exact h9)
  have C1 : Hid (Chg [] w w1_0) := hd (by rw [hu]; exact C1.out.alloc _)
  clear hu
  obtain ⟨w1_1, hu⟩ : ∃ W, W = w1_0.alloc (.cells #[.string ⟨b.name.toArray⟩, .int .i64 b.sx, .int .i64 b.sy, .slice p2 n2 k2] 26) := ⟨_, rfl⟩
  rw [← hu]
  have hz2 : w1_1.heap.size = w.heap.size + 2 := by rw [hu]; simp <;> omega
  have HA0 := hd (HA0.out.alloc (.cells #[.string ⟨b.name.toArray⟩, .int .i64 b.sx, .int .i64 b.sy, .slice p2 n2 k2] 26))
  rw [← hu] at HA0
  have HA1 : Hid (Blk w1_1 A1 [.string ⟨b.name.toArray⟩, .int .i64 b.sx, .int .i64 b.sy, .slice p2 n2 k2] 26) := hd (by have h9 : Blk (w1_0.alloc (.cells #[.string ⟨b.name.toArray⟩, .int .i64 b.sx, .int .i64 b.sy, .slice p2 n2 k2] 26)) w1_0.heap.size [.string ⟨b.name.toArray⟩, .int .i64 b.sx, .int .i64 b.sy, .slice p2 n2 k2] 26 := Blk.new _ _ _; rw [← hu, show w1_0.heap.size = A1 by omega] at h9; exact h9)
  have C1 : Hid (Chg [] w w1_1) := hd (by rw [hu]; exact C1.out.alloc _)
  clear hu
  obtain ⟨w1_2, hu⟩ : ∃ W, W = w1_1.alloc (.cells #[.slice p3 n3 k3] 29) := ⟨_, rfl⟩
  rw [← hu]
  have hz3 : w1_2.heap.size = w.heap.size + 3 := by rw [hu]; simp <;> omega
  have HA0 := hd (HA0.out.alloc (.cells #[.slice p3 n3 k3] 29))
  rw [← hu] at HA0
  have HA1 := hd (HA1.out.alloc (.cells #[.slice p3 n3 k3] 29))
  rw [← hu] at HA1
  have HR0 : Hid (Blk w1_2 R0 [.slice p3 n3 k3] 29) := hd (by have h9 : Blk (w1_1.alloc (.cells #[.slice p3 n3 k3] 29)) w1_1.heap.size [.slice p3 n3 k3] 29 := Blk.new _ _ _; rw [← hu, show w1_1.heap.size = R0 by omega] at h9; exact h9)
  have C1 : Hid (Chg [] w w1_2) := hd (by rw [hu]; exact C1.out.alloc _)
  clear hu
  obtain ⟨w1, hu⟩ : ∃ W, W = w1_2.alloc (.cells #[.slice p4 n4 k4] 29) := ⟨_, rfl⟩
  rw [← hu]
  have hz4 : w1.heap.size = w.heap.size + 4 := by rw [hu]; simp <;> omega
  have HA0 := hd (HA0.out.alloc (.cells #[.slice p4 n4 k4] 29))
  rw [← hu] at HA0
  have HA1 := hd (HA1.out.alloc (.cells #[.slice p4 n4 k4] 29))
  rw [← hu] at HA1
  have HR0 := hd (HR0.out.alloc (.cells #[.slice p4 n4 k4] 29))
  rw [← hu] at HR0
  have HR1 : Hid (Blk w1 R1 [.slice p4 n4 k4] 29) := hd (by have h9 : Blk (w1_2.alloc (.cells #[.slice p4 n4 k4] 29)) w1_2.heap.size [.slice p4 n4 k4] 29 := Blk.new _ _ _; rw [← hu, show w1_2.heap.size = R1 by omega] at h9; exact h9)
  have C1 : Hid (Chg [] w w1) := hd (by rw [hu]; exact C1.out.alloc _)
  clear hu
  clear hz0 hz1 hz2 hz3 hz4 hA0 hA1 hR0 hR1
  go_wp2_with fail
  refine head_r (hd (HL.out.quiet C1.out)) (fun w2 h2 => ?_)
  have C2 : Hid (Chg [] w1 w2) := hd h2
  clear h2
  go_upto_region 2 with (fail)
  go_cut [36] (fun s36 wx => ∃ q9 : Bool, s36 = .bool q9 ∧ Hid (Chg [] w1 wx) ∧ Hid (q9 = false → ((n1 ≤ 60 ∧ a.name.length ≤ 60 ∧ ∀ l ∈ a.levels, SzL l) ∧ (n2 ≤ 60 ∧ b.name.length ≤ 60 ∧ ∀ l ∈ b.levels, SzL l)) ∧ (n3 ≤ 60 ∧ ∀ x ∈ r, SzI x) ∧ (n4 ≤ 60 ∧ ∀ x ∈ q, SzI x)))
  case first =>
    have g0 := (C2.out.blk HA0.out (by simp)).cell (i := 0) rfl
    have g1 := (C2.out.blk HA0.out (by simp)).cell (i := 1) rfl
    have g2 := (C2.out.blk HA0.out (by simp)).cell (i := 2) rfl
    have g3 := (C2.out.blk HA0.out (by simp)).cell (i := 3) rfl
    have I9 := HA.out.keep (C1.out.trans C2.out (by simp))
    go_wp2_with fail
    refine few_r a p1 k1 n1 (hd I9.hn) (hd I9.hm) I9.hr (fun wf0 q9 h3 hq => ?_)
    have D0 : Hid (Chg [] w1 wf0) := hd (C2.out.trans h3 (by simp))
    have HQ0 := hd hq
    clear h3 hq I9 g0 g1 g2 g3
    cases q9 with
    | false =>
      go_wp2_with fail
      go_meet
      exact ⟨true, rfl, D0, hd (fun e => by cases e)⟩
    | true =>
      have g0 := (D0.out.blk HA1.out (by simp)).cell (i := 0) rfl
      have g1 := (D0.out.blk HA1.out (by simp)).cell (i := 1) rfl
      have g2 := (D0.out.blk HA1.out (by simp)).cell (i := 2) rfl
      have g3 := (D0.out.blk HA1.out (by simp)).cell (i := 3) rfl
      have I9 := HB.out.keep (C1.out.trans D0.out (by simp))
      go_wp2_with fail
      refine few_r b p2 k2 n2 (hd I9.hn) (hd I9.hm) I9.hr (fun wf1 q9 h3 hq => ?_)
      have D1 : Hid (Chg [] w1 wf1) := hd (D0.out.trans h3 (by simp))
      have HQ1 := hd hq
      clear h3 hq I9 g0 g1 g2 g3
      cases q9 with
      | false =>
        go_wp2_with fail
        go_meet
        exact ⟨true, rfl, D1, hd (fun e => by cases e)⟩
      | true =>
        have g0 := (D1.out.blk HR0.out (by simp)).cell (i := 0) rfl
        have I9 := HR.out.keep (C1.out.trans D1.out (by simp))
        go_wp2_with fail
        refine fewRules_r r p3 k3 n3 (hd I9.hn) (hd I9.hm) I9.hr (fun wf2 q9 h3 hq => ?_)
        have D2 : Hid (Chg [] w1 wf2) := hd (D1.out.trans h3 (by simp))
        have HQ2 := hd hq
        clear h3 hq I9 g0
        cases q9 with
        | false =>
          go_wp2_with fail
          go_meet
          exact ⟨true, rfl, D2, hd (fun e => by cases e)⟩
        | true =>
          have g0 := (D2.out.blk HR1.out (by simp)).cell (i := 0) rfl
          have I9 := HS.out.keep (C1.out.trans D2.out (by simp))
          go_wp2_with fail
          refine fewRules_r q p4 k4 n4 (hd I9.hn) (hd I9.hm) I9.hr (fun wf3 q9 h3 hq => ?_)
          have D3 : Hid (Chg [] w1 wf3) := hd (D2.out.trans h3 (by simp))
          have HQ3 := hd hq
          clear h3 hq I9 g0
          cases q9 with
          | false =>
            go_wp2_with fail
            go_meet
            exact ⟨true, rfl, D3, hd (fun e => by cases e)⟩
          | true =>
            go_wp2_with fail
            go_meet
            exact ⟨false, rfl, D3, hd (fun _ => ⟨⟨HQ0.out (by simp), HQ1.out (by simp)⟩, HQ2.out (by simp), HQ3.out (by simp)⟩)⟩
  case rest =>
    obtain ⟨q9, hq, C4, HQ⟩ := hcut
    subst hq
    obtain ⟨w4, hw4⟩ : ∃ z, z = wc := ⟨_, rfl⟩
    rw [← hw4] at C4 ⊢
    clear hw4 C2
    cases q9 with
    | true =>
      go_wp2_with fail
      exact HRR.out w4 (C1.out.trans C4.out (by simp))
    | false =>
      obtain ⟨⟨⟨t1, t2, t3⟩, t4, t5, t6⟩, ⟨t7, t8⟩, t9, t10⟩ := HQ.out (by simp)
      have HT3 := hd t3
      have HT6 := hd t6
      have HT8 := hd t8
      have HT10 := hd t10
      clear t3 t6 t8 t10 HQ
      have g0 := (C4.out.blk HA0.out (by simp)).cell (i := 0) rfl
      have g1 := (C4.out.blk HA0.out (by simp)).cell (i := 1) rfl
      have g2 := (C4.out.blk HA0.out (by simp)).cell (i := 2) rfl
      have g3 := (C4.out.blk HA0.out (by simp)).cell (i := 3) rfl
      have I9 := HA.out.keep (C1.out.trans C4.out (by simp))
      go_wp2_with fail
      clear g0 g1 g2 g3
      refine hall_r (hd (HL.out.quiet (C1.out.trans C4.out (by simp)))) a p1 k1 n1 (hd I9.hn) (hd I9.hm) (hd I9.hi) (by omega) (by omega) HT3 (fun w5 hx => ?_)
      have Cw5 : Hid (Chg [] w1 w5) := hd (C4.out.trans hx (by simp))
      clear hx I9
      obtain ⟨x1, hx1⟩ : ∃ z, z = (Pr.hall a).1 := ⟨_, rfl⟩
      obtain ⟨z1, hz1⟩ : ∃ z, z = (Pr.hall a).2 := ⟨_, rfl⟩
      rw [← hx1, ← hz1]
      have Va : Hid (Pr.hall a = (x1, z1)) := hd (by rw [hx1, hz1])
      clear hx1 hz1
      have g0 := (Cw5.out.blk HA1.out (by simp)).cell (i := 0) rfl
      have g1 := (Cw5.out.blk HA1.out (by simp)).cell (i := 1) rfl
      have g2 := (Cw5.out.blk HA1.out (by simp)).cell (i := 2) rfl
      have g3 := (Cw5.out.blk HA1.out (by simp)).cell (i := 3) rfl
      have I9 := HB.out.keep (C1.out.trans Cw5.out (by simp))
      go_wp2_with fail
      clear g0 g1 g2 g3
      refine hall_r (hd (HL.out.quiet (C1.out.trans Cw5.out (by simp)))) b p2 k2 n2 (hd I9.hn) (hd I9.hm) (hd I9.hi) (by omega) (by omega) HT6 (fun w6 hx => ?_)
      have Cw6 : Hid (Chg [] w1 w6) := hd (Cw5.out.trans hx (by simp))
      clear hx I9
      obtain ⟨x2, hx2⟩ : ∃ z, z = (Pr.hall b).1 := ⟨_, rfl⟩
      obtain ⟨z2, hz2⟩ : ∃ z, z = (Pr.hall b).2 := ⟨_, rfl⟩
      rw [← hx2, ← hz2]
      have Vb : Hid (Pr.hall b = (x2, z2)) := hd (by rw [hx2, hz2])
      clear hx2 hz2
      go_upto_region 6 with (fail)
      go_cut [62] (fun s62 wx => s62 = .bool false ∧ Hid (Chg [] w1 wx))
      case first =>
        by_cases hz1 : z1 = 0
        · by_cases hz2 : z2 = 0
          · subst hz1 hz2
            have g0 := (Cw6.out.blk HA0.out (by simp)).cell (i := 0) rfl
            have g1 := (Cw6.out.blk HA0.out (by simp)).cell (i := 1) rfl
            have g2 := (Cw6.out.blk HA0.out (by simp)).cell (i := 2) rfl
            have g3 := (Cw6.out.blk HA0.out (by simp)).cell (i := 3) rfl
            have j0 := (Cw6.out.blk HA1.out (by simp)).cell (i := 0) rfl
            have j1 := (Cw6.out.blk HA1.out (by simp)).cell (i := 1) rfl
            have j2 := (Cw6.out.blk HA1.out (by simp)).cell (i := 2) rfl
            have j3 := (Cw6.out.blk HA1.out (by simp)).cell (i := 3) rfl
            go_wp2_with fail
            refine sameHall_r (hd (C1.out.trans Cw6.out (by simp))) a b p1 p2 k1 k2 n1 n2 (hd HA.out.hm) (hd HB.out.hm) (fun w7 h7 => ?_)
            have C7 : Hid (Chg [] w1 w7) := hd (Cw6.out.trans h7 (by simp))
            clear h7 g0 g1 g2 g3 j0 j1 j2 j3
            have HEQ : Hid (x1 = x2 ↔ Pr.zH a = Pr.zH b) := hd (Pr.hall_equal Va.out Vb.out)
            by_cases hz : Pr.zH a = Pr.zH b
            · have e9 : (x1 == x2) = true := by rw [HEQ.out.2 hz]; exact beq_self_eq_true _
              rw [decide_eq_true hz]
              clear hz
              go_wp2_with fail
              go_meet
              first | exact ⟨rfl, C7⟩ | exact ⟨by rw [e9]; rfl, C7⟩
            · have e9 : (x1 == x2) = false := by rw [beq_eq_false_iff_ne]; exact fun e => hz (HEQ.out.1 e)
              have e8 : ¬ x1 = x2 := fun e => hz (HEQ.out.1 e)
              rw [decide_eq_false hz]
              clear hz
              go_wp2_with fail
              go_meet
              first | exact ⟨rfl, C7⟩ | exact ⟨by rw [e9]; rfl, C7⟩
          · skip
            subst hz1
            have ez2 : ¬ (z2 : Int) = 0 := by omega
            have fz2 : ((z2 : Int) == 0) = false := by rw [beq_eq_false_iff_ne]; exact ez2
            have gz2 : ((z2 : Int) != 0) = true := by simp; omega
            go_wp2_with fail
            go_meet
            exact ⟨rfl, Cw6⟩
        · skip
          have ez1 : ¬ (z1 : Int) = 0 := by omega
          have fz1 : ((z1 : Int) == 0) = false := by rw [beq_eq_false_iff_ne]; exact ez1
          have gz1 : ((z1 : Int) != 0) = true := by simp; omega
          go_wp2_with fail
          go_meet
          exact ⟨rfl, Cw6⟩
      case rest =>
        obtain ⟨hs, C7⟩ := hcut
        subst hs
        obtain ⟨w7, hw7⟩ : ∃ z, z = wc := ⟨_, rfl⟩
        rw [← hw7] at C7 ⊢
        clear hw7 Va Vb Cw5 Cw6
        go_upto_region 8 with (fail)
        have g0 := (C7.out.blk HR0.out (by simp)).cell (i := 0) rfl
        have I9 := HR.out.keep (C1.out.trans C7.out (by simp))
        go_wp2_with fail
        clear g0
        refine rules_r (hd (HL.out.quiet (C1.out.trans C7.out (by simp)))) r p3 k3 n3 (hd I9.hn) (hd I9.hm) (by omega) HT8 (fun w8 hx => ?_)
        have Cw8 : Hid (Chg [] w1 w8) := hd (C7.out.trans hx (by simp))
        clear hx I9
        obtain ⟨x3, hx3⟩ : ∃ z, z = (Pr.rules r).1 := ⟨_, rfl⟩
        obtain ⟨z3, hz3⟩ : ∃ z, z = (Pr.rules r).2 := ⟨_, rfl⟩
        rw [← hx3, ← hz3]
        have Vr : Hid (Pr.rules r = (x3, z3)) := hd (by rw [hx3, hz3])
        clear hx3 hz3
        have g0 := (Cw8.out.blk HR1.out (by simp)).cell (i := 0) rfl
        have I9 := HS.out.keep (C1.out.trans Cw8.out (by simp))
        go_wp2_with fail
        clear g0
        refine rules_r (hd (HL.out.quiet (C1.out.trans Cw8.out (by simp)))) q p4 k4 n4 (hd I9.hn) (hd I9.hm) (by omega) HT10 (fun w9 hx => ?_)
        have Cw9 : Hid (Chg [] w1 w9) := hd (Cw8.out.trans hx (by simp))
        clear hx I9
        obtain ⟨x4, hx4⟩ : ∃ z, z = (Pr.rules q).1 := ⟨_, rfl⟩
        obtain ⟨z4, hz4⟩ : ∃ z, z = (Pr.rules q).2 := ⟨_, rfl⟩
        rw [← hx4, ← hz4]
        have Vq : Hid (Pr.rules q = (x4, z4)) := hd (by rw [hx4, hz4])
        clear hx4 hz4
        go_upto_region 10 with (fail)
        by_cases hz3 : z3 = 0
        · by_cases hz4 : z4 = 0
          · subst hz3 hz4
            have g0 := (Cw9.out.blk HR0.out (by simp)).cell (i := 0) rfl
            have j0 := (Cw9.out.blk HR1.out (by simp)).cell (i := 0) rfl
            go_wp2_with fail
            refine sameRules_r (hd (C1.out.trans Cw9.out (by simp))) r q p3 p4 k3 k4 n3 n4 (hd HR.out.hm) (hd HS.out.hm) (fun w10 h7 => ?_)
            have C10 : Hid (Chg [] w1 w10) := hd (Cw9.out.trans h7 (by simp))
            clear h7 g0 j0
            have HEQ : Hid (x3 = x4 ↔ r.map Pr.zI = q.map Pr.zI) := hd (Pr.rules_equal Vr.out Vq.out)
            have FIN := hd (HRR.out w10 (C1.out.trans C10.out (by simp)))
            by_cases hz : r.map Pr.zI = q.map Pr.zI
            · have e9 : (x3 == x4) = true := by rw [HEQ.out.2 hz]; exact beq_self_eq_true _
              rw [decide_eq_true hz]
              clear hz
              go_wp2_with fail
              first | exact FIN.out | (rw [e9]; exact FIN.out)
            · have e9 : (x3 == x4) = false := by rw [beq_eq_false_iff_ne]; exact fun e => hz (HEQ.out.1 e)
              have e8 : ¬ x3 = x4 := fun e => hz (HEQ.out.1 e)
              rw [decide_eq_false hz]
              clear hz
              go_wp2_with fail
              first | exact FIN.out | (rw [e9]; exact FIN.out)
          · skip
            subst hz3
            have ez4 : ¬ (z4 : Int) = 0 := by omega
            have fz4 : ((z4 : Int) == 0) = false := by rw [beq_eq_false_iff_ne]; exact ez4
            have gz4 : ((z4 : Int) != 0) = true := by simp; omega
            go_wp2_with fail
            exact HRR.out w9 (C1.out.trans Cw9.out (by simp))
        · skip
          have ez3 : ¬ (z3 : Int) = 0 := by omega
          have fz3 : ((z3 : Int) == 0) = false := by rw [beq_eq_false_iff_ne]; exact ez3
          have gz3 : ((z3 : Int) != 0) = true := by simp; omega
          go_wp2_with fail
          exact HRR.out w9 (C1.out.trans Cw9.out (by simp))
end Go.Proofs.YtgbooiaedbpenaaDoor
