/-
  Printer: SameHall of the reference: halls.
-/
import Derived.Test.YtgbooiaedbpenaaDoorPrSb
namespace Go.Proofs.YtgbooiaedbpenaaDoor
set_option linter.unusedVariables false
set_option linter.unusedSimpArgs false
open Go Go.RowKit Go.Shelf
attribute [local irreducible] Go.wpStill
theorem zH_iff (a b : Pr.Hl) : Pr.zH a = Pr.zH b ↔ ((a.name = b.name ∧ a.sx = b.sx ∧ a.sy = b.sy) ∧ a.levels.map Pr.zL = b.levels.map Pr.zL) := by
  cases a; cases b
  simp only [Pr.zH, Pr.Hl.mk.injEq]
  constructor
  · rintro ⟨h1, h2, h3, h4⟩
    exact ⟨⟨h1, h2, h3⟩, h4⟩
  · rintro ⟨⟨h1, h2, h3⟩, h4⟩
    exact ⟨h1, h2, h3, h4⟩
set_option maxHeartbeats 4000000 in
set_option maxRecDepth 100000 in
theorem sameHall_r {w0 w : World} (HQ : Hid (Chg [] w0 w)) (a b : Pr.Hl) (p1 p2 : Option Addr) (k1 k2 n1 n2 : Nat) (H1 : Hid (RdS 8 Pr.RLv w0 (.slice p1 n1 k1) a.levels)) (H2 : Hid (RdS 8 Pr.RLv w0 (.slice p2 n2 k2) b.levels)) {R : Ending → World → Prop}
    (h : ∀ w', Chg [] w w' → R (.returned (.bool (decide (Pr.zH a = Pr.zH b)))) w') : Calls Tryd.prog 16 #[.agg #[.string ⟨a.name.toArray⟩, .int .i64 a.sx, .int .i64 a.sy, .slice p1 n1 k1], .agg #[.string ⟨b.name.toArray⟩, .int .i64 b.sx, .int .i64 b.sy, .slice p2 n2 k2]] w R := by
  have HRR := hd h
  clear h
  obtain ⟨hk1, hr1, hn1⟩ := H1.out.cp
  obtain ⟨hk2, hr2, hn2⟩ := H2.out.cp
  have HN1 := hd hn1
  have HN2 := hd hn2
  clear hn1 hn2
  go_enter Tryd.func16, Tryd.ntmps16
  go_upto_region 1 with (fail)
  obtain ⟨wa, hwa⟩ : ∃ W, W = w.alloc (.cells #[.string ⟨a.name.toArray⟩, .int .i64 a.sx, .int .i64 a.sy, .slice p1 n1 k1] 26) := ⟨_, rfl⟩
  rw [← hwa]
  obtain ⟨w1, hw1⟩ : ∃ W, W = wa.alloc (.cells #[.string ⟨b.name.toArray⟩, .int .i64 b.sx, .int .i64 b.sy, .slice p2 n2 k2] 26) := ⟨_, rfl⟩
  rw [← hw1]
  obtain ⟨Y, hY⟩ : ∃ X, X = w.heap.size + 1 := ⟨_, rfl⟩
  rw [← hY]
  obtain ⟨X, hX⟩ : ∃ X, X = w.heap.size := ⟨_, rfl⟩
  rw [← hX]
  have HX0 : Hid (Blk w1 X [.string ⟨a.name.toArray⟩, .int .i64 a.sx, .int .i64 a.sy, .slice p1 n1 k1] 26) := hd (by rw [hw1, hwa, hX]; exact (Blk.new w [.string ⟨a.name.toArray⟩, .int .i64 a.sx, .int .i64 a.sy, .slice p1 n1 k1] _).alloc _)
  have HY0 : Hid (Blk w1 Y [.string ⟨b.name.toArray⟩, .int .i64 b.sx, .int .i64 b.sy, .slice p2 n2 k2] 26) := hd (by have h9 := Blk.new wa [.string ⟨b.name.toArray⟩, .int .i64 b.sx, .int .i64 b.sy, .slice p2 n2 k2] 26; rw [show wa.heap.size = Y by rw [hwa, hY]; simp] at h9; rw [hw1]; exact h9)
  have C1 : Hid (Chg [] w w1) := hd (by rw [hw1, hwa]; exact ((Chg.refl _ _).alloc _).alloc _)
  have HQ1 : Hid (Chg [] w0 w1) := hd (HQ.out.trans C1.out (by simp))
  clear hwa hw1 hX hY
  have x0 := HX0.out.cell (i := 0) rfl
  have x1 := HX0.out.cell (i := 1) rfl
  have x2 := HX0.out.cell (i := 2) rfl
  have x3 := HX0.out.cell (i := 3) rfl
  have y0 := HY0.out.cell (i := 0) rfl
  have y1 := HY0.out.cell (i := 1) rfl
  have y2 := HY0.out.cell (i := 2) rfl
  have y3 := HY0.out.cell (i := 3) rfl
  obtain ⟨qq, hqq⟩ : ∃ z, z = decide (a.name = b.name ∧ a.sx = b.sx ∧ a.sy = b.sy ∧ n1 = n2) := ⟨_, rfl⟩
  have HQQ := hd hqq
  clear hqq
  go_cut [26] (fun s wx => wx = w1 ∧ s = .bool (!qq))
  case first =>
    by_cases hn : a.name = b.name
    · skip
      have En := hd hn
      have en : (a.name == b.name) = true := by rw [En.out]; exact beq_self_eq_true _
      have fn : (a.name != b.name) = false := by rw [En.out]; simp
      clear hn
      by_cases hx : a.sx = b.sx
      · skip
        have Ex := hd hx
        have ex : (a.sx == b.sx) = true := by rw [Ex.out]; exact beq_self_eq_true _
        have fx : (a.sx != b.sx) = false := by rw [Ex.out]; simp
        clear hx
        by_cases hy : a.sy = b.sy
        · skip
          have Ey := hd hy
          have ey : (a.sy == b.sy) = true := by rw [Ey.out]; exact beq_self_eq_true _
          have fy : (a.sy != b.sy) = false := by rw [Ey.out]; simp
          clear hy
          by_cases hl : n1 = n2
          · skip
            have El := hd hl
            have el : ((n1 : Int) == (n2 : Int)) = true := by rw [hl]; exact beq_self_eq_true _
            have fl : ((n1 : Int) != (n2 : Int)) = false := by rw [hl]; simp
            clear hl
            go_wp2_with fail
            go_meet
            exact ⟨rfl, by rw [HQQ.out, decide_eq_true ⟨En.out, Ex.out, Ey.out, El.out⟩]; rfl⟩
          · skip
            have el : ((n1 : Int) == (n2 : Int)) = false := by rw [beq_eq_false_iff_ne]; omega
            have fl : ((n1 : Int) != (n2 : Int)) = true := by simp; omega
            go_wp2_with fail
            go_meet
            exact ⟨rfl, by rw [HQQ.out, decide_eq_false (fun e => hl e.2.2.2)]; rfl⟩
        · skip
          have ey : (a.sy == b.sy) = false := by rw [beq_eq_false_iff_ne]; exact hy
          have fy : (a.sy != b.sy) = true := by simp [hy]
          go_wp2_with fail
          go_meet
          exact ⟨rfl, by rw [HQQ.out, decide_eq_false (fun e => hy e.2.2.1)]; rfl⟩
      · skip
        have ex : (a.sx == b.sx) = false := by rw [beq_eq_false_iff_ne]; exact hx
        have fx : (a.sx != b.sx) = true := by simp [hx]
        go_wp2_with fail
        go_meet
        exact ⟨rfl, by rw [HQQ.out, decide_eq_false (fun e => hx e.2.1)]; rfl⟩
    · skip
      have en : (a.name == b.name) = false := by rw [beq_eq_false_iff_ne]; exact hn
      have fn : (a.name != b.name) = true := by simp [hn]
      go_wp2_with fail
      go_meet
      exact ⟨rfl, by rw [HQQ.out, decide_eq_false (fun e => hn e.1)]; rfl⟩
  case rest =>
    obtain ⟨hw, hs⟩ := hcut
    subst hs
    rw [hw]
    clear x0 x1 x2 x3 y0 y1 y2 y3 hw
    cases qq with
    | false =>
      have HNE := hd (of_decide_eq_false HQQ.out.symm)
      go_wp2_with fail
      have h9 := HRR.out w1 C1.out
      rw [decide_eq_false (fun e => HNE.out (by
        obtain ⟨⟨e1, e2, e3⟩, e4⟩ := (zH_iff a b).1 e
        have l5 := congrArg List.length e4
        rw [List.length_map, List.length_map, HN1.out, HN2.out] at l5
        exact ⟨e1, e2, e3, l5⟩))] at h9
      exact h9
    | true =>
      have hee := of_decide_eq_true HQQ.out.symm
      have HEE := hd (And.intro hee.1 (And.intro hee.2.1 hee.2.2.1))
      have g0 : n1 = n2 := hee.2.2.2
      subst g0
      obtain ⟨n, hn⟩ : ∃ z, z = n1 := ⟨_, rfl⟩
      rw [← hn] at H1 H2 HN1 HN2 hk1 hk2 hr1 HX0 HY0 ⊢
      clear hn hee HQQ
      go_wp2_with fail
      go_loopw [5] (fun i0 wr => ∃ j : Nat, i0 = .int .i64 (j : Int) ∧ j ≤ n ∧ Hid (Chg [] w1 wr) ∧ Hid ((a.levels.map Pr.zL).take j = (b.levels.map Pr.zL).take j)) (fun i0 _ => n - intN i0)
      case atStart => exact ⟨0, rfl, Nat.zero_le _, hd (Chg.refl _ _), hd rfl⟩
      case round =>
        obtain ⟨j, rfl, hj, HC, HT⟩ := hrel
        have x3 := (HC.out.blk HX0.out (by simp)).cell (i := 3) rfl
        have y3 := (HC.out.blk HY0.out (by simp)).cell (i := 3) rfl
        by_cases hlt : j < n
        · skip
          have q0 : (0 : Int) ≤ (j : Int) := by omega
          have q1 : (j : Int) < (n : Int) := by omega
          have q2 : (j : Int) ≤ (k1 : Int) := by omega
          have q3 : (j : Int) ≤ (k2 : Int) := by omega
          have HQR : Hid (Chg [] w0 wr) := hd (HQ1.out.trans HC.out (by simp))
          obtain ⟨x, g1, og1, csg1, hxx, hag1, -, ⟨u11, u12, u13, u14, u15, hcsg1, -, d11, d12, d13, d14, d15, -⟩, hccg1⟩ := H1.out.at_ HQR.out (j := j) (by rw [HN1.out]; exact hlt)
          subst hag1
          obtain ⟨p11, k11, rfl, _, _⟩ := d11.form
          obtain ⟨p12, k12, rfl, _, _⟩ := d12.form
          obtain ⟨p13, k13, rfl, _, _⟩ := d13.form
          obtain ⟨p14, k14, rfl, _, _⟩ := d14.form
          obtain ⟨p15, k15, rfl, _, _⟩ := d15.form
          obtain ⟨y, g2, og2, csg2, hxy, hag2, -, ⟨u21, u22, u23, u24, u25, hcsg2, -, d21, d22, d23, d24, d25, -⟩, hccg2⟩ := H2.out.at_ HQR.out (j := j) (by rw [HN2.out]; exact hlt)
          subst hag2
          obtain ⟨p21, k21, rfl, _, _⟩ := d21.form
          obtain ⟨p22, k22, rfl, _, _⟩ := d22.form
          obtain ⟨p23, k23, rfl, _, _⟩ := d23.form
          obtain ⟨p24, k24, rfl, _, _⟩ := d24.form
          obtain ⟨p25, k25, rfl, _, _⟩ := d25.form
          have e0 : wr.cell? ⟨g1, og1 + j * 8, none⟩ = some (.string ⟨x.name.toArray⟩) := by have h9 := hccg1 0 _ (by rw [hcsg1]; rfl); simpa [Pr.iv, Pr.sv] using h9
          have e1 : wr.cell? ⟨g1, og1 + j * 8 + 1, none⟩ = some (.int .i64 x.height) := by have h9 := hccg1 1 _ (by rw [hcsg1]; rfl); simpa [Pr.iv, Pr.sv] using h9
          have e2 : wr.cell? ⟨g1, og1 + j * 8 + 2, none⟩ = some (.slice p11 x.blocks.length k11) := by have h9 := hccg1 2 _ (by rw [hcsg1]; rfl); simpa [Pr.iv, Pr.sv] using h9
          have e3 : wr.cell? ⟨g1, og1 + j * 8 + 3, none⟩ = some (.slice p12 x.areas.length k12) := by have h9 := hccg1 3 _ (by rw [hcsg1]; rfl); simpa [Pr.iv, Pr.sv] using h9
          have e4 : wr.cell? ⟨g1, og1 + j * 8 + 4, none⟩ = some (.slice p13 x.aisles.length k13) := by have h9 := hccg1 4 _ (by rw [hcsg1]; rfl); simpa [Pr.iv, Pr.sv] using h9
          have e5 : wr.cell? ⟨g1, og1 + j * 8 + 5, none⟩ = some (.slice p14 x.pillars.length k14) := by have h9 := hccg1 5 _ (by rw [hcsg1]; rfl); simpa [Pr.iv, Pr.sv] using h9
          have e6 : wr.cell? ⟨g1, og1 + j * 8 + 6, none⟩ = some (.slice p15 x.doors.length k15) := by have h9 := hccg1 6 _ (by rw [hcsg1]; rfl); simpa [Pr.iv, Pr.sv] using h9
          have e7 : wr.cell? ⟨g1, og1 + j * 8 + 7, none⟩ = some (.int .i64 x.at_) := by have h9 := hccg1 7 _ (by rw [hcsg1]; rfl); simpa [Pr.iv, Pr.sv] using h9
          have f0 : wr.cell? ⟨g2, og2 + j * 8, none⟩ = some (.string ⟨y.name.toArray⟩) := by have h9 := hccg2 0 _ (by rw [hcsg2]; rfl); simpa [Pr.iv, Pr.sv] using h9
          have f1 : wr.cell? ⟨g2, og2 + j * 8 + 1, none⟩ = some (.int .i64 y.height) := by have h9 := hccg2 1 _ (by rw [hcsg2]; rfl); simpa [Pr.iv, Pr.sv] using h9
          have f2 : wr.cell? ⟨g2, og2 + j * 8 + 2, none⟩ = some (.slice p21 y.blocks.length k21) := by have h9 := hccg2 2 _ (by rw [hcsg2]; rfl); simpa [Pr.iv, Pr.sv] using h9
          have f3 : wr.cell? ⟨g2, og2 + j * 8 + 3, none⟩ = some (.slice p22 y.areas.length k22) := by have h9 := hccg2 3 _ (by rw [hcsg2]; rfl); simpa [Pr.iv, Pr.sv] using h9
          have f4 : wr.cell? ⟨g2, og2 + j * 8 + 4, none⟩ = some (.slice p23 y.aisles.length k23) := by have h9 := hccg2 4 _ (by rw [hcsg2]; rfl); simpa [Pr.iv, Pr.sv] using h9
          have f5 : wr.cell? ⟨g2, og2 + j * 8 + 5, none⟩ = some (.slice p24 y.pillars.length k24) := by have h9 := hccg2 5 _ (by rw [hcsg2]; rfl); simpa [Pr.iv, Pr.sv] using h9
          have f6 : wr.cell? ⟨g2, og2 + j * 8 + 6, none⟩ = some (.slice p25 y.doors.length k25) := by have h9 := hccg2 6 _ (by rw [hcsg2]; rfl); simpa [Pr.iv, Pr.sv] using h9
          have f7 : wr.cell? ⟨g2, og2 + j * 8 + 7, none⟩ = some (.int .i64 y.at_) := by have h9 := hccg2 7 _ (by rw [hcsg2]; rfl); simpa [Pr.iv, Pr.sv] using h9
          have HLX := hd (LvR.mk d11 d12 d13 d14 d15)
          have HLY := hd (LvR.mk d21 d22 d23 d24 d25)
          have HX := hd hxx
          have HY := hd hxy
          clear hxx hxy hcsg1 hcsg2 hccg1 hccg2 d11 d21 d12 d22 d13 d23 d14 d24 d15 d25
          go_upto_region 6 with (fail)
          refine wp_region_held_drew (S := fun W' => Chg [] wr W') (by kernel_rfl) (Chg.refl _ _).drew (fun hHeld => ?_)
          refine wpAnyH_take (i := 0) (v := ?vz0) rfl (by kernel_rfl) (by kernel_rfl) (by kernel_rfl) (fun _ _ _ h => h) (Or.inl ⟨by kernel_rfl, ?hyz0⟩) (by assumption) ?rsz0
          case hyz0 => (intro w9 hSw; skip; go_simp; try with_reducible rfl)
          try simp only [Act.put, List.setIfInBounds_toArray, List.set_cons_zero, List.set_cons_succ, List.getElem_toArray, List.getElem_cons_succ, List.getElem_cons_zero]
          refine wpAnyH_take (i := 1) (v := ?vz1) rfl (by kernel_rfl) (by kernel_rfl) (by kernel_rfl) (fun _ _ _ h => h) (Or.inl ⟨by kernel_rfl, ?hyz1⟩) (by assumption) ?rsz1
          case hyz1 => (intro w9 hSw; have tx3 := cell_quiet hSw x3 (by simp); go_simp; try with_reducible rfl)
          try simp only [Act.put, List.setIfInBounds_toArray, List.set_cons_zero, List.set_cons_succ, List.getElem_toArray, List.getElem_cons_succ, List.getElem_cons_zero]
          refine wpAnyH_take (i := 2) (v := ?vz2) rfl (by kernel_rfl) (by kernel_rfl) (by kernel_rfl) (fun _ _ _ h => h) (Or.inl ⟨by kernel_rfl, ?hyz2⟩) (by assumption) ?rsz2
          case hyz2 => (intro w9 hSw; skip; go_simp; try with_reducible rfl)
          try simp only [Act.put, List.setIfInBounds_toArray, List.set_cons_zero, List.set_cons_succ, List.getElem_toArray, List.getElem_cons_succ, List.getElem_cons_zero]
          refine wpAnyH_take (i := 3) (v := ?vz3) rfl (by kernel_rfl) (by kernel_rfl) (by kernel_rfl) (fun _ _ _ h => h) (Or.inl ⟨by kernel_rfl, ?hyz3⟩) (by assumption) ?rsz3
          case hyz3 => (intro w9 hSw; skip; go_simp; try with_reducible rfl)
          try simp only [Act.put, List.setIfInBounds_toArray, List.set_cons_zero, List.set_cons_succ, List.getElem_toArray, List.getElem_cons_succ, List.getElem_cons_zero]
          refine wpAnyH_take (i := 4) (v := ?vz4) rfl (by kernel_rfl) (by kernel_rfl) (by kernel_rfl) (fun _ _ _ h => h) (Or.inl ⟨by kernel_rfl, ?hyz4⟩) (by assumption) ?rsz4
          case hyz4 => (intro w9 hSw; have te0 := cell_quiet hSw e0 (by simp); have te1 := cell_quiet hSw e1 (by simp); have te2 := cell_quiet hSw e2 (by simp); have te3 := cell_quiet hSw e3 (by simp); have te4 := cell_quiet hSw e4 (by simp); have te5 := cell_quiet hSw e5 (by simp); have te6 := cell_quiet hSw e6 (by simp); have te7 := cell_quiet hSw e7 (by simp); go_simp; try with_reducible rfl)
          try simp only [Act.put, List.setIfInBounds_toArray, List.set_cons_zero, List.set_cons_succ, List.getElem_toArray, List.getElem_cons_succ, List.getElem_cons_zero]
          refine wpAnyH_take (i := 5) (v := ?vz5) rfl (by kernel_rfl) (by kernel_rfl) (by kernel_rfl) (fun _ _ _ h => h) (Or.inl ⟨by kernel_rfl, ?hyz5⟩) (by assumption) ?rsz5
          case hyz5 => (intro w9 hSw; skip; go_simp; try with_reducible rfl)
          try simp only [Act.put, List.setIfInBounds_toArray, List.set_cons_zero, List.set_cons_succ, List.getElem_toArray, List.getElem_cons_succ, List.getElem_cons_zero]
          refine wpAnyH_take (i := 6) (v := ?vz6) rfl (by kernel_rfl) (by kernel_rfl) (by kernel_rfl) (fun _ _ _ h => h) (Or.inl ⟨by kernel_rfl, ?hyz6⟩) (by assumption) ?rsz6
          case hyz6 => (intro w9 hSw; have ty3 := cell_quiet hSw y3 (by simp); go_simp; try with_reducible rfl)
          try simp only [Act.put, List.setIfInBounds_toArray, List.set_cons_zero, List.set_cons_succ, List.getElem_toArray, List.getElem_cons_succ, List.getElem_cons_zero]
          refine wpAnyH_take (i := 7) (v := ?vz7) rfl (by kernel_rfl) (by kernel_rfl) (by kernel_rfl) (fun _ _ _ h => h) (Or.inl ⟨by kernel_rfl, ?hyz7⟩) (by assumption) ?rsz7
          case hyz7 => (intro w9 hSw; skip; go_simp; try with_reducible rfl)
          try simp only [Act.put, List.setIfInBounds_toArray, List.set_cons_zero, List.set_cons_succ, List.getElem_toArray, List.getElem_cons_succ, List.getElem_cons_zero]
          refine wpAnyH_take (i := 8) (v := ?vz8) rfl (by kernel_rfl) (by kernel_rfl) (by kernel_rfl) (fun _ _ _ h => h) (Or.inl ⟨by kernel_rfl, ?hyz8⟩) (by assumption) ?rsz8
          case hyz8 => (intro w9 hSw; skip; go_simp; try with_reducible rfl)
          try simp only [Act.put, List.setIfInBounds_toArray, List.set_cons_zero, List.set_cons_succ, List.getElem_toArray, List.getElem_cons_succ, List.getElem_cons_zero]
          refine wpAnyH_take (i := 9) (v := ?vz9) rfl (by kernel_rfl) (by kernel_rfl) (by kernel_rfl) (fun _ _ _ h => h) (Or.inl ⟨by kernel_rfl, ?hyz9⟩) (by assumption) ?rsz9
          case hyz9 => (intro w9 hSw; have tf0 := cell_quiet hSw f0 (by simp); have tf1 := cell_quiet hSw f1 (by simp); have tf2 := cell_quiet hSw f2 (by simp); have tf3 := cell_quiet hSw f3 (by simp); have tf4 := cell_quiet hSw f4 (by simp); have tf5 := cell_quiet hSw f5 (by simp); have tf6 := cell_quiet hSw f6 (by simp); have tf7 := cell_quiet hSw f7 (by simp); go_simp; try with_reducible rfl)
          try simp only [Act.put, List.setIfInBounds_toArray, List.set_cons_zero, List.set_cons_succ, List.getElem_toArray, List.getElem_cons_succ, List.getElem_cons_zero]
          refine wpAnyH_ready (rs := [10]) (by kernel_rfl) (by simp) (AllReadyH.cons rfl (fun K hK => ?_) AllReadyH.nil)
          go_simp
          refine sameLevel_r (hd (HQR.out.trans hHeld (by simp))) x y p11 p12 p13 p14 p15 p21 p22 p23 p24 p25 _ _ _ _ _ k11 k12 k13 k14 k15 _ _ _ _ _ k21 k22 k23 k24 k25 HLX HLY (fun wy hcx => ?_)
          refine hK.out _ _ (hHeld.trans hcx (by simp)) (fun hHeld => ?_)
          clear hK K
          try simp only [Act.put, List.setIfInBounds_toArray, List.set_cons_zero, List.set_cons_succ, List.getElem_toArray, List.getElem_cons_succ, List.getElem_cons_zero]
          refine wpAnyH_take (i := 11) (v := ?vz11) rfl (by kernel_rfl) (by kernel_rfl) (by kernel_rfl) (fun _ _ _ h => h) (Or.inl ⟨by kernel_rfl, ?hyz11⟩) (by assumption) ?rsz11
          case hyz11 => (intro w9 hSw; skip; go_simp; try with_reducible rfl)
          try simp only [Act.put, List.setIfInBounds_toArray, List.set_cons_zero, List.set_cons_succ, List.getElem_toArray, List.getElem_cons_succ, List.getElem_cons_zero]
          refine wpAnyH_done (by kernel_rfl) ?_ _
          try simp only [Act.put, List.setIfInBounds_toArray, List.set_cons_zero, List.set_cons_succ, List.getElem_toArray, List.getElem_cons_succ, List.getElem_cons_zero]
          have HH := hd hHeld
          clear hHeld hcx
          have HPY : Hid (Chg [] w1 wy) := hd (HC.out.trans HH.out (by simp))
          clear e0 f0 e1 f1 e2 f2 e3 f3 e4 f4 e5 f5 e6 f6 e7 f7
          by_cases hrs : Pr.zL x = Pr.zL y
          · skip
            have HRS := hd hrs
            rw [decide_eq_true hrs]
            clear hrs
            go_wp2_with fail
            go_roundw
            case rel => first | exact ⟨j + 1, vint (by omega), by omega, HPY, hd (tk_step HT.out (map_at _ HX.out) (by rw [HRS.out]; exact map_at _ HY.out))⟩ | ((repeat apply Exists.intro); exact ⟨⟨j + 1, vint (by omega), by omega, HPY, hd (tk_step HT.out (map_at _ HX.out) (by rw [HRS.out]; exact map_at _ HY.out))⟩, rfl⟩)
            case measure => simp [intN]; omega
          · skip
            have HNR := hd hrs
            rw [decide_eq_false hrs]
            clear hrs
            go_wp2_with fail
            have h9 := HRR.out wy (C1.out.trans HPY.out (by simp))
            rw [decide_eq_false (fun e => tk_ne (map_at Pr.zL HX.out) (map_at Pr.zL HY.out) HNR.out ((zH_iff a b).1 e).2)] at h9
            exact h9
        · skip
          have q1 : ¬ (j : Int) < (n : Int) := by omega
          have HE : Hid (a.levels.map Pr.zL = b.levels.map Pr.zL) := hd (tk_end HT.out (by rw [List.length_map, HN1.out]; omega) (by rw [List.length_map, HN2.out]; omega))
          go_wp2_with fail
          have h9 := HRR.out wr (C1.out.trans HC.out (by simp))
          rw [decide_eq_true ((zH_iff a b).2 ⟨HEE.out, HE.out⟩)] at h9
          exact h9
end Go.Proofs.YtgbooiaedbpenaaDoor
