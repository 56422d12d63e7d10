/-
  Printer: SameHall of the reference: rectangles, rows.
-/
import Derived.Test.YtgbooiaedbpenaaDoorPrN
import Derived.Test.YtgbooiaedbpenaaDoorPrS
import Derived.Deep.DeepCutAuto
namespace Go.Proofs.YtgbooiaedbpenaaDoor
set_option linter.unusedVariables false
set_option linter.unusedSimpArgs false
open Go Go.RowKit Go.Shelf
attribute [local irreducible] Go.wpStill
theorem tk_step {α : Type} {l m : List α} {j : Nat} {x : α} (h : l.take j = m.take j) (h1 : l[j]? = some x) (h2 : m[j]? = some x) : l.take (j + 1) = m.take (j + 1) := by
  obtain ⟨a1, e1⟩ := List.getElem?_eq_some_iff.1 h1
  obtain ⟨a2, e2⟩ := List.getElem?_eq_some_iff.1 h2
  rw [List.take_succ_eq_append_getElem a1, List.take_succ_eq_append_getElem a2, h, e1, e2]
theorem tk_ne {α : Type} {l m : List α} {j : Nat} {x y : α} (h1 : l[j]? = some x) (h2 : m[j]? = some y) (hn : x ≠ y) : l ≠ m := by
  intro e
  rw [e, h2] at h1
  cases h1
  exact hn rfl
theorem tk_end {α : Type} {l m : List α} {j : Nat} (h : l.take j = m.take j) (h1 : l.length ≤ j) (h2 : m.length ≤ j) : l = m := by rwa [List.take_of_length_le h1, List.take_of_length_le h2] at h
theorem len_ne {α : Type} {l m : List α} (h : l.length ≠ m.length) : l ≠ m := fun e => h (by rw [e])
/-- Two lists that can be read, at the same place. -/
theorem RdS.at_ {α : Type} {C : Nat} {R : World → List Value → α → Prop} {w0 w : World} {ao : Option Addr} {n cap : Nat} {l : List α} (h : RdS C R w0 (.slice ao n cap) l) (hc : Chg [] w0 w) {j : Nat} (hj : j < l.length) :
    ∃ x b off cs, l[j]? = some x ∧ ao = some ⟨b, off, none⟩ ∧ cs.length = C ∧ R w0 cs x ∧ ∀ (k : Nat) (c : Value), cs[k]? = some c → w.cell? ⟨b, off + j * C + k, none⟩ = some c := by
  obtain ⟨b, off, cs, ha, hb, hl, hr, h1⟩ := h.elem (List.getElem?_eq_getElem hj)
  exact ⟨_, b, off, cs, List.getElem?_eq_getElem hj, ha, hl, hr, fun k c hk => (World.cell?_of_block (hc.block b hb (by simp))).trans (h1 k c hk)⟩
theorem RdS.cp {α : Type} {C : Nat} {R : World → List Value → α → Prop} {w : World} {ao : Option Addr} {n cap : Nat} {l : List α} (h : RdS C R w (.slice ao n cap) l) : n ≤ cap ∧ n ≤ 140737488351232 ∧ l.length = n := by
  obtain ⟨ao', cap', he, h1, h2⟩ := h.form
  cases he
  exact ⟨h1, h2, rfl⟩
set_option maxHeartbeats 2000000 in
set_option maxRecDepth 100000 in
theorem boxes_r {w0 w : World} (HQ : Hid (Chg [] w0 w)) (l1 l2 : List Pr.Bx) (p1 p2 : Option Addr) (k1 k2 n1 n2 : Nat) (H1 : Hid (RdS 4 Pr.RBx w0 (.slice p1 n1 k1) l1)) (H2 : Hid (RdS 4 Pr.RBx w0 (.slice p2 n2 k2) l2)) {R : Ending → World → Prop}
    (h : ∀ w', Chg [] w w' → R (.returned (.bool (decide (l1 = l2)))) w') : Calls Tryd.prog 61 #[.slice p1 n1 k1, .slice p2 n2 k2] w R := by
  have HRR := hd h
  clear h
  obtain ⟨hk1, hr1, hn1⟩ := H1.out.cp
  obtain ⟨hk2, hr2, hn2⟩ := H2.out.cp
  have HN1 := hd hn1
  have HN2 := hd hn2
  clear hn1 hn2
  go_enter Tryd.func61, Tryd.ntmps61
  by_cases hnn : n1 = n2
  · subst hnn
    obtain ⟨n, hn⟩ : ∃ z, z = n1 := ⟨_, rfl⟩
    rw [← hn] at H1 H2 HN1 HN2 hk1 hk2 hr1 ⊢
    clear hn
    go_wp2_with fail
    go_loopw [5] (fun i0 wr => ∃ j : Nat, i0 = .int .i64 (j : Int) ∧ j ≤ n ∧ Hid (Chg [] w wr) ∧ Hid (l1.take j = l2.take j)) (fun i0 _ => n - intN i0)
    case atStart => exact ⟨0, rfl, Nat.zero_le _, hd (Chg.refl _ _), hd rfl⟩
    case round =>
      obtain ⟨j, rfl, hj, HC, HT⟩ := hrel
      by_cases hlt : j < n
      · skip
        have q0 : (0 : Int) ≤ (j : Int) := by omega
        have q1 : (j : Int) < (n : Int) := by omega
        have q2 : (j : Int) ≤ (k1 : Int) := by omega
        have q3 : (j : Int) ≤ (k2 : Int) := by omega
        have HQR : Hid (Chg [] w0 wr) := hd (HQ.out.trans HC.out (by simp))
        obtain ⟨x, g1, og1, csg1, hxx, hag1, -, hrg1, hccg1⟩ := H1.out.at_ HQR.out (j := j) (by rw [HN1.out]; exact hlt)
        subst hag1
        obtain ⟨hcsg1, -⟩ := hrg1
        obtain ⟨y, g2, og2, csg2, hxy, hag2, -, hrg2, hccg2⟩ := H2.out.at_ HQR.out (j := j) (by rw [HN2.out]; exact hlt)
        subst hag2
        obtain ⟨hcsg2, -⟩ := hrg2
        have c0 : wr.cell? ⟨g1, og1 + j * 4, none⟩ = some (.int .i64 x.x) := by have h9 := hccg1 0 _ (by rw [hcsg1]; rfl); simpa [Pr.iv, Pr.sv] using h9
        have c1 : wr.cell? ⟨g1, og1 + j * 4 + 1, none⟩ = some (.int .i64 x.y) := by have h9 := hccg1 1 _ (by rw [hcsg1]; rfl); simpa [Pr.iv, Pr.sv] using h9
        have c2 : wr.cell? ⟨g1, og1 + j * 4 + 2, none⟩ = some (.int .i64 x.x2) := by have h9 := hccg1 2 _ (by rw [hcsg1]; rfl); simpa [Pr.iv, Pr.sv] using h9
        have c3 : wr.cell? ⟨g1, og1 + j * 4 + 3, none⟩ = some (.int .i64 x.y2) := by have h9 := hccg1 3 _ (by rw [hcsg1]; rfl); simpa [Pr.iv, Pr.sv] using h9
        have d0 : wr.cell? ⟨g2, og2 + j * 4, none⟩ = some (.int .i64 y.x) := by have h9 := hccg2 0 _ (by rw [hcsg2]; rfl); simpa [Pr.iv, Pr.sv] using h9
        have d1 : wr.cell? ⟨g2, og2 + j * 4 + 1, none⟩ = some (.int .i64 y.y) := by have h9 := hccg2 1 _ (by rw [hcsg2]; rfl); simpa [Pr.iv, Pr.sv] using h9
        have d2 : wr.cell? ⟨g2, og2 + j * 4 + 2, none⟩ = some (.int .i64 y.x2) := by have h9 := hccg2 2 _ (by rw [hcsg2]; rfl); simpa [Pr.iv, Pr.sv] using h9
        have d3 : wr.cell? ⟨g2, og2 + j * 4 + 3, none⟩ = some (.int .i64 y.y2) := by have h9 := hccg2 3 _ (by rw [hcsg2]; rfl); simpa [Pr.iv, Pr.sv] using h9
        have HX := hd hxx
        have HY := hd hxy
        clear hxx hxy hcsg1 hcsg2 hccg1 hccg2
        go_upto_region 6 with (fail)
        by_cases hx : x.x = y.x
        · skip
          have Ex := hd hx
          have ex : (x.x == y.x) = true := by rw [Ex.out]; exact beq_self_eq_true _
          have fx : (x.x != y.x) = false := by rw [Ex.out]; simp
          clear hx
          by_cases hy : x.y = y.y
          · skip
            have Ey := hd hy
            have ey : (x.y == y.y) = true := by rw [Ey.out]; exact beq_self_eq_true _
            have fy : (x.y != y.y) = false := by rw [Ey.out]; simp
            clear hy
            by_cases hz : x.x2 = y.x2
            · skip
              have Ez := hd hz
              have ez : (x.x2 == y.x2) = true := by rw [Ez.out]; exact beq_self_eq_true _
              have fz : (x.x2 != y.x2) = false := by rw [Ez.out]; simp
              clear hz
              by_cases hu : x.y2 = y.y2
              · skip
                have Eu := hd hu
                have eu : (x.y2 == y.y2) = true := by rw [Eu.out]; exact beq_self_eq_true _
                have fu : (x.y2 != y.y2) = false := by rw [Eu.out]; simp
                clear hu
                go_quiet (fail)
                obtain ⟨V2, hV2⟩ : ∃ V2, V2 = wr.drewN nq := ⟨_, rfl⟩
                rw [← hV2]
                have HC2 : Hid (Chg [] w V2) := hd (HC.out.trans (by rw [hV2]; exact chg_drewN _ _) (by simp))
                clear hV2 c0 c1 c2 c3 d0 d1 d2 d3
                have HXY : Hid (x = y) := hd (by cases x; cases y; simp only [Pr.Bx.mk.injEq]; exact ⟨Ex.out, Ey.out, Ez.out, Eu.out⟩)
                go_wp2_with fail
                go_roundw
                case rel => exact ⟨j + 1, vint (by omega), by omega, HC2, hd (tk_step HT.out HX.out (by rw [HXY.out]; exact HY.out))⟩
                case measure => simp [intN]; omega
              · skip
                have eu : (x.y2 == y.y2) = false := by rw [beq_eq_false_iff_ne]; exact hu
                have fu : (x.y2 != y.y2) = true := by simp [hu]
                go_quiet (fail)
                obtain ⟨V2, hV2⟩ : ∃ V2, V2 = wr.drewN nq := ⟨_, rfl⟩
                rw [← hV2]
                have HC2 : Hid (Chg [] w V2) := hd (HC.out.trans (by rw [hV2]; exact chg_drewN _ _) (by simp))
                clear hV2 c0 c1 c2 c3 d0 d1 d2 d3
                go_wp2_with fail
                have h9 := HRR.out V2 HC2.out
                rw [decide_eq_false (tk_ne HX.out HY.out (by intro e; rw [e] at hu; exact hu rfl))] at h9
                exact h9
            · skip
              have ez : (x.x2 == y.x2) = false := by rw [beq_eq_false_iff_ne]; exact hz
              have fz : (x.x2 != y.x2) = true := by simp [hz]
              go_quiet (fail)
              obtain ⟨V2, hV2⟩ : ∃ V2, V2 = wr.drewN nq := ⟨_, rfl⟩
              rw [← hV2]
              have HC2 : Hid (Chg [] w V2) := hd (HC.out.trans (by rw [hV2]; exact chg_drewN _ _) (by simp))
              clear hV2 c0 c1 c2 c3 d0 d1 d2 d3
              go_wp2_with fail
              have h9 := HRR.out V2 HC2.out
              rw [decide_eq_false (tk_ne HX.out HY.out (by intro e; rw [e] at hz; exact hz rfl))] at h9
              exact h9
          · skip
            have ey : (x.y == y.y) = false := by rw [beq_eq_false_iff_ne]; exact hy
            have fy : (x.y != y.y) = true := by simp [hy]
            go_quiet (fail)
            obtain ⟨V2, hV2⟩ : ∃ V2, V2 = wr.drewN nq := ⟨_, rfl⟩
            rw [← hV2]
            have HC2 : Hid (Chg [] w V2) := hd (HC.out.trans (by rw [hV2]; exact chg_drewN _ _) (by simp))
            clear hV2 c0 c1 c2 c3 d0 d1 d2 d3
            go_wp2_with fail
            have h9 := HRR.out V2 HC2.out
            rw [decide_eq_false (tk_ne HX.out HY.out (by intro e; rw [e] at hy; exact hy rfl))] at h9
            exact h9
        · skip
          have ex : (x.x == y.x) = false := by rw [beq_eq_false_iff_ne]; exact hx
          have fx : (x.x != y.x) = true := by simp [hx]
          go_quiet (fail)
          obtain ⟨V2, hV2⟩ : ∃ V2, V2 = wr.drewN nq := ⟨_, rfl⟩
          rw [← hV2]
          have HC2 : Hid (Chg [] w V2) := hd (HC.out.trans (by rw [hV2]; exact chg_drewN _ _) (by simp))
          clear hV2 c0 c1 c2 c3 d0 d1 d2 d3
          go_wp2_with fail
          have h9 := HRR.out V2 HC2.out
          rw [decide_eq_false (tk_ne HX.out HY.out (by intro e; rw [e] at hx; exact hx rfl))] at h9
          exact h9
      · have q1 : ¬ (j : Int) < (n : Int) := by omega
        have HE : Hid (l1 = l2) := hd (tk_end HT.out (by rw [HN1.out]; omega) (by rw [HN2.out]; omega))
        go_wp2_with fail
        have h9 := HRR.out wr HC.out
        rw [decide_eq_true HE.out] at h9
        exact h9
  · have e1 : ((n1 : Int) == (n2 : Int)) = false := by rw [beq_eq_false_iff_ne]; omega
    have e2 : ((n1 : Int) != (n2 : Int)) = true := by simp; omega
    have e3 : ¬ (n1 : Int) = (n2 : Int) := by omega
    have HF : Hid (l1 ≠ l2) := hd (len_ne (by rw [HN1.out, HN2.out]; exact hnn))
    go_wp2_with fail
    have h9 := HRR.out w (Chg.refl _ _)
    rw [decide_eq_false HF.out] at h9
    exact h9
theorem zR_iff (a b : Pr.Rw) : Pr.zR a = Pr.zR b ↔ ((a.name = b.name ∧ a.x = b.x ∧ a.y = b.y ∧ a.f = b.f ∧ a.t = b.t ∧ a.step = b.step) ∧ a.marks = b.marks) := by
  cases a; cases b
  simp only [Pr.zR, Pr.Rw.mk.injEq, and_true]
  constructor
  · rintro ⟨h1, h2, h3, h4, h5, h6, h7⟩
    exact ⟨⟨h1, h2, h3, h4, h5, h6⟩, h7⟩
  · rintro ⟨⟨h1, h2, h3, h4, h5, h6⟩, h7⟩
    exact ⟨h1, h2, h3, h4, h5, h6, h7⟩
set_option maxHeartbeats 4000000 in
set_option maxRecDepth 100000 in
theorem sameRow_r {w0 w : World} (HQ : Hid (Chg [] w0 w)) (a b : Pr.Rw) (p1 p2 : Option Addr) (k1 k2 n1 n2 : Nat) (H1 : Hid (RdS 3 Pr.RMk w0 (.slice p1 n1 k1) a.marks)) (H2 : Hid (RdS 3 Pr.RMk w0 (.slice p2 n2 k2) b.marks)) {R : Ending → World → Prop}
    (h : ∀ w', Chg [] w w' → R (.returned (.bool (decide (Pr.zR a = Pr.zR b)))) w') : Calls Tryd.prog 62 #[.agg #[.string ⟨a.name.toArray⟩, .int .i64 a.x, .int .i64 a.y, .int .i64 a.f, .int .i64 a.t, .int .i64 a.step, .slice p1 n1 k1, .int .i64 a.at_], .agg #[.string ⟨b.name.toArray⟩, .int .i64 b.x, .int .i64 b.y, .int .i64 b.f, .int .i64 b.t, .int .i64 b.step, .slice p2 n2 k2, .int .i64 b.at_]] w R := by
  have HRR := hd h
  clear h
  obtain ⟨hk1, hr1, hn1⟩ := H1.out.cp
  obtain ⟨hk2, hr2, hn2⟩ := H2.out.cp
  have HN1 := hd hn1
  have HN2 := hd hn2
  clear hn1 hn2
  go_enter Tryd.func62, Tryd.ntmps62
  go_upto_region 1 with (fail)
  obtain ⟨wa, hwa⟩ : ∃ W, W = w.alloc (.cells #[.string ⟨a.name.toArray⟩, .int .i64 a.x, .int .i64 a.y, .int .i64 a.f, .int .i64 a.t, .int .i64 a.step, .slice p1 n1 k1, .int .i64 a.at_] 40) := ⟨_, rfl⟩
  rw [← hwa]
  obtain ⟨w1, hw1⟩ : ∃ W, W = wa.alloc (.cells #[.string ⟨b.name.toArray⟩, .int .i64 b.x, .int .i64 b.y, .int .i64 b.f, .int .i64 b.t, .int .i64 b.step, .slice p2 n2 k2, .int .i64 b.at_] 40) := ⟨_, rfl⟩
  rw [← hw1]
  obtain ⟨Y, hY⟩ : ∃ X, X = w.heap.size + 1 := ⟨_, rfl⟩
  rw [← hY]
  obtain ⟨X, hX⟩ : ∃ X, X = w.heap.size := ⟨_, rfl⟩
  rw [← hX]
  have HX0 : Hid (Blk w1 X [.string ⟨a.name.toArray⟩, .int .i64 a.x, .int .i64 a.y, .int .i64 a.f, .int .i64 a.t, .int .i64 a.step, .slice p1 n1 k1, .int .i64 a.at_] 40) := hd (by rw [hw1, hwa, hX]; exact (Blk.new w [.string ⟨a.name.toArray⟩, .int .i64 a.x, .int .i64 a.y, .int .i64 a.f, .int .i64 a.t, .int .i64 a.step, .slice p1 n1 k1, .int .i64 a.at_] _).alloc _)
  have HY0 : Hid (Blk w1 Y [.string ⟨b.name.toArray⟩, .int .i64 b.x, .int .i64 b.y, .int .i64 b.f, .int .i64 b.t, .int .i64 b.step, .slice p2 n2 k2, .int .i64 b.at_] 40) := hd (by have h9 := Blk.new wa [.string ⟨b.name.toArray⟩, .int .i64 b.x, .int .i64 b.y, .int .i64 b.f, .int .i64 b.t, .int .i64 b.step, .slice p2 n2 k2, .int .i64 b.at_] 40; rw [show wa.heap.size = Y by rw [hwa, hY]; simp] at h9; rw [hw1]; exact h9)
  have C1 : Hid (Chg [] w w1) := hd (by rw [hw1, hwa]; exact ((Chg.refl _ _).alloc _).alloc _)
  have HQ1 : Hid (Chg [] w0 w1) := hd (HQ.out.trans C1.out (by simp))
  clear hwa hw1 hX hY
  have x0 := HX0.out.cell (i := 0) rfl
  have x1 := HX0.out.cell (i := 1) rfl
  have x2 := HX0.out.cell (i := 2) rfl
  have x3 := HX0.out.cell (i := 3) rfl
  have x4 := HX0.out.cell (i := 4) rfl
  have x5 := HX0.out.cell (i := 5) rfl
  have x6 := HX0.out.cell (i := 6) rfl
  have y0 := HY0.out.cell (i := 0) rfl
  have y1 := HY0.out.cell (i := 1) rfl
  have y2 := HY0.out.cell (i := 2) rfl
  have y3 := HY0.out.cell (i := 3) rfl
  have y4 := HY0.out.cell (i := 4) rfl
  have y5 := HY0.out.cell (i := 5) rfl
  have y6 := HY0.out.cell (i := 6) rfl
  obtain ⟨qq, hqq⟩ : ∃ z, z = decide ((a.name = b.name ∧ a.x = b.x ∧ a.y = b.y ∧ a.f = b.f ∧ a.t = b.t ∧ a.step = b.step) ∧ n1 = n2) := ⟨_, rfl⟩
  have HQQ := hd hqq
  clear hqq
  go_cut [54] (fun s wx => wx = w1 ∧ s = .bool (!qq))
  case first =>
    by_cases hn : a.name = b.name
    · skip
      have En := hd hn
      have en : (a.name == b.name) = true := by rw [En.out]; exact beq_self_eq_true _
      have fn : (a.name != b.name) = false := by rw [En.out]; simp
      clear hn
      by_cases hx : a.x = b.x
      · skip
        have Ex := hd hx
        have ex : (a.x == b.x) = true := by rw [Ex.out]; exact beq_self_eq_true _
        have fx : (a.x != b.x) = false := by rw [Ex.out]; simp
        clear hx
        by_cases hy : a.y = b.y
        · skip
          have Ey := hd hy
          have ey : (a.y == b.y) = true := by rw [Ey.out]; exact beq_self_eq_true _
          have fy : (a.y != b.y) = false := by rw [Ey.out]; simp
          clear hy
          by_cases hf : a.f = b.f
          · skip
            have Ef := hd hf
            have ef : (a.f == b.f) = true := by rw [Ef.out]; exact beq_self_eq_true _
            have ff : (a.f != b.f) = false := by rw [Ef.out]; simp
            clear hf
            by_cases ht : a.t = b.t
            · skip
              have Et := hd ht
              have et : (a.t == b.t) = true := by rw [Et.out]; exact beq_self_eq_true _
              have ft : (a.t != b.t) = false := by rw [Et.out]; simp
              clear ht
              by_cases hs : a.step = b.step
              · skip
                have Es := hd hs
                have es : (a.step == b.step) = true := by rw [Es.out]; exact beq_self_eq_true _
                have fs : (a.step != b.step) = false := by rw [Es.out]; simp
                clear hs
                by_cases hl : n1 = n2
                · skip
                  have El := hd hl
                  have el : ((n1 : Int) == (n2 : Int)) = true := by rw [hl]; exact beq_self_eq_true _
                  have fl : ((n1 : Int) != (n2 : Int)) = false := by rw [hl]; simp
                  clear hl
                  go_wp2_with fail
                  go_meet
                  exact ⟨rfl, by rw [HQQ.out, decide_eq_true ⟨⟨En.out, Ex.out, Ey.out, Ef.out, Et.out, Es.out⟩, El.out⟩]; rfl⟩
                · skip
                  have el : ((n1 : Int) == (n2 : Int)) = false := by rw [beq_eq_false_iff_ne]; omega
                  have fl : ((n1 : Int) != (n2 : Int)) = true := by simp; omega
                  go_wp2_with fail
                  go_meet
                  exact ⟨rfl, by rw [HQQ.out, decide_eq_false (fun e => hl e.2)]; rfl⟩
              · skip
                have es : (a.step == b.step) = false := by rw [beq_eq_false_iff_ne]; exact hs
                have fs : (a.step != b.step) = true := by simp [hs]
                go_wp2_with fail
                go_meet
                exact ⟨rfl, by rw [HQQ.out, decide_eq_false (fun e => hs e.1.2.2.2.2.2)]; rfl⟩
            · skip
              have et : (a.t == b.t) = false := by rw [beq_eq_false_iff_ne]; exact ht
              have ft : (a.t != b.t) = true := by simp [ht]
              go_wp2_with fail
              go_meet
              exact ⟨rfl, by rw [HQQ.out, decide_eq_false (fun e => ht e.1.2.2.2.2.1)]; rfl⟩
          · skip
            have ef : (a.f == b.f) = false := by rw [beq_eq_false_iff_ne]; exact hf
            have ff : (a.f != b.f) = true := by simp [hf]
            go_wp2_with fail
            go_meet
            exact ⟨rfl, by rw [HQQ.out, decide_eq_false (fun e => hf e.1.2.2.2.1)]; rfl⟩
        · skip
          have ey : (a.y == b.y) = false := by rw [beq_eq_false_iff_ne]; exact hy
          have fy : (a.y != b.y) = true := by simp [hy]
          go_wp2_with fail
          go_meet
          exact ⟨rfl, by rw [HQQ.out, decide_eq_false (fun e => hy e.1.2.2.1)]; rfl⟩
      · skip
        have ex : (a.x == b.x) = false := by rw [beq_eq_false_iff_ne]; exact hx
        have fx : (a.x != b.x) = true := by simp [hx]
        go_wp2_with fail
        go_meet
        exact ⟨rfl, by rw [HQQ.out, decide_eq_false (fun e => hx e.1.2.1)]; rfl⟩
    · skip
      have en : (a.name == b.name) = false := by rw [beq_eq_false_iff_ne]; exact hn
      have fn : (a.name != b.name) = true := by simp [hn]
      go_wp2_with fail
      go_meet
      exact ⟨rfl, by rw [HQQ.out, decide_eq_false (fun e => hn e.1.1)]; rfl⟩
  case rest =>
    obtain ⟨hw, hs⟩ := hcut
    subst hs
    rw [hw]
    clear x0 x1 x2 x3 x4 x5 x6 y0 y1 y2 y3 y4 y5 y6 hw
    cases qq with
    | false =>
      have hne : ¬ _ := of_decide_eq_false HQQ.out.symm
      have HNE := hd hne
      clear hne
      go_wp2_with fail
      have h9 := HRR.out w1 C1.out
      rw [decide_eq_false (fun e => HNE.out ⟨((zR_iff a b).1 e).1, by rw [← HN1.out, ← HN2.out, ((zR_iff a b).1 e).2]⟩)] at h9
      exact h9
    | true =>
      have hee := of_decide_eq_true HQQ.out.symm
      have HEE := hd hee.1
      have hn12 := hee.2
      subst hn12
      obtain ⟨n, hn⟩ : ∃ z, z = n1 := ⟨_, rfl⟩
      rw [← hn] at H1 H2 HN1 HN2 hk1 hk2 hr1 HX0 HY0 ⊢
      clear hn hee HQQ
      go_wp2_with fail
      go_loopw [5] (fun i0 wr => ∃ j : Nat, i0 = .int .i64 (j : Int) ∧ j ≤ n ∧ Hid (Chg [] w1 wr) ∧ Hid (a.marks.take j = b.marks.take j)) (fun i0 _ => n - intN i0)
      case atStart => exact ⟨0, rfl, Nat.zero_le _, hd (Chg.refl _ _), hd rfl⟩
      case round =>
        obtain ⟨j, rfl, hj, HC, HT⟩ := hrel
        have x6 := (HC.out.blk HX0.out (by simp)).cell (i := 6) rfl
        have y6 := (HC.out.blk HY0.out (by simp)).cell (i := 6) rfl
        by_cases hlt : j < n
        · skip
          have q0 : (0 : Int) ≤ (j : Int) := by omega
          have q1 : (j : Int) < (n : Int) := by omega
          have q2 : (j : Int) ≤ (k1 : Int) := by omega
          have q3 : (j : Int) ≤ (k2 : Int) := by omega
          have HQR : Hid (Chg [] w0 wr) := hd (HQ1.out.trans HC.out (by simp))
          obtain ⟨x, g1, og1, csg1, hxx, hag1, -, hrg1, hccg1⟩ := H1.out.at_ HQR.out (j := j) (by rw [HN1.out]; exact hlt)
          subst hag1
          obtain ⟨hcsg1, -⟩ := hrg1
          obtain ⟨y, g2, og2, csg2, hxy, hag2, -, hrg2, hccg2⟩ := H2.out.at_ HQR.out (j := j) (by rw [HN2.out]; exact hlt)
          subst hag2
          obtain ⟨hcsg2, -⟩ := hrg2
          have c0 : wr.cell? ⟨g1, og1 + j * 3, none⟩ = some (.int .i64 x.kind) := by have h9 := hccg1 0 _ (by rw [hcsg1]; rfl); simpa [Pr.iv, Pr.sv] using h9
          have c1 : wr.cell? ⟨g1, og1 + j * 3 + 1, none⟩ = some (.int .i64 x.seat) := by have h9 := hccg1 1 _ (by rw [hcsg1]; rfl); simpa [Pr.iv, Pr.sv] using h9
          have c2 : wr.cell? ⟨g1, og1 + j * 3 + 2, none⟩ = some (.int .i64 x.w) := by have h9 := hccg1 2 _ (by rw [hcsg1]; rfl); simpa [Pr.iv, Pr.sv] using h9
          have d0 : wr.cell? ⟨g2, og2 + j * 3, none⟩ = some (.int .i64 y.kind) := by have h9 := hccg2 0 _ (by rw [hcsg2]; rfl); simpa [Pr.iv, Pr.sv] using h9
          have d1 : wr.cell? ⟨g2, og2 + j * 3 + 1, none⟩ = some (.int .i64 y.seat) := by have h9 := hccg2 1 _ (by rw [hcsg2]; rfl); simpa [Pr.iv, Pr.sv] using h9
          have d2 : wr.cell? ⟨g2, og2 + j * 3 + 2, none⟩ = some (.int .i64 y.w) := by have h9 := hccg2 2 _ (by rw [hcsg2]; rfl); simpa [Pr.iv, Pr.sv] using h9
          have HX := hd hxx
          have HY := hd hxy
          clear hxx hxy hcsg1 hcsg2 hccg1 hccg2
          go_upto_region 6 with (fail)
          by_cases hx : x.kind = y.kind
          · skip
            have Ex := hd hx
            have ex : (x.kind == y.kind) = true := by rw [Ex.out]; exact beq_self_eq_true _
            have fx : (x.kind != y.kind) = false := by rw [Ex.out]; simp
            clear hx
            by_cases hy : x.seat = y.seat
            · skip
              have Ey := hd hy
              have ey : (x.seat == y.seat) = true := by rw [Ey.out]; exact beq_self_eq_true _
              have fy : (x.seat != y.seat) = false := by rw [Ey.out]; simp
              clear hy
              by_cases hz : x.w = y.w
              · skip
                have Ez := hd hz
                have ez : (x.w == y.w) = true := by rw [Ez.out]; exact beq_self_eq_true _
                have fz : (x.w != y.w) = false := by rw [Ez.out]; simp
                clear hz
                go_quiet (fail)
                obtain ⟨V2, hV2⟩ : ∃ V2, V2 = wr.drewN nq := ⟨_, rfl⟩
                rw [← hV2]
                have HC2 : Hid (Chg [] w1 V2) := hd (HC.out.trans (by rw [hV2]; exact chg_drewN _ _) (by simp))
                clear hV2 c0 c1 c2 d0 d1 d2 x6 y6
                have HXY : Hid (x = y) := hd (by cases x; cases y; simp only [Pr.Mk.mk.injEq]; exact ⟨Ex.out, Ey.out, Ez.out⟩)
                go_wp2_with fail
                go_roundw
                case rel => exact ⟨j + 1, vint (by omega), by omega, HC2, hd (tk_step HT.out HX.out (by rw [HXY.out]; exact HY.out))⟩
                case measure => simp [intN]; omega
              · skip
                have ez : (x.w == y.w) = false := by rw [beq_eq_false_iff_ne]; exact hz
                have fz : (x.w != y.w) = true := by simp [hz]
                go_quiet (fail)
                obtain ⟨V2, hV2⟩ : ∃ V2, V2 = wr.drewN nq := ⟨_, rfl⟩
                rw [← hV2]
                have HC2 : Hid (Chg [] w1 V2) := hd (HC.out.trans (by rw [hV2]; exact chg_drewN _ _) (by simp))
                clear hV2 c0 c1 c2 d0 d1 d2 x6 y6
                go_wp2_with fail
                have h9 := HRR.out V2 (C1.out.trans HC2.out (by simp))
                rw [decide_eq_false (fun e => tk_ne HX.out HY.out (by intro e; rw [e] at hz; exact hz rfl) ((zR_iff a b).1 e).2)] at h9
                exact h9
            · skip
              have ey : (x.seat == y.seat) = false := by rw [beq_eq_false_iff_ne]; exact hy
              have fy : (x.seat != y.seat) = true := by simp [hy]
              go_quiet (fail)
              obtain ⟨V2, hV2⟩ : ∃ V2, V2 = wr.drewN nq := ⟨_, rfl⟩
              rw [← hV2]
              have HC2 : Hid (Chg [] w1 V2) := hd (HC.out.trans (by rw [hV2]; exact chg_drewN _ _) (by simp))
              clear hV2 c0 c1 c2 d0 d1 d2 x6 y6
              go_wp2_with fail
              have h9 := HRR.out V2 (C1.out.trans HC2.out (by simp))
              rw [decide_eq_false (fun e => tk_ne HX.out HY.out (by intro e; rw [e] at hy; exact hy rfl) ((zR_iff a b).1 e).2)] at h9
              exact h9
          · skip
            have ex : (x.kind == y.kind) = false := by rw [beq_eq_false_iff_ne]; exact hx
            have fx : (x.kind != y.kind) = true := by simp [hx]
            go_quiet (fail)
            obtain ⟨V2, hV2⟩ : ∃ V2, V2 = wr.drewN nq := ⟨_, rfl⟩
            rw [← hV2]
            have HC2 : Hid (Chg [] w1 V2) := hd (HC.out.trans (by rw [hV2]; exact chg_drewN _ _) (by simp))
            clear hV2 c0 c1 c2 d0 d1 d2 x6 y6
            go_wp2_with fail
            have h9 := HRR.out V2 (C1.out.trans HC2.out (by simp))
            rw [decide_eq_false (fun e => tk_ne HX.out HY.out (by intro e; rw [e] at hx; exact hx rfl) ((zR_iff a b).1 e).2)] at h9
            exact h9
        · skip
          have q1 : ¬ (j : Int) < (n : Int) := by omega
          have HE : Hid (a.marks = b.marks) := hd (tk_end HT.out (by rw [HN1.out]; omega) (by rw [HN2.out]; omega))
          go_wp2_with fail
          have h9 := HRR.out wr (C1.out.trans HC.out (by simp))
          rw [decide_eq_true ((zR_iff a b).2 ⟨HEE.out, HE.out⟩)] at h9
          exact h9
end Go.Proofs.YtgbooiaedbpenaaDoor
