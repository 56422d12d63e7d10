/-
 Plan, layer 24: Same, SameLevel, sameBlock, sameRow, boxes, where the two are alike. Printed by gensame06.py.
-/
import Derived.Test.YtocadlcglgpdcaaDoorPnY
namespace Go.Proofs.YtocadlcglgpdcaaDoor
set_option linter.unusedVariables false
set_option linter.unusedSimpArgs false
open Go Go.RowKit Go.Shelf
open Lx (Tk)
attribute [local go_sem ↓] Go.wp_at_zero Go.wp_at_succ
/-- Two rows that are alike, except for the offset unless b is set. -/
def SimR (b : Bool) (x y : Pn.Rw) : Prop := (x.name = y.name ∧ x.x = y.x ∧ x.y = y.y ∧ x.f = y.f ∧ x.t = y.t ∧ x.step = y.step ∧ x.marks = y.marks) ∧ (b = true → x.at_ = y.at_)
/-- Lists that are alike, one by one. -/
def SimL {α : Type} (R : α → α → Prop) (l m : List α) : Prop := l.length = m.length ∧ ∀ (i : Nat) (x y : α), l[i]? = some x → m[i]? = some y → R x y
def SimB (b : Bool) (x y : Pn.Bl) : Prop := (x.name = y.name ∧ SimL (SimR b) x.rows y.rows) ∧ (b = true → x.at_ = y.at_)
def SimA (b : Bool) (x y : Pn.Ar) : Prop := (x.name = y.name ∧ x.box = y.box ∧ x.holds = y.holds) ∧ (b = true → x.at_ = y.at_)
def SimV (b : Bool) (x y : Pn.Lv) : Prop := (x.name = y.name ∧ x.height = y.height ∧ SimL (SimB b) x.blocks y.blocks ∧ SimL (SimA b) x.areas y.areas ∧ x.aisles = y.aisles ∧ x.pillars = y.pillars ∧ x.doors = y.doors) ∧ (b = true → x.at_ = y.at_)
def SimH (b : Bool) (x y : Pn.Hl) : Prop := x.name = y.name ∧ x.sx = y.sx ∧ x.sy = y.sy ∧ SimL (SimV b) x.levels y.levels
theorem SimL.at {α : Type} {R : α → α → Prop} {l m : List α} (h : SimL R l m) {i : Nat} (hi : i < l.length) : ∃ x y, l[i]? = some x ∧ m[i]? = some y ∧ R x y := by
 have hm : i < m.length := by rw [← h.1]; exact hi
 exact ⟨l[i], m[i], by simp, by simp, h.2 i _ _ (by simp) (by simp)⟩

set_option maxHeartbeats 2000000 in
set_option maxRecDepth 100000 in
theorem samerow_in (w : World) (b : Bool) (nm : Bytes) (x y f t st u v : Nat) (HA : Hid (b = true → u = v)) (ms : List Pn.Mk) (n : Nat) (HN : Hid (ms.length = n)) (a1 a2 : Option Addr) (c1 c2 B1 B2 : Nat) (H1 : Hid (ListS B1 64 3 Cm ms (.slice a1 n c1) w)) (H2 : Hid (ListS B2 64 3 Cm ms (.slice a2 n c2) w)) :
 Calls Tryd.prog 46 #[.agg #[.string ⟨nm.toArray⟩, .int .i64 (x : Nat), .int .i64 (y : Nat), .int .i64 (f : Nat), .int .i64 (t : Nat), .int .i64 (st : Nat), .slice a1 n c1, .int .i64 (u : Nat)], .agg #[.string ⟨nm.toArray⟩, .int .i64 (x : Nat), .int .i64 (y : Nat), .int .i64 (f : Nat), .int .i64 (t : Nat), .int .i64 (st : Nat), .slice a2 n c2, .int .i64 (v : Nat)], .bool b] w fun e w' => e = .returned (.bool true) ∧ Chg [] w w' := by
 go_enter Tryd.func46, Tryd.ntmps46
 go_upto_region 1 with fail
 obtain ⟨W, hW⟩ : ∃ W, W = (w.alloc (.cells #[.string ⟨nm.toArray⟩, .int .i64 (x : Nat), .int .i64 (y : Nat), .int .i64 (f : Nat), .int .i64 (t : Nat), .int .i64 (st : Nat), .slice a1 n c1, .int .i64 (u : Nat)] 54)).alloc (.cells #[.string ⟨nm.toArray⟩, .int .i64 (x : Nat), .int .i64 (y : Nat), .int .i64 (f : Nat), .int .i64 (t : Nat), .int .i64 (st : Nat), .slice a2 n c2, .int .i64 (v : Nat)] 54) := ⟨_, rfl⟩
 rw [← hW]
 obtain ⟨Y, hY⟩ : ∃ Y, Y = w.heap.size + 1 := ⟨_, rfl⟩
 rw [← hY]
 obtain ⟨X, hX⟩ : ∃ X, X = w.heap.size := ⟨_, rfl⟩
 rw [← hX]
 have HX : Hid (Blk W X [.string ⟨nm.toArray⟩, .int .i64 (x : Nat), .int .i64 (y : Nat), .int .i64 (f : Nat), .int .i64 (t : Nat), .int .i64 (st : Nat), .slice a1 n c1, .int .i64 (u : Nat)] 54) := hd (by rw [hW, hX]; exact (Blk.new w _ _).alloc _)
 have HY : Hid (Blk W Y [.string ⟨nm.toArray⟩, .int .i64 (x : Nat), .int .i64 (y : Nat), .int .i64 (f : Nat), .int .i64 (t : Nat), .int .i64 (st : Nat), .slice a2 n c2, .int .i64 (v : Nat)] 54) := hd (by rw [hW, hY]; have := Blk.new (w.alloc (.cells #[.string ⟨nm.toArray⟩, .int .i64 (x : Nat), .int .i64 (y : Nat), .int .i64 (f : Nat), .int .i64 (t : Nat), .int .i64 (st : Nat), .slice a1 n c1, .int .i64 (u : Nat)] 54)) [.string ⟨nm.toArray⟩, .int .i64 (x : Nat), .int .i64 (y : Nat), .int .i64 (f : Nat), .int .i64 (t : Nat), .int .i64 (st : Nat), .slice a2 n c2, .int .i64 (v : Nat)] 54; simpa using this)
 have HCW : Hid (Chg [] w W) := hd (by rw [hW]; exact ((Chg.refl _ _).alloc _).alloc _)
 clear hW hX hY
 obtain ⟨x0, x1, x2, x3, x4, x5, x6, x7⟩ := HX.out.c8
 obtain ⟨y0, y1, y2, y3, y4, y5, y6, y7⟩ := HY.out.c8
 have HL1 := hd (H1.out.keep (kp_m _) HCW.out (TyB.nil _ _ _))
 have HL2 := hd (H2.out.keep (kp_m _) HCW.out (TyB.nil _ _ _))
 cases b with
 | false =>
  clear HA
  go_wp2_with fail
  clear x0 x1 x2 x3 x4 x5 x6 x7 y0 y1 y2 y3 y4 y5 y6 y7
  go_loopw [7] (fun i0 wr => ∃ j : Nat, i0 = .int .i64 (j : Int) ∧ j ≤ n ∧ Hid (Chg [] W wr)) (fun i0 _ => n - intN i0)
  case atStart => exact ⟨0, rfl, Nat.zero_le _, hd (Chg.refl _ _)⟩
  case round =>
   obtain ⟨j, rfl, hj, HCR⟩ := hrel
   have x6 := (HCR.out.blk HX.out (by simp)).cell (i := 6) rfl
   have y6 := (HCR.out.blk HY.out (by simp)).cell (i := 6) rfl
   by_cases hlt : j < n
   · have q0 : (0 : Int) ≤ (j : Int) := by omega
     have q1 : (j : Int) < (n : Int) := by omega
     have qj : ((j : Int)).toNat = j := by omega
     obtain ⟨m, hm⟩ : ∃ m, ms[j]? = some m := ⟨ms[j]'(by rw [HN.out]; exact hlt), by simp⟩
     obtain ⟨g1, d1, e1, e2, k0, k1, k2⟩ := mrk_get (HL1.out.keep (kp_m _) HCR.out (TyB.nil _ _ _)) hm
     obtain ⟨g2, d2, e3, e4, l0, l1, l2⟩ := mrk_get (HL2.out.keep (kp_m _) HCR.out (TyB.nil _ _ _)) hm
     rw [HN.out] at e1 e2 e3 e4
     simp only [Value.slice.injEq, true_and] at e1 e3
     obtain ⟨rfl, rfl⟩ := e1
     obtain ⟨rfl, rfl⟩ := e3
     have q2 : (j : Int) ≤ (c1 : Int) := by omega
     have q3 : (j : Int) ≤ (c2 : Int) := by omega
     have hw2 : IntKind.i64.wrap ((j : Int) + 1) = ((j + 1 : Nat) : Int) := by rw [IntWalk.i64_in _ (by have h1 := H1.out.len_le; rw [HN.out] at h1; omega)]; omega
     clear hm e2 e4
     go_upto_region 6 with fail
     go_quiet (fail)
     obtain ⟨V2, hV2⟩ : ∃ V2, V2 = wr.drewN nq := ⟨_, rfl⟩
     rw [← hV2]
     have HC2 : Hid (Chg [] W V2) := hd (HCR.out.trans (by rw [hV2]; exact chg_drewN _ _) (by simp))
     clear hV2
     clear x6 y6 k0 k1 k2 l0 l1 l2
     go_wp2_with fail
     refine ⟨?_, by simp [intN]; omega⟩
     first | exact ⟨j + 1, vintP (by omega), by omega, HC2⟩ | ((repeat apply Exists.intro); exact ⟨⟨j + 1, vintP (by omega), by omega, HC2⟩, rfl⟩)
   · have q1 : ¬ (j : Int) < (n : Int) := by omega
     go_wp2_with fail
     go_ret
     exact ⟨rfl, HCW.out.trans HCR.out (by simp)⟩
 | true =>
  have huv : u = v := HA.out rfl
  subst huv
  clear HA
  go_wp2_with fail
  clear x0 x1 x2 x3 x4 x5 x6 x7 y0 y1 y2 y3 y4 y5 y6 y7
  go_loopw [7] (fun i0 wr => ∃ j : Nat, i0 = .int .i64 (j : Int) ∧ j ≤ n ∧ Hid (Chg [] W wr)) (fun i0 _ => n - intN i0)
  case atStart => exact ⟨0, rfl, Nat.zero_le _, hd (Chg.refl _ _)⟩
  case round =>
   obtain ⟨j, rfl, hj, HCR⟩ := hrel
   have x6 := (HCR.out.blk HX.out (by simp)).cell (i := 6) rfl
   have y6 := (HCR.out.blk HY.out (by simp)).cell (i := 6) rfl
   by_cases hlt : j < n
   · have q0 : (0 : Int) ≤ (j : Int) := by omega
     have q1 : (j : Int) < (n : Int) := by omega
     have qj : ((j : Int)).toNat = j := by omega
     obtain ⟨m, hm⟩ : ∃ m, ms[j]? = some m := ⟨ms[j]'(by rw [HN.out]; exact hlt), by simp⟩
     obtain ⟨g1, d1, e1, e2, k0, k1, k2⟩ := mrk_get (HL1.out.keep (kp_m _) HCR.out (TyB.nil _ _ _)) hm
     obtain ⟨g2, d2, e3, e4, l0, l1, l2⟩ := mrk_get (HL2.out.keep (kp_m _) HCR.out (TyB.nil _ _ _)) hm
     rw [HN.out] at e1 e2 e3 e4
     simp only [Value.slice.injEq, true_and] at e1 e3
     obtain ⟨rfl, rfl⟩ := e1
     obtain ⟨rfl, rfl⟩ := e3
     have q2 : (j : Int) ≤ (c1 : Int) := by omega
     have q3 : (j : Int) ≤ (c2 : Int) := by omega
     have hw2 : IntKind.i64.wrap ((j : Int) + 1) = ((j + 1 : Nat) : Int) := by rw [IntWalk.i64_in _ (by have h1 := H1.out.len_le; rw [HN.out] at h1; omega)]; omega
     clear hm e2 e4
     go_upto_region 6 with fail
     go_quiet (fail)
     obtain ⟨V2, hV2⟩ : ∃ V2, V2 = wr.drewN nq := ⟨_, rfl⟩
     rw [← hV2]
     have HC2 : Hid (Chg [] W V2) := hd (HCR.out.trans (by rw [hV2]; exact chg_drewN _ _) (by simp))
     clear hV2
     clear x6 y6 k0 k1 k2 l0 l1 l2
     go_wp2_with fail
     refine ⟨?_, by simp [intN]; omega⟩
     first | exact ⟨j + 1, vintP (by omega), by omega, HC2⟩ | ((repeat apply Exists.intro); exact ⟨⟨j + 1, vintP (by omega), by omega, HC2⟩, rfl⟩)
   · have q1 : ¬ (j : Int) < (n : Int) := by omega
     go_wp2_with fail
     go_ret
     exact ⟨rfl, HCW.out.trans HCR.out (by simp)⟩
theorem samerow_r {w : World} {b : Bool} {p q : Pn.Rw} (HS : Hid (SimR b p q)) {a1 a2 : Option Addr} {c1 c2 B1 B2 : Nat} (H1 : Hid (ListS B1 64 3 Cm p.marks (.slice a1 p.marks.length c1) w)) (H2 : Hid (ListS B2 64 3 Cm q.marks (.slice a2 q.marks.length c2) w)) {R : Ending → World → Prop} (h : ∀ w', Chg [] w w' → R (.returned (.bool true)) w') :
 Calls Tryd.prog 46 #[.agg #[.string ⟨p.name.toArray⟩, .int .i64 (p.x : Nat), .int .i64 (p.y : Nat), .int .i64 (p.f : Nat), .int .i64 (p.t : Nat), .int .i64 (p.step : Nat), .slice a1 p.marks.length c1, .int .i64 (p.at_ : Nat)], .agg #[.string ⟨q.name.toArray⟩, .int .i64 (q.x : Nat), .int .i64 (q.y : Nat), .int .i64 (q.f : Nat), .int .i64 (q.t : Nat), .int .i64 (q.step : Nat), .slice a2 q.marks.length c2, .int .i64 (q.at_ : Nat)], .bool b] w R := by
 obtain ⟨⟨h1, h2, h3, h4, h5, h6, h7⟩, h8⟩ := HS.out
 rw [← h7] at H2
 rw [← h1, ← h2, ← h3, ← h4, ← h5, ← h6, ← h7]
 refine (samerow_in w b p.name p.x p.y p.f p.t p.step p.at_ q.at_ (hd h8) p.marks _ (hd rfl) a1 a2 c1 c2 B1 B2 H1 H2).mono ?_
 rintro e w' ⟨rfl, hc⟩
 exact h w' hc
set_option maxHeartbeats 2000000 in
set_option maxRecDepth 100000 in
theorem boxes_in (W : World) (ms : List Pn.Bx) (n : Nat) (HN : Hid (ms.length = n)) (a1 a2 : Option Addr) (c1 c2 B1 B2 : Nat) (H1 : Hid (ListS B1 56 4 Cbx ms (.slice a1 n c1) W)) (H2 : Hid (ListS B2 56 4 Cbx ms (.slice a2 n c2) W)) :
 Calls Tryd.prog 34 #[.slice a1 n c1, .slice a2 n c2] W fun e w' => e = .returned (.bool true) ∧ Chg [] W w' := by
 go_enter Tryd.func34, Tryd.ntmps34
 go_wp2_with fail
 go_loopw [5] (fun i0 wr => ∃ j : Nat, i0 = .int .i64 (j : Int) ∧ j ≤ n ∧ Hid (Chg [] W wr)) (fun i0 _ => n - intN i0)
 case atStart => exact ⟨0, rfl, Nat.zero_le _, hd (Chg.refl _ _)⟩
 case round =>
  obtain ⟨j, rfl, hj, HCR⟩ := hrel
  by_cases hlt : j < n
  · have q0 : (0 : Int) ≤ (j : Int) := by omega
    have q1 : (j : Int) < (n : Int) := by omega
    have qj : ((j : Int)).toNat = j := by omega
    obtain ⟨m, hm⟩ : ∃ m, ms[j]? = some m := ⟨ms[j]'(by rw [HN.out]; exact hlt), by simp⟩
    obtain ⟨g1, d1, e1, e2, k0, k1, k2, k3⟩ := box_get (H1.out.keep (kp_bx _) HCR.out (TyB.nil _ _ _)) hm
    obtain ⟨g2, d2, e3, e4, l0, l1, l2, l3⟩ := box_get (H2.out.keep (kp_bx _) HCR.out (TyB.nil _ _ _)) hm
    rw [HN.out] at e1 e2 e3 e4
    simp only [Value.slice.injEq, true_and] at e1 e3
    obtain ⟨rfl, rfl⟩ := e1
    obtain ⟨rfl, rfl⟩ := e3
    have q2 : (j : Int) ≤ (c1 : Int) := by omega
    have q3 : (j : Int) ≤ (c2 : Int) := by omega
    have hw2 : IntKind.i64.wrap ((j : Int) + 1) = ((j + 1 : Nat) : Int) := by rw [IntWalk.i64_in _ (by have h1 := H1.out.len_le; rw [HN.out] at h1; omega)]; omega
    clear hm e2 e4
    go_upto_region 6 with fail
    go_quiet (fail)
    obtain ⟨V2, hV2⟩ : ∃ V2, V2 = wr.drewN nq := ⟨_, rfl⟩
    rw [← hV2]
    have HC2 : Hid (Chg [] W V2) := hd (HCR.out.trans (by rw [hV2]; exact chg_drewN _ _) (by simp))
    clear hV2
    clear k0 k1 k2 k3 l0 l1 l2 l3
    go_wp2_with fail
    refine ⟨?_, by simp [intN]; omega⟩
    first | exact ⟨j + 1, vintP (by omega), by omega, HC2⟩ | ((repeat apply Exists.intro); exact ⟨⟨j + 1, vintP (by omega), by omega, HC2⟩, rfl⟩)
  · have q1 : ¬ (j : Int) < (n : Int) := by omega
    go_wp2_with fail
    go_ret
    exact ⟨rfl, HCR.out⟩
set_option maxHeartbeats 2000000 in
set_option maxRecDepth 100000 in
theorem sameblock_in (w : World) (b : Bool) (nm : Bytes) (u v : Nat) (HA : Hid (b = true → u = v)) (rs qs : List Pn.Rw) (HS : Hid (SimL (SimR b) rs qs)) (n : Nat) (HN : Hid (rs.length = n)) (a1 a2 : Option Addr) (c1 c2 B1 B2 : Nat) (H1 : Hid (ListS B1 54 8 (Crw B1) rs (.slice a1 n c1) w)) (H2 : Hid (ListS B2 54 8 (Crw B2) qs (.slice a2 n c2) w)) :
 Calls Tryd.prog 33 #[.agg #[.string ⟨nm.toArray⟩, .slice a1 n c1, .int .i64 (u : Nat)], .agg #[.string ⟨nm.toArray⟩, .slice a2 n c2, .int .i64 (v : Nat)], .bool b] w fun e w' => e = .returned (.bool true) ∧ Chg [] w w' := by
 go_enter Tryd.func33, Tryd.ntmps33
 go_upto_region 1 with fail
 obtain ⟨W, hW⟩ : ∃ W, W = (w.alloc (.cells #[.string ⟨nm.toArray⟩, .slice a1 n c1, .int .i64 (u : Nat)] 51)).alloc (.cells #[.string ⟨nm.toArray⟩, .slice a2 n c2, .int .i64 (v : Nat)] 51) := ⟨_, rfl⟩
 rw [← hW]
 obtain ⟨Y, hY⟩ : ∃ Y, Y = w.heap.size + 1 := ⟨_, rfl⟩
 rw [← hY]
 obtain ⟨X, hX⟩ : ∃ X, X = w.heap.size := ⟨_, rfl⟩
 rw [← hX]
 have HX : Hid (Blk W X [.string ⟨nm.toArray⟩, .slice a1 n c1, .int .i64 (u : Nat)] 51) := hd (by rw [hW, hX]; exact (Blk.new w _ _).alloc _)
 have HY : Hid (Blk W Y [.string ⟨nm.toArray⟩, .slice a2 n c2, .int .i64 (v : Nat)] 51) := hd (by rw [hW, hY]; have := Blk.new (w.alloc (.cells #[.string ⟨nm.toArray⟩, .slice a1 n c1, .int .i64 (u : Nat)] 51)) [.string ⟨nm.toArray⟩, .slice a2 n c2, .int .i64 (v : Nat)] 51; simpa using this)
 have HCW : Hid (Chg [] w W) := hd (by rw [hW]; exact ((Chg.refl _ _).alloc _).alloc _)
 clear hW hX hY
 obtain ⟨x0, x1, x2⟩ := HX.out.c3
 obtain ⟨y0, y1, y2⟩ := HY.out.c3
 have HL1 := hd (H1.out.keep (kp_rw _) HCW.out (TyB.nil _ _ _))
 have HL2 := hd (H2.out.keep (kp_rw _) HCW.out (TyB.nil _ _ _))
 cases b with
 | false =>
  clear HA
  go_wp2_with fail
  clear x0 x1 x2 y0 y1 y2
  go_loopw [7] (fun i0 wr => ∃ j : Nat, i0 = .int .i64 (j : Int) ∧ j ≤ n ∧ Hid (Chg [] W wr)) (fun i0 _ => n - intN i0)
  case atStart => exact ⟨0, rfl, Nat.zero_le _, hd (Chg.refl _ _)⟩
  case round =>
   obtain ⟨j, rfl, hj, HCR⟩ := hrel
   have x1 := (HCR.out.blk HX.out (by simp)).cell (i := 1) rfl
   have y1 := (HCR.out.blk HY.out (by simp)).cell (i := 1) rfl
   by_cases hlt : j < n
   · have q0 : (0 : Int) ≤ (j : Int) := by omega
     have q1 : (j : Int) < (n : Int) := by omega
     have qj : ((j : Int)).toNat = j := by omega
     obtain ⟨p, q, hp, hq, hsim⟩ := HS.out.at (i := j) (by rw [HN.out]; exact hlt)
     have HSI := hd hsim
     obtain ⟨g1, d1, a6, c6, e1, e2, t1, k0, k1, k2, k3, k4, k5, k6, k7⟩ := row_get (HL1.out.keep (kp_rw _) HCR.out (TyB.nil _ _ _)) hp
     obtain ⟨g2, d2, a7, c7, e3, e4, t2, l0, l1, l2, l3, l4, l5, l6, l7⟩ := row_get (HL2.out.keep (kp_rw _) HCR.out (TyB.nil _ _ _)) hq
     rw [HN.out] at e1 e2
     rw [← HS.out.1, HN.out] at e3 e4
     simp only [Value.slice.injEq, true_and] at e1 e3
     obtain ⟨rfl, rfl⟩ := e1
     obtain ⟨rfl, rfl⟩ := e3
     have q2 : (j : Int) ≤ (c1 : Int) := by omega
     have q3 : (j : Int) ≤ (c2 : Int) := by omega
     have hw2 : IntKind.i64.wrap ((j : Int) + 1) = ((j + 1 : Nat) : Int) := by rw [IntWalk.i64_in _ (by have h1 := H1.out.len_le; rw [HN.out] at h1; omega)]; omega
     have T1 := hd t1
     have T2 := hd t2
     have Kk0 := hd k0
     have Kl0 := hd l0
     have Kk1 := hd k1
     have Kl1 := hd l1
     have Kk2 := hd k2
     have Kl2 := hd l2
     have Kk3 := hd k3
     have Kl3 := hd l3
     have Kk4 := hd k4
     have Kl4 := hd l4
     have Kk5 := hd k5
     have Kl5 := hd l5
     have Kk6 := hd k6
     have Kl6 := hd l6
     have Kk7 := hd k7
     have Kl7 := hd l7
     have Kx := hd x1
     have Ky := hd y1
     clear hp hq hsim e2 e4 t1 t2 k0 l0 k1 l1 k2 l2 k3 l3 k4 l4 k5 l5 k6 l6 k7 l7
     go_upto_region 6 with fail
     clear x1 y1
     refine wp_region_held_drew (S := fun W' => Chg [] wr W') (by kernel_rfl) (Chg.refl _ _).drew (fun hHeld => ?_)
     refine tk 0 (v := ?vh0) rfl (by kernel_rfl) (fun _ _ _ h => h) ?hyh0 (by assumption) ?rsh0
     case hyh0 => (intro w9 hSw; go_simp; try with_reducible rfl)
     try simp only [qq]
     refine tk 1 (v := ?vh1) rfl (by kernel_rfl) (fun _ _ _ h => h) ?hyh1 (by assumption) ?rsh1
     case hyh1 => (intro w9 hSw; have d0 := cell_quiet hSw Kx.out (by simp); go_simp; try with_reducible rfl)
     try simp only [qq]
     refine tk 2 (v := ?vh2) rfl (by kernel_rfl) (fun _ _ _ h => h) ?hyh2 (by assumption) ?rsh2
     case hyh2 => (intro w9 hSw; go_simp; try with_reducible rfl)
     try simp only [qq]
     refine tk 3 (v := ?vh3) rfl (by kernel_rfl) (fun _ _ _ h => h) ?hyh3 (by assumption) ?rsh3
     case hyh3 => (intro w9 hSw; go_simp; try with_reducible rfl)
     try simp only [qq]
     refine tk 4 (v := ?vh4) rfl (by kernel_rfl) (fun _ _ _ h => h) ?hyh4 (by assumption) ?rsh4
     case hyh4 => (intro w9 hSw; have d0 := cell_quiet hSw Kk0.out (by simp); have d1 := cell_quiet hSw Kk1.out (by simp); have d2 := cell_quiet hSw Kk2.out (by simp); have d3 := cell_quiet hSw Kk3.out (by simp); have d4 := cell_quiet hSw Kk4.out (by simp); have d5 := cell_quiet hSw Kk5.out (by simp); have d6 := cell_quiet hSw Kk6.out (by simp); have d7 := cell_quiet hSw Kk7.out (by simp); go_simp; try with_reducible rfl)
     try simp only [qq]
     refine tk 5 (v := ?vh5) rfl (by kernel_rfl) (fun _ _ _ h => h) ?hyh5 (by assumption) ?rsh5
     case hyh5 => (intro w9 hSw; go_simp; try with_reducible rfl)
     try simp only [qq]
     refine tk 6 (v := ?vh6) rfl (by kernel_rfl) (fun _ _ _ h => h) ?hyh6 (by assumption) ?rsh6
     case hyh6 => (intro w9 hSw; have d0 := cell_quiet hSw Ky.out (by simp); go_simp; try with_reducible rfl)
     try simp only [qq]
     refine tk 7 (v := ?vh7) rfl (by kernel_rfl) (fun _ _ _ h => h) ?hyh7 (by assumption) ?rsh7
     case hyh7 => (intro w9 hSw; go_simp; try with_reducible rfl)
     try simp only [qq]
     refine tk 8 (v := ?vh8) rfl (by kernel_rfl) (fun _ _ _ h => h) ?hyh8 (by assumption) ?rsh8
     case hyh8 => (intro w9 hSw; go_simp; try with_reducible rfl)
     try simp only [qq]
     refine tk 9 (v := ?vh9) rfl (by kernel_rfl) (fun _ _ _ h => h) ?hyh9 (by assumption) ?rsh9
     case hyh9 => (intro w9 hSw; have d0 := cell_quiet hSw Kl0.out (by simp); have d1 := cell_quiet hSw Kl1.out (by simp); have d2 := cell_quiet hSw Kl2.out (by simp); have d3 := cell_quiet hSw Kl3.out (by simp); have d4 := cell_quiet hSw Kl4.out (by simp); have d5 := cell_quiet hSw Kl5.out (by simp); have d6 := cell_quiet hSw Kl6.out (by simp); have d7 := cell_quiet hSw Kl7.out (by simp); go_simp; try with_reducible rfl)
     try simp only [qq]
     refine tk 10 (v := ?vh10) rfl (by kernel_rfl) (fun _ _ _ h => h) ?hyh10 (by assumption) ?rsh10
     case hyh10 => (intro w9 hSw; go_simp; try with_reducible rfl)
     try simp only [qq]
     refine rd1 11 (by kernel_rfl) rfl (fun K hK => ?_)
     go_simp
     refine samerow_r HSI (hd (T1.out.keep (kp_m _) hHeld (TyB.nil _ _ _))) (hd (T2.out.keep (kp_m _) hHeld (TyB.nil _ _ _))) (fun w9 hcx => ?_)
     refine hK.out _ _ (hHeld.trans hcx (by simp)) (fun hHeld => ?_)
     clear hK K
     try simp only [qq]
     refine tk 12 (v := ?vh12) rfl (by kernel_rfl) (fun _ _ _ h => h) ?hyh12 (by assumption) ?rsh12
     case hyh12 => (intro w9 hSw; go_simp; try with_reducible rfl)
     try simp only [qq]
     refine wpAnyH_done (by kernel_rfl) ?_ _
     try simp only [qq]
     have HH := hd hHeld
     clear hHeld hcx
     have HC2 := hd (HCR.out.trans HH.out (by simp))
     go_wp2_with fail
     refine ⟨?_, by simp [intN]; omega⟩
     first | exact ⟨j + 1, vintP (by omega), by omega, HC2⟩ | ((repeat apply Exists.intro); exact ⟨⟨j + 1, vintP (by omega), by omega, HC2⟩, rfl⟩)
   · have q1 : ¬ (j : Int) < (n : Int) := by omega
     go_wp2_with fail
     go_ret
     exact ⟨rfl, HCW.out.trans HCR.out (by simp)⟩
 | true =>
  have huv : u = v := HA.out rfl
  subst huv
  clear HA
  go_wp2_with fail
  clear x0 x1 x2 y0 y1 y2
  go_loopw [7] (fun i0 wr => ∃ j : Nat, i0 = .int .i64 (j : Int) ∧ j ≤ n ∧ Hid (Chg [] W wr)) (fun i0 _ => n - intN i0)
  case atStart => exact ⟨0, rfl, Nat.zero_le _, hd (Chg.refl _ _)⟩
  case round =>
   obtain ⟨j, rfl, hj, HCR⟩ := hrel
   have x1 := (HCR.out.blk HX.out (by simp)).cell (i := 1) rfl
   have y1 := (HCR.out.blk HY.out (by simp)).cell (i := 1) rfl
   by_cases hlt : j < n
   · have q0 : (0 : Int) ≤ (j : Int) := by omega
     have q1 : (j : Int) < (n : Int) := by omega
     have qj : ((j : Int)).toNat = j := by omega
     obtain ⟨p, q, hp, hq, hsim⟩ := HS.out.at (i := j) (by rw [HN.out]; exact hlt)
     have HSI := hd hsim
     obtain ⟨g1, d1, a6, c6, e1, e2, t1, k0, k1, k2, k3, k4, k5, k6, k7⟩ := row_get (HL1.out.keep (kp_rw _) HCR.out (TyB.nil _ _ _)) hp
     obtain ⟨g2, d2, a7, c7, e3, e4, t2, l0, l1, l2, l3, l4, l5, l6, l7⟩ := row_get (HL2.out.keep (kp_rw _) HCR.out (TyB.nil _ _ _)) hq
     rw [HN.out] at e1 e2
     rw [← HS.out.1, HN.out] at e3 e4
     simp only [Value.slice.injEq, true_and] at e1 e3
     obtain ⟨rfl, rfl⟩ := e1
     obtain ⟨rfl, rfl⟩ := e3
     have q2 : (j : Int) ≤ (c1 : Int) := by omega
     have q3 : (j : Int) ≤ (c2 : Int) := by omega
     have hw2 : IntKind.i64.wrap ((j : Int) + 1) = ((j + 1 : Nat) : Int) := by rw [IntWalk.i64_in _ (by have h1 := H1.out.len_le; rw [HN.out] at h1; omega)]; omega
     have T1 := hd t1
     have T2 := hd t2
     have Kk0 := hd k0
     have Kl0 := hd l0
     have Kk1 := hd k1
     have Kl1 := hd l1
     have Kk2 := hd k2
     have Kl2 := hd l2
     have Kk3 := hd k3
     have Kl3 := hd l3
     have Kk4 := hd k4
     have Kl4 := hd l4
     have Kk5 := hd k5
     have Kl5 := hd l5
     have Kk6 := hd k6
     have Kl6 := hd l6
     have Kk7 := hd k7
     have Kl7 := hd l7
     have Kx := hd x1
     have Ky := hd y1
     clear hp hq hsim e2 e4 t1 t2 k0 l0 k1 l1 k2 l2 k3 l3 k4 l4 k5 l5 k6 l6 k7 l7
     go_upto_region 6 with fail
     clear x1 y1
     refine wp_region_held_drew (S := fun W' => Chg [] wr W') (by kernel_rfl) (Chg.refl _ _).drew (fun hHeld => ?_)
     refine tk 0 (v := ?vg0) rfl (by kernel_rfl) (fun _ _ _ h => h) ?hyg0 (by assumption) ?rsg0
     case hyg0 => (intro w9 hSw; go_simp; try with_reducible rfl)
     try simp only [qq]
     refine tk 1 (v := ?vg1) rfl (by kernel_rfl) (fun _ _ _ h => h) ?hyg1 (by assumption) ?rsg1
     case hyg1 => (intro w9 hSw; have d0 := cell_quiet hSw Kx.out (by simp); go_simp; try with_reducible rfl)
     try simp only [qq]
     refine tk 2 (v := ?vg2) rfl (by kernel_rfl) (fun _ _ _ h => h) ?hyg2 (by assumption) ?rsg2
     case hyg2 => (intro w9 hSw; go_simp; try with_reducible rfl)
     try simp only [qq]
     refine tk 3 (v := ?vg3) rfl (by kernel_rfl) (fun _ _ _ h => h) ?hyg3 (by assumption) ?rsg3
     case hyg3 => (intro w9 hSw; go_simp; try with_reducible rfl)
     try simp only [qq]
     refine tk 4 (v := ?vg4) rfl (by kernel_rfl) (fun _ _ _ h => h) ?hyg4 (by assumption) ?rsg4
     case hyg4 => (intro w9 hSw; have d0 := cell_quiet hSw Kk0.out (by simp); have d1 := cell_quiet hSw Kk1.out (by simp); have d2 := cell_quiet hSw Kk2.out (by simp); have d3 := cell_quiet hSw Kk3.out (by simp); have d4 := cell_quiet hSw Kk4.out (by simp); have d5 := cell_quiet hSw Kk5.out (by simp); have d6 := cell_quiet hSw Kk6.out (by simp); have d7 := cell_quiet hSw Kk7.out (by simp); go_simp; try with_reducible rfl)
     try simp only [qq]
     refine tk 5 (v := ?vg5) rfl (by kernel_rfl) (fun _ _ _ h => h) ?hyg5 (by assumption) ?rsg5
     case hyg5 => (intro w9 hSw; go_simp; try with_reducible rfl)
     try simp only [qq]
     refine tk 6 (v := ?vg6) rfl (by kernel_rfl) (fun _ _ _ h => h) ?hyg6 (by assumption) ?rsg6
     case hyg6 => (intro w9 hSw; have d0 := cell_quiet hSw Ky.out (by simp); go_simp; try with_reducible rfl)
     try simp only [qq]
     refine tk 7 (v := ?vg7) rfl (by kernel_rfl) (fun _ _ _ h => h) ?hyg7 (by assumption) ?rsg7
     case hyg7 => (intro w9 hSw; go_simp; try with_reducible rfl)
     try simp only [qq]
     refine tk 8 (v := ?vg8) rfl (by kernel_rfl) (fun _ _ _ h => h) ?hyg8 (by assumption) ?rsg8
     case hyg8 => (intro w9 hSw; go_simp; try with_reducible rfl)
     try simp only [qq]
     refine tk 9 (v := ?vg9) rfl (by kernel_rfl) (fun _ _ _ h => h) ?hyg9 (by assumption) ?rsg9
     case hyg9 => (intro w9 hSw; have d0 := cell_quiet hSw Kl0.out (by simp); have d1 := cell_quiet hSw Kl1.out (by simp); have d2 := cell_quiet hSw Kl2.out (by simp); have d3 := cell_quiet hSw Kl3.out (by simp); have d4 := cell_quiet hSw Kl4.out (by simp); have d5 := cell_quiet hSw Kl5.out (by simp); have d6 := cell_quiet hSw Kl6.out (by simp); have d7 := cell_quiet hSw Kl7.out (by simp); go_simp; try with_reducible rfl)
     try simp only [qq]
     refine tk 10 (v := ?vg10) rfl (by kernel_rfl) (fun _ _ _ h => h) ?hyg10 (by assumption) ?rsg10
     case hyg10 => (intro w9 hSw; go_simp; try with_reducible rfl)
     try simp only [qq]
     refine rd1 11 (by kernel_rfl) rfl (fun K hK => ?_)
     go_simp
     refine samerow_r HSI (hd (T1.out.keep (kp_m _) hHeld (TyB.nil _ _ _))) (hd (T2.out.keep (kp_m _) hHeld (TyB.nil _ _ _))) (fun w9 hcx => ?_)
     refine hK.out _ _ (hHeld.trans hcx (by simp)) (fun hHeld => ?_)
     clear hK K
     try simp only [qq]
     refine tk 12 (v := ?vg12) rfl (by kernel_rfl) (fun _ _ _ h => h) ?hyg12 (by assumption) ?rsg12
     case hyg12 => (intro w9 hSw; go_simp; try with_reducible rfl)
     try simp only [qq]
     refine wpAnyH_done (by kernel_rfl) ?_ _
     try simp only [qq]
     have HH := hd hHeld
     clear hHeld hcx
     have HC2 := hd (HCR.out.trans HH.out (by simp))
     go_wp2_with fail
     refine ⟨?_, by simp [intN]; omega⟩
     first | exact ⟨j + 1, vintP (by omega), by omega, HC2⟩ | ((repeat apply Exists.intro); exact ⟨⟨j + 1, vintP (by omega), by omega, HC2⟩, rfl⟩)
   · have q1 : ¬ (j : Int) < (n : Int) := by omega
     go_wp2_with fail
     go_ret
     exact ⟨rfl, HCW.out.trans HCR.out (by simp)⟩
theorem sameblock_r {w : World} {b : Bool} {p q : Pn.Bl} (HS : Hid (SimB b p q)) {a1 a2 : Option Addr} {c1 c2 B1 B2 : Nat} (H1 : Hid (ListS B1 54 8 (Crw B1) p.rows (.slice a1 p.rows.length c1) w)) (H2 : Hid (ListS B2 54 8 (Crw B2) q.rows (.slice a2 q.rows.length c2) w)) {R : Ending → World → Prop} (h : ∀ w', Chg [] w w' → R (.returned (.bool true)) w') :
 Calls Tryd.prog 33 #[.agg #[.string ⟨p.name.toArray⟩, .slice a1 p.rows.length c1, .int .i64 (p.at_ : Nat)], .agg #[.string ⟨q.name.toArray⟩, .slice a2 q.rows.length c2, .int .i64 (q.at_ : Nat)], .bool b] w R := by
 obtain ⟨⟨h1, h2⟩, h3⟩ := HS.out
 rw [← h2.1] at H2
 rw [← h1, ← h2.1]
 refine (sameblock_in w b p.name p.at_ q.at_ (hd h3) p.rows q.rows (hd h2) _ (hd rfl) a1 a2 c1 c2 B1 B2 H1 H2).mono ?_
 rintro e w' ⟨rfl, hc⟩
 exact h w' hc
end Go.Proofs.YtocadlcglgpdcaaDoor
