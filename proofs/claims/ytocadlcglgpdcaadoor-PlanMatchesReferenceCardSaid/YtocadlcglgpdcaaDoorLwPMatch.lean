/-
 Plan: for every text PlanMatchesReference returns true (the walk).
-/
import Derived.Test.YtocadlcglgpdcaaDoorPqG
import Derived.Test.YtocadlcglgpdcaaDoorPnZb
namespace Go.Proofs.YtocadlcglgpdcaaDoor
set_option linter.unusedVariables false
set_option linter.unusedSimpArgs false
open Go Go.RowKit Go.Shelf
open Lx (Tk)
attribute [local go_sem ↓] Go.wp_at_zero Go.wp_at_succ
namespace Pn
theorem SimL.refl6 {α : Type} {R : α → α → Prop} (h : ∀ x, R x x) (l : List α) : SimL R l l := ⟨rfl, fun i x y hx hy => by
 rw [hx] at hy
 cases hy
 exact h x⟩
theorem simR_refl6 (b : Bool) (x : Rw) : SimR b x x := ⟨⟨rfl, rfl, rfl, rfl, rfl, rfl, rfl⟩, fun _ => rfl⟩
theorem simB_refl6 (b : Bool) (x : Bl) : SimB b x x := ⟨⟨rfl, SimL.refl6 (simR_refl6 b) _⟩, fun _ => rfl⟩
theorem simA_refl6 (b : Bool) (x : Ar) : SimA b x x := ⟨⟨rfl, rfl, rfl⟩, fun _ => rfl⟩
theorem simV_refl6 (b : Bool) (x : Lv) : SimV b x x := ⟨⟨rfl, rfl, SimL.refl6 (simB_refl6 b) _, SimL.refl6 (simA_refl6 b) _, rfl, rfl, rfl⟩, fun _ => rfl⟩
theorem simH_refl6 (b : Bool) (x : Hl) : SimH b x x := ⟨rfl, rfl, rfl, SimL.refl6 (simV_refl6 b) _⟩
end Pn
theorem refparse_hl {w : World} {s : Bytes} {sb : ByteArray} (hs : s.length ≤ 1000000) (HS : Hid (sb = ⟨s.toArray⟩)) {R : Ending → World → Prop}
 (h : ∀ (h : Pn.Hl) (er : Nat) (at_ : Int) (ao : Option Addr) (n cap : Nat) (w' : World), Hid (Pn.parse s = (h, er, at_)) → Hid (n = h.levels.length) → Hid (ListS w.heap.size 47 8 (Clv w.heap.size) h.levels (.slice ao n cap) w') → Hid (Chg [] w w') →
  R (.returned (.tuple #[.agg #[.string ⟨h.name.toArray⟩, .int .i64 (h.sx : Nat), .int .i64 (h.sy : Nat), .slice ao n cap], .int .i64 (er : Nat), .int .i64 at_])) w') :
 Calls Tryd.prog 11 #[.string sb] w R := by
 rw [HS.out]
 refine (refparse_spec w s hs).mono ?_
 intro e w' hp
 obtain ⟨ao, cap, rfl, hl, hc⟩ := hall_form hp
 exact h _ _ _ ao _ cap w' (hd rfl) (hd rfl) (hd hl) (hd hc)
set_option maxHeartbeats 4000000 in
set_option maxRecDepth 100000 in
theorem planMatchesReference_walk (w : World) (s : Bytes) (hs0 : s.length ≤ 9223372036854775807) :
 Calls Tryd.prog 3 #[.string ⟨s.toArray⟩] w fun e w' => e = .returned (.bool true) ∧ Chg [] w w' := by
 obtain ⟨sb, hsb⟩ : ∃ sb : ByteArray, sb = ⟨s.toArray⟩ := ⟨_, rfl⟩
 rw [← hsb]
 have HSB := hd hsb
 have hsz : (sb.size : Int) = (s.length : Int) := by rw [hsb]; show ((s.toArray.size : Nat) : Int) = _; simp
 clear hsb
 go_enter Tryd.func3, Tryd.ntmps3
 go_wp2_with fail
 refine (head_spec06 _).mono ?_
 rintro e w1 ⟨rfl, hc1⟩
 have HC1 := hd hc1
 clear hc1
 by_cases hl : 25000 < s.length
 · have q0 : (25000 : Int) < (sb.size : Int) := by rw [hsz]; omega
   go_wp2_with fail
   go_ret
   exact ⟨rfl, HC1.out⟩
 · have q0 : ¬ (25000 : Int) < (sb.size : Int) := by rw [hsz]; omega
   have HS : Hid (s.length ≤ 1000000) := hd (by omega)
   clear hs0 hl hsz
   go_wp2_with fail
   refine parse_hl HS.out HSB (fun h er A ao n cap w2 HPA HNL HL2 HC2 => ?_)
   clear q0
   go_upto_region 5 with fail
   obtain ⟨W, hW⟩ : ∃ W, W = w2.alloc (.cells #[.string ⟨h.name.toArray⟩, .int .i64 (h.sx : Nat), .int .i64 (h.sy : Nat), .slice ao n cap] 27) := ⟨_, rfl⟩
   rw [← hW]
   obtain ⟨H, hH⟩ : ∃ H, H = w2.heap.size := ⟨_, rfl⟩
   rw [← hH]
   have HHB : Hid (Blk W H [.string ⟨h.name.toArray⟩, .int .i64 (h.sx : Nat), .int .i64 (h.sy : Nat), .slice ao n cap] 27) := hd (by rw [hW, hH]; exact Blk.new w2 _ _)
   have HW2 : Hid (Chg [] w2 W) := hd (by rw [hW]; exact (Chg.refl [] w2).alloc _)
   clear hW hH
   go_wp2_with fail
   refine refparse_hl HS.out HSB (fun h5 er5 A5 ao5 n5 cap5 w5 HPA5 HNL5 HL5 HC5 => ?_)
   go_upto_region 6 with fail
   obtain ⟨V, hV⟩ : ∃ V, V = w5.alloc (.cells #[.string ⟨h5.name.toArray⟩, .int .i64 (h5.sx : Nat), .int .i64 (h5.sy : Nat), .slice ao5 n5 cap5] 27) := ⟨_, rfl⟩
   rw [← hV]
   obtain ⟨G, hG⟩ : ∃ G, G = w5.heap.size := ⟨_, rfl⟩
   rw [← hG]
   have HGB : Hid (Blk V G [.string ⟨h5.name.toArray⟩, .int .i64 (h5.sx : Nat), .int .i64 (h5.sy : Nat), .slice ao5 n5 cap5] 27) := hd (by rw [hV, hG]; exact Blk.new w5 _ _)
   have HV5 : Hid (Chg [] w5 V) := hd (by rw [hV]; exact (Chg.refl [] w5).alloc _)
   have HWV := hd (HC5.out.trans HV5.out (by simp))
   have HCV : Hid (Chg [] w V) := hd (((HC1.out.trans HC2.out (by simp)).trans HW2.out (by simp)).trans HWV.out (by simp))
   have HHV := hd (HWV.out.blk HHB.out (by simp))
   have HLV := hd (HL2.out.keep (kp_lv _) (HW2.out.trans HWV.out (by simp)) (TyB.nil _ _ _))
   have HLV5 := hd (HL5.out.keep (kp_lv _) HV5.out (TyB.nil _ _ _))
   clear hV hG
   have hpp := HPA5.out
   rw [HPA.out] at hpp
   obtain ⟨rfl, rfl, rfl⟩ : h = h5 ∧ er = er5 ∧ A = A5 := by
    simp only [Prod.mk.injEq] at hpp
    exact hpp
   clear hpp
   have b0 : ((er : Int) == (er : Int)) = true := beq_self_eq_true _
   have b1 : (A == A) = true := beq_self_eq_true _
   obtain ⟨x0, x1, x2, x3⟩ := HHV.out.c4
   obtain ⟨y0, y1, y2, y3⟩ := HGB.out.c4
   go_wp2_with fail
   refine same_r (p := h) (q := h) (b := true) (hd (Pn.simH_refl6 true h)) HNL HNL5 HLV HLV5 (fun w6 hc6 => ?_)
   clear x0 x1 x2 x3 y0 y1 y2 y3 b0 b1
   have HCE : Hid (Chg [] w w6) := hd (HCV.out.trans hc6 (by simp))
   clear hc6
   go_wp2_with fail
   go_ret
   exact ⟨rfl, HCE.out⟩
end Go.Proofs.YtocadlcglgpdcaaDoor
