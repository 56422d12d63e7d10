/-
  Rule, layer 12: comparing lists of rules; the token at an offset.
-/
import Derived.Test.YtmfjebpefneboaaDoorRlK
import Derived.Test.YtmfjebpefneboaaDoorLxW
import Derived.Test.YtmfjebpefneboaaDoorRlO
namespace Go.Proofs.YtmfjebpefneboaaDoor
set_option linter.unusedVariables false
set_option linter.unusedSimpArgs false
open Go Go.RowKit Go.Shelf
open Lx (Tk)
attribute [local irreducible] Go.wpStill

def SimL (fl : Bool) (a b : List Rl.Itm) : Prop := a.length = b.length ∧ ∀ (i : Nat) (x y : Rl.Itm), a[i]? = some x → b[i]? = some y → SimI fl x y
theorem SimL.refl (a : List Rl.Itm) : SimL true a a := ⟨rfl, fun i x y h1 h2 => by
  rw [h1] at h2
  cases h2
  exact SimI.refl x⟩
theorem simL_of_ren {f g : Nat → Nat} {a b : List Rl.Itm} (h : a.map (Rl.renI f) = b.map (Rl.renI g)) : SimL false a b := by
  refine ⟨by have := congrArg List.length h; simpa using this, fun i x y h1 h2 => simI_of_ren (f := f) (g := g) ?_⟩
  have h3 : (a.map (Rl.renI f))[i]? = (b.map (Rl.renI g))[i]? := by rw [h]
  rw [List.getElem?_map, List.getElem?_map, h1, h2] at h3
  simpa using h3
set_option maxHeartbeats 1000000 in
set_option maxRecDepth 100000 in
theorem same_rules (w : World) (a b : List Rl.Itm) (fl : Bool) (H : Hid (SimL fl a b)) (B B' : Nat) (v v' : Value) (HU : Hid (ListS B 42 9 (Ci B) a v w)) (HV : Hid (ListS B' 42 9 (Ci B') b v' w)) :
    Calls Tryd.prog 13 #[.agg #[v], .agg #[v'], .bool fl] w fun e w' => e = .returned (.bool true) ∧ Chg [] w w' := by
  obtain ⟨ao, ac, rfl⟩ := HU.out.form
  obtain ⟨bo, bc, rfl⟩ := HV.out.form
  obtain ⟨m, hm⟩ : ∃ m, a.length = m := ⟨_, rfl⟩
  have hm' : b.length = m := H.out.1.symm.trans hm
  rw [hm] at HU
  rw [hm'] at HV
  rw [hm, hm']
  have hml := HU.out.len_le
  rw [hm] at hml
  have HM := Lib.hid hm
  have HM' := Lib.hid hm'
  clear hm hm'
  go_enter Tryd.func13, Tryd.ntmps13
  go_upto_region 3 with fail
  obtain ⟨W, hW⟩ : ∃ W, W = (w.alloc (.cells #[.slice ao m ac] 25)).alloc (.cells #[.slice bo m bc] 25) := ⟨_, rfl⟩
  rw [← hW]
  obtain ⟨X2, hX2⟩ : ∃ X2, X2 = w.heap.size + 1 := ⟨_, rfl⟩
  rw [← hX2]
  obtain ⟨X1, hX1⟩ : ∃ X1, X1 = w.heap.size := ⟨_, rfl⟩
  rw [← hX1]
  have HC0 : Hid (Chg [] w W) := Lib.hid (by rw [hW]; exact ((Chg.refl _ _).alloc _).alloc _)
  have HX1 : Hid (Blk W X1 [.slice ao m ac] 25) := Lib.hid (by rw [hW, hX1]; exact (Blk.new w _ _).alloc _)
  have HX2 : Hid (Blk W X2 [.slice bo m bc] 25) := Lib.hid (by rw [hW, hX2]; have := Blk.new (w.alloc (.cells #[.slice ao m ac] 25)) [.slice bo m bc] 25; simpa using this)
  clear hW hX1 hX2
  have HUW : Hid (ListS B 42 9 (Ci B) a (.slice ao m ac) W) := Lib.hid (HU.out.keep (kp_i _) HC0.out (TyB.nil _ _ _))
  have HVW : Hid (ListS B' 42 9 (Ci B') b (.slice bo m bc) W) := Lib.hid (HV.out.keep (kp_i _) HC0.out (TyB.nil _ _ _))
  go_wp2_with fail
  go_loopw [7] (fun i wr => ∃ j : Nat, i = .int .i64 (j : Int) ∧ j ≤ m ∧ Hid (Chg [] W wr)) (fun i _ => m - (intOf i).toNat)
  case atStart => exact ⟨0, rfl, Nat.zero_le _, Lib.hid (Chg.refl _ _)⟩
  case round =>
    obtain ⟨j, rfl, hj, HCR⟩ := hrel
    have v2 := (HCR.out.blk HX1.out (by simp)).cell (i := 0) rfl
    have w2 := (HCR.out.blk HX2.out (by simp)).cell (i := 0) rfl
    by_cases hlt : j < m
    · obtain ⟨x, hx⟩ : ∃ x, a[j]? = some x := ⟨a[j]'(by rw [HM.out]; exact hlt), by simp⟩
      obtain ⟨y, hy⟩ : ∃ y, b[j]? = some y := ⟨b[j]'(by rw [HM'.out]; exact hlt), by simp⟩
      have HSI := Lib.hid (H.out.2 j x y hx hy)
      obtain ⟨g, cap, uo, uc, e1, e2, e3, a0, a1, a2, a3, a4, a5, a6, a7, a8⟩ := itm_get (HUW.out.keep (kp_i _) HCR.out (TyB.nil _ _ _)) hx
      obtain ⟨g', cap', vo, vc, f1, f2, f3, b0, b1, b2, b3, b4, b5, b6, b7, b8⟩ := itm_get (HVW.out.keep (kp_i _) HCR.out (TyB.nil _ _ _)) hy
      rw [HM.out] at e1 e2
      rw [HM'.out] at f1 f2
      simp only [Value.slice.injEq, true_and] at e1 f1
      obtain ⟨rfl, rfl⟩ := e1
      obtain ⟨rfl, rfl⟩ := f1
      have HE3 := Lib.hid e3
      have HF3 := Lib.hid f3
      have q0 : (0 : Int) ≤ (j : Int) := by omega
      have q1 : (j : Int) < (m : Int) := by omega
      have q2 : (j : Int) ≤ (ac : Int) := by omega
      have q3 : (j : Int) ≤ (bc : Int) := by omega
      have qj : ((j : Int)).toNat = j := by omega
      obtain ⟨lx, hlx⟩ : ∃ n, x.whn.length = n := ⟨_, rfl⟩
      obtain ⟨ly, hly⟩ : ∃ n, y.whn.length = n := ⟨_, rfl⟩
      rw [hlx] at HE3 a2
      rw [hly] at HF3 b2
      clear hx hy e3 f3 hlx hly
      go_wp2_with fail
      refine wp_region_tail 11 (by kernel_rfl) (by kernel_rfl) (fun L hL => ?_)
      simp only [List.take_succ_cons, List.take_zero, List.drop_succ_cons, List.drop_zero] at hL ⊢
      repeat still_step
      refine wpStill_nil (hL _ ?_)
      clear hL L
      go_wp2_with fail
      refine (sameitem_spec _ x y fl HSI B B' uo vo lx ly uc vc (Lib.hid (HE3.out.keep (kp_r _) (Chg.refl [] _).drew (TyB.nil _ _ _))) (Lib.hid (HF3.out.keep (kp_r _) (Chg.refl [] _).drew (TyB.nil _ _ _)))).mono ?_
      rintro e9 w9 ⟨rfl, hc9⟩
      have HC9 : Hid (Chg [] W w9) := Lib.hid (HCR.out.trans (Chg.ofDrew hc9) (by simp))
      clear hc9
      go_wp2_with fail
      refine ⟨?_, by simp [intOf]; omega⟩
      first | exact ⟨j + 1, vint (by omega), by omega, HC9⟩ | ((repeat apply Exists.intro); exact ⟨⟨j + 1, vint (by omega), by omega, HC9⟩, rfl⟩)
    · have q1 : ¬ (j : Int) < (m : Int) := by omega
      go_wp2_with fail
      go_ret
      exact ⟨rfl, HC0.out.trans HCR.out (by simp)⟩
set_option maxRecDepth 100000 in
theorem token_spec (w : World) (v : Value) (l : List Tk) (HV : Hid (TokS w v l)) (hl : l.length ≤ 1000000) (o : Nat) :
    Calls Tryd.prog 18 #[v, .int .i64 (o : Int)] w fun e w' => e = .returned (.agg #[.int .i64 (tokAt l o).kind, .string ⟨(tokAt l o).text.toArray⟩, .int .i64 (tokAt l o).n, .int .i64 (tokAt l o).at_]) ∧ Chg [] w w' := by
  obtain ⟨ao, cap, rfl⟩ := HV.out.frm
  obtain ⟨m, hm⟩ : ∃ m, l.length = m := ⟨_, rfl⟩
  rw [hm] at HV hl ⊢
  have HM := Lib.hid hm
  clear hm
  go_enter Tryd.func18, Tryd.ntmps18
  go_upto_region 1 with fail
  obtain ⟨W, hW⟩ : ∃ W, W = w.alloc (.cells #[.int .i64 0, .string ⟨#[]⟩, .int .i64 0, .int .i64 0] 44) := ⟨_, rfl⟩
  rw [← hW]
  obtain ⟨X, hX⟩ : ∃ X, X = w.heap.size := ⟨_, rfl⟩
  rw [← hX]
  have HC0 : Hid (Chg [] w W) := Lib.hid (by rw [hW]; exact (Chg.refl _ _).alloc _)
  have HX : Hid (Blk W X [.int .i64 0, .string ⟨#[]⟩, .int .i64 0, .int .i64 0] 44) := Lib.hid (by rw [hW, hX]; exact Blk.new w _ _)
  have HT : Hid (TokS W (.slice ao m cap) l) := Lib.hid (HV.out.quiet HC0.out)
  have HXN : Hid (w.heap.size ≤ X) := Lib.hid (by omega)
  clear hW hX
  have x0 := HX.out.cell (i := 0) rfl
  have x1 := HX.out.cell (i := 1) rfl
  have x2 := HX.out.cell (i := 2) rfl
  have x3 := HX.out.cell (i := 3) rfl
  have f0 := HX.out.free 0
  have f1 := HX.out.free 1
  have f2 := HX.out.free 2
  have f3 := HX.out.free 3
  go_wp2_with fail
  go_loop [5] (fun i => ∃ j : Nat, i = .int .i64 (j : Int) ∧ j ≤ m ∧ Hid (∀ t ∈ l.take j, t.at_ ≠ o)) (fun i => m - (intOf i).toNat)
  case atStart => exact ⟨0, rfl, Nat.zero_le _, Lib.hid (by simp)⟩
  case round =>
    obtain ⟨j, rfl, hj, HNO⟩ := hrel
    by_cases hlt : j < m
    · obtain ⟨t, ht⟩ : ∃ t, l[j]? = some t := ⟨l[j]'(by rw [HM.out]; exact hlt), by simp⟩
      obtain ⟨g, off, rfl, c0, c1, c2, c3⟩ := HT.out.get ht
      have q0 : (0 : Int) ≤ (j : Int) := by omega
      have q1 : (j : Int) < (m : Int) := by omega
      have HG := Lib.hid ht
      clear ht
      by_cases hat : t.at_ = o
      · have n0 : ((t.at_ : Int) == (o : Int)) = true := by simp [hat]
        have HAT := Lib.hid hat
        clear hat
        have HTA : Hid (tokAt l o = t) := Lib.hid (by
          have hlt' := (List.getElem?_eq_some_iff.1 HG.out)
          rw [tokAt_drop HNO.out, List.drop_eq_getElem_cons hlt'.1, hlt'.2]
          unfold tokAt
          rw [List.find?_cons, show (t.at_ == o) = true by simp [HAT.out]]
          rfl)
        go_wp2_with fail
        refine bodyPost_ret (v := .agg #[.int .i64 t.kind, .string ⟨t.text.toArray⟩, .int .i64 t.n, .int .i64 t.at_]) (by simp [results, Tryd.results18, go_sem, x0, x1, x2, x3]) rfl ⟨by rw [HTA.out], ?_⟩
        exact (((HC0.out.setCell _ _ (.inr HXN.out)).setCell _ _ (.inr HXN.out)).setCell _ _ (.inr HXN.out)).setCell _ _ (.inr HXN.out)
      · have n0 : ((t.at_ : Int) == (o : Int)) = false := beq_eq_false_iff_ne.2 (by omega)
        have HAT := Lib.hid hat
        clear hat
        go_wp2_with fail
        go_round
        case rel =>
          refine ⟨j + 1, vint (by omega), by omega, Lib.hid (fun u hu => ?_)⟩
          rw [List.take_add_one, HG.out] at hu
          rcases List.mem_append.1 hu with h | h
          · exact HNO.out u h
          · simp at h
            rw [h]
            exact HAT.out
        case measure => simp [intOf]; omega
    · have q1 : ¬ (j : Int) < (m : Int) := by omega
      have HTA : Hid (tokAt l o = ⟨0, [], 0, 0⟩) := Lib.hid (by
        rw [tokAt_drop HNO.out, List.drop_of_length_le (by rw [HM.out]; omega)]
        rfl)
      go_wp2_with fail
      refine bodyPost_ret (v := .agg #[.int .i64 0, .string ⟨#[]⟩, .int .i64 0, .int .i64 0]) (by simp [results, Tryd.results18, go_sem, x0, x1, x2, x3]) rfl ⟨by rw [HTA.out]; rfl, ?_⟩
      exact (((HC0.out.setCell _ _ (.inr HXN.out)).setCell _ _ (.inr HXN.out)).setCell _ _ (.inr HXN.out)).setCell _ _ (.inr HXN.out)
end Go.Proofs.YtmfjebpefneboaaDoor
