/-
  Plan, layer 17: Parse: the deferred closure that recovers.
-/
import Derived.Test.YtocadlcglgpdcaaDoorPnQ
import Derived.Defers
import Derived.Recover
namespace Go.Proofs.YtocadlcglgpdcaaDoor
set_option linter.unusedVariables false
set_option linter.unusedSimpArgs false
open Go Go.RowKit Go.Shelf
open Lx (Tk)
attribute [local irreducible] Go.wpStill

theorem assert_fault (c p : Int) (w : World) : (Instr.typeAssert (.iface 66 (.agg #[.int .i64 c, .int .i64 p])) 20 66 false).run Tryd.prog w = .ok (.agg #[.int .i64 c, .int .i64 p]) w := by kernel_rfl
theorem catch_idle (b2 b3 b4 : Nat) (w : World) :
    CallsD Tryd.prog 18 #[.pointer (some ⟨b2, 0, none⟩), .pointer (some ⟨b3, 0, none⟩), .pointer (some ⟨b4, 0, none⟩)] .returning w fun e u' w' => e = .returned (.tuple #[]) ∧ u' = .returning ∧ w' = w := by
  refine callsD_of_wpS Tryd.func18 rfl fun c₀ cs hu => ?_
  apply wpS_seq
  apply wpS_region
  simp [wpOpsS, go_sem, recoverD, hu, Tryd.ntmps18, Exit.thenS]
  refine wpS_of_wp ?_
  simp only [List.size_toArray, List.length_cons, List.length_nil, Nat.reduceAdd, Nat.reduceSub, Array.replicate_succ,
     Array.replicate_zero, List.push_toArray, List.append_toArray, List.nil_append, List.cons_append, List.setIfInBounds_toArray, List.set_cons_zero, List.set_cons_succ]
  go_wp2_with fail
  cases c₀
  simp_all [bodyPostS, results, Tryd.results18]
set_option maxHeartbeats 400000 in
set_option maxRecDepth 100000 in
theorem catch_pan (b2 b3 b4 c p : Nat) (w : World) (y0 y1 y2 y3 : Value) (v3 v4 : Int) (h2 : Blk w b2 [y0, y1, y2, y3] 27) (h3 : Blk w b3 [.int .i64 v3] 28) (h4 : Blk w b4 [.int .i64 v4] 3) (hn : b2 < b3 ∧ b3 < b4) (older : List PanicEntry) :
    CallsD Tryd.prog 18 #[.pointer (some ⟨b2, 0, none⟩), .pointer (some ⟨b3, 0, none⟩), .pointer (some ⟨b4, 0, none⟩)] (.panicking ({ v := .iface 66 (.agg #[.int .i64 (c : Int), .int .i64 (p : Int)]), recovered := false } :: older)) w fun e u' w' =>
      e = .returned (.tuple #[]) ∧ u' = .panicking ({ v := .iface 66 (.agg #[.int .i64 (c : Int), .int .i64 (p : Int)]), recovered := true } :: older) ∧ Blk w' b2 [.string ⟨#[]⟩, .int .i64 0, .int .i64 0, .slice none 0 0] 27 ∧ Blk w' b3 [.int .i64 (c : Int)] 28 ∧ Blk w' b4 [.int .i64 (p : Int)] 3 ∧ Chg [b2, b3, b4] w w' := by
  refine callsD_of_wpS Tryd.func18 rfl fun c₀ cs hu => ?_
  have hta := assert_fault c p
  apply wpS_seq
  apply wpS_region
  simp [wpOpsS, go_sem, recoverD, hu, Tryd.ntmps18, Exit.thenS]
  refine wpS_of_wp ?_
  simp only [List.size_toArray, List.length_cons, List.length_nil, Nat.reduceAdd, Nat.reduceSub, Array.replicate_succ,
     Array.replicate_zero, List.push_toArray, List.append_toArray, List.nil_append, List.cons_append, List.setIfInBounds_toArray, List.set_cons_zero, List.set_cons_succ]
  go_wp2_with fail
  obtain ⟨W, hW⟩ : ∃ W, W = w.alloc (.cells #[.int .i64 (c : Int), .int .i64 (p : Int)] 66) := ⟨_, rfl⟩
  obtain ⟨D, hD⟩ : ∃ D, D = w.heap.size := ⟨_, rfl⟩
  rw [← hW, ← hD]
  have HKD : Hid (Blk W D [.int .i64 (c : Int), .int .i64 (p : Int)] 66) := Lib.hid (by rw [hW, hD]; exact Blk.new w _ _)
  have HC0 : Hid (Chg [b2, b3, b4] w W) := Lib.hid (by rw [hW]; exact (Chg.refl _ _).alloc _)
  have H2 : Hid (Blk W b2 [y0, y1, y2, y3] 27) := Lib.hid (by rw [hW]; exact h2.alloc _)
  have H3 : Hid (Blk W b3 [.int .i64 v3] 28) := Lib.hid (by rw [hW]; exact h3.alloc _)
  have H4 : Hid (Blk W b4 [.int .i64 v4] 3) := Lib.hid (by rw [hW]; exact h4.alloc _)
  have n23 : ¬ b3 = b2 := by omega
  have n24 : ¬ b4 = b2 := by omega
  have n34 : ¬ b4 = b3 := by omega
  have n32 : ¬ b2 = b3 := by omega
  have n42 : ¬ b2 = b4 := by omega
  have n43 : ¬ b3 = b4 := by omega
  have d0 := HKD.out.cell (i := 0) rfl
  have d1 := HKD.out.cell (i := 1) rfl
  have k20 := H2.out.cell (i := 0) rfl
  have k21 := H2.out.cell (i := 1) rfl
  have k22 := H2.out.cell (i := 2) rfl
  have k23 := H2.out.cell (i := 3) rfl
  have k3 := H3.out.cell (i := 0) rfl
  have k4 := H4.out.cell (i := 0) rfl
  have z20 := H2.out.free 0
  have z21 := H2.out.free 1
  have z22 := H2.out.free 2
  have z23 := H2.out.free 3
  have z3 := H3.out.free 0
  have z4 := H4.out.free 0
  have HU := Lib.hid hu
  clear hu hW hD h2 h3 h4 hta
  have nD2 : ¬ D = b2 := by have := HKD.out; have e := H2.out; intro h; subst h; have := this.same e; simp at this
  have nD3 : ¬ D = b3 := by have := HKD.out; have e := H3.out; intro h; subst h; have := this.same e; simp at this
  have nD4 : ¬ D = b4 := by have := HKD.out; have e := H4.out; intro h; subst h; have := this.same e; simp at this
  have n2D : ¬ b2 = D := fun h => nD2 h.symm
  have n3D : ¬ b3 = D := fun h => nD3 h.symm
  have n4D : ¬ b4 = D := fun h => nD4 h.symm
  refine wp_region_held_drew (S := fun W => Blk W D [.int .i64 (c : Int), .int .i64 (p : Int)] 66) (by kernel_rfl) HKD.out (fun hHeld => ?_)
  refine wpAnyH_take (i := 0) (v := ?va0) rfl (by kernel_rfl) (by kernel_rfl) (by kernel_rfl) (fun _ _ _ h => h) (Or.inl ⟨by kernel_rfl, ?hya0⟩) (by assumption) ?rsa0
  case hya0 => (intro w9 hSw; have d0 := hSw.cell (i := 0) rfl; have d1 := hSw.cell (i := 1) rfl; go_simp; try with_reducible rfl)
  try simp only [Act.put, List.setIfInBounds_toArray, List.set_cons_zero, List.set_cons_succ, List.getElem_toArray, List.getElem_cons_succ, List.getElem_cons_zero]
  refine wpAnyH_take (i := 1) (v := ?va1) rfl (by kernel_rfl) (by kernel_rfl) (by kernel_rfl) (fun _ _ _ h => h) (Or.inl ⟨by kernel_rfl, ?hya1⟩) (by assumption) ?rsa1
  case hya1 => (intro w9 hSw; have d0 := hSw.cell (i := 0) rfl; have d1 := hSw.cell (i := 1) rfl; go_simp; try with_reducible rfl)
  try simp only [Act.put, List.setIfInBounds_toArray, List.set_cons_zero, List.set_cons_succ, List.getElem_toArray, List.getElem_cons_succ, List.getElem_cons_zero]
  refine wpAnyH_take (i := 2) (v := ?va2) rfl (by kernel_rfl) (by kernel_rfl) (by kernel_rfl) (fun _ _ _ h => h) (Or.inl ⟨by kernel_rfl, ?hya2⟩) (by assumption) ?rsa2
  case hya2 => (intro w9 hSw; have d0 := hSw.cell (i := 0) rfl; have d1 := hSw.cell (i := 1) rfl; go_simp; try with_reducible rfl)
  try simp only [Act.put, List.setIfInBounds_toArray, List.set_cons_zero, List.set_cons_succ, List.getElem_toArray, List.getElem_cons_succ, List.getElem_cons_zero]
  refine wpAnyH_take (i := 3) (v := ?va3) rfl (by kernel_rfl) (by kernel_rfl) (by kernel_rfl) (fun _ _ _ h => h) (Or.inl ⟨by kernel_rfl, ?hya3⟩) (by assumption) ?rsa3
  case hya3 => (intro w9 hSw; have d0 := hSw.cell (i := 0) rfl; have d1 := hSw.cell (i := 1) rfl; go_simp; try with_reducible rfl)
  try simp only [Act.put, List.setIfInBounds_toArray, List.set_cons_zero, List.set_cons_succ, List.getElem_toArray, List.getElem_cons_succ, List.getElem_cons_zero]
  refine wpAnyH_take (i := 4) (v := ?va4) rfl (by kernel_rfl) (by kernel_rfl) (by kernel_rfl) (fun _ _ _ h => h) (Or.inl ⟨by kernel_rfl, ?hya4⟩) (by assumption) ?rsa4
  case hya4 => (intro w9 hSw; have d0 := hSw.cell (i := 0) rfl; have d1 := hSw.cell (i := 1) rfl; go_simp; try with_reducible rfl)
  try simp only [Act.put, List.setIfInBounds_toArray, List.set_cons_zero, List.set_cons_succ, List.getElem_toArray, List.getElem_cons_succ, List.getElem_cons_zero]
  refine wpAnyH_ready (rs := [5]) (by kernel_rfl) (by simp) (AllReadyH.cons rfl (fun K hK => ?_) AllReadyH.nil)
  go_simp
  refine hK.out _ _ ((((HKD.out.other ⟨b2, 0, none⟩ _ nD2).other ⟨b2, 1, none⟩ _ nD2).other ⟨b2, 2, none⟩ _ nD2).other ⟨b2, 3, none⟩ _ nD2).drew (fun hHeld => ?_)
  clear hK K
  try simp only [Act.put, List.setIfInBounds_toArray, List.set_cons_zero, List.set_cons_succ, List.getElem_toArray, List.getElem_cons_succ, List.getElem_cons_zero]
  refine wpAnyH_ready (rs := [6]) (by kernel_rfl) (by simp) (AllReadyH.cons rfl (fun K hK => ?_) AllReadyH.nil)
  go_simp
  refine hK.out _ _ (((((HKD.out.other ⟨b2, 0, none⟩ _ nD2).other ⟨b2, 1, none⟩ _ nD2).other ⟨b2, 2, none⟩ _ nD2).other ⟨b2, 3, none⟩ _ nD2).other ⟨b3, 0, none⟩ _ nD3).drew (fun hHeld => ?_)
  clear hK K
  try simp only [Act.put, List.setIfInBounds_toArray, List.set_cons_zero, List.set_cons_succ, List.getElem_toArray, List.getElem_cons_succ, List.getElem_cons_zero]
  refine wpAnyH_ready (rs := [7]) (by kernel_rfl) (by simp) (AllReadyH.cons rfl (fun K hK => ?_) AllReadyH.nil)
  go_simp
  refine hK.out _ _ ((((((HKD.out.other ⟨b2, 0, none⟩ _ nD2).other ⟨b2, 1, none⟩ _ nD2).other ⟨b2, 2, none⟩ _ nD2).other ⟨b2, 3, none⟩ _ nD2).other ⟨b3, 0, none⟩ _ nD3).other ⟨b4, 0, none⟩ _ nD4).drew (fun hHeld => ?_)
  clear hK K
  try simp only [Act.put, List.setIfInBounds_toArray, List.set_cons_zero, List.set_cons_succ, List.getElem_toArray, List.getElem_cons_succ, List.getElem_cons_zero]
  refine wpAnyH_done (by kernel_rfl) ?_ _
  try simp only [Act.put, List.setIfInBounds_toArray, List.set_cons_zero, List.set_cons_succ, List.getElem_toArray, List.getElem_cons_succ, List.getElem_cons_zero]
  go_wp2_with fail
  have hc : Chg [b2, b3, b4] w ((((((W.setCell ⟨b2, 0, none⟩ (.string ⟨#[]⟩)).setCell ⟨b2, 1, none⟩ (.int .i64 0)).setCell ⟨b2, 2, none⟩ (.int .i64 0)).setCell ⟨b2, 3, none⟩ (.slice none 0 0)).setCell ⟨b3, 0, none⟩ (.int .i64 (c : Int))).setCell ⟨b4, 0, none⟩ (.int .i64 (p : Int))).drew := ((((((HC0.out.setCell _ _ (.inl (by simp))).setCell _ _ (.inl (by simp))).setCell _ _ (.inl (by simp))).setCell _ _ (.inl (by simp))).setCell _ _ (.inl (by simp))).setCell _ _ (.inl (by simp))).drew
  simp [bodyPostS, results, Tryd.results18]
  exact ⟨((((((H2.out.set 0 (.string ⟨#[]⟩)).set 1 (.int .i64 0)).set 2 (.int .i64 0)).set 3 (.slice none 0 0)).other ⟨b3, 0, none⟩ (.int .i64 (c : Int)) n32).other ⟨b4, 0, none⟩ (.int .i64 (p : Int)) n42).drew, (((((((H3.out.other ⟨b2, 0, none⟩ (.string ⟨#[]⟩) n23).other ⟨b2, 1, none⟩ (.int .i64 0) n23).other ⟨b2, 2, none⟩ (.int .i64 0) n23).other ⟨b2, 3, none⟩ (.slice none 0 0) n23).set 0 (.int .i64 (c : Int)))).other ⟨b4, 0, none⟩ (.int .i64 (p : Int)) n43).drew, ((((((H4.out.other ⟨b2, 0, none⟩ (.string ⟨#[]⟩) n24).other ⟨b2, 1, none⟩ (.int .i64 0) n24).other ⟨b2, 2, none⟩ (.int .i64 0) n24).other ⟨b2, 3, none⟩ (.slice none 0 0) n24).other ⟨b3, 0, none⟩ (.int .i64 (c : Int)) n34).set 0 (.int .i64 (p : Int))).drew, hc⟩
end Go.Proofs.YtocadlcglgpdcaaDoor
