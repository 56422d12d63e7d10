/-
 Rule, layer 9: Parse: the deferred closure that recovers.
-/
import Derived.Test.YtgbooiaedbpenaaGreatDoorPrTk
import Derived.Test.YtgbooiaedbpenaaGreatDoorRlH
import Derived.Defers
import Derived.Recover
namespace Go.Proofs.YtgbooiaedbpenaaGreatDoor
set_option linter.unusedVariables false
set_option linter.unusedSimpArgs false
open Go Go.RowKit Go.Shelf
open Lx (Tk)
attribute [local irreducible] Go.wpStill

theorem assert_fault (c p : Int) (w : World) : (Instr.typeAssert (.iface 90 (.agg #[.int .i64 c, .int .i64 p])) 20 90 true).run Tryz.prog w = .ok (.tuple #[.agg #[.int .i64 c, .int .i64 p], .bool true]) w := by kernel_rfl
theorem catch_idle (b2 b3 b4 : Nat) (w : World) :
 CallsD Tryz.prog 21 #[.pointer (some ⟨b2, 0, none⟩), .pointer (some ⟨b3, 0, none⟩), .pointer (some ⟨b4, 0, none⟩)] .returning w fun e u' w' => e = .returned (.tuple #[]) ∧ u' = .returning ∧ w' = w := by
 refine callsD_of_wpS Tryz.func21 rfl fun c₀ cs hu => ?_
 apply wpS_seq
 apply wpS_region
 simp [wpOpsS, go_sem, recoverD, hu, Tryz.ntmps21, Exit.thenS]
 refine wpS_of_wp ?_
 simp only [List.size_toArray, List.length_cons, List.length_nil, Nat.reduceAdd, Nat.reduceSub, Array.replicate_succ,
  Array.replicate_zero, List.push_toArray, List.append_toArray, List.nil_append, List.cons_append, List.setIfInBounds_toArray, List.set_cons_zero, List.set_cons_succ]
 go_wp2_with fail
 cases c₀
 simp_all [bodyPostS, results, Tryz.results21]
set_option maxRecDepth 100000 in
theorem catch_pan (b2 b3 b4 c p : Nat) (w : World) (v2 : Value) (v3 v4 : Int) (h2 : Blk w b2 [v2] 24) (h3 : Blk w b3 [.int .i64 v3] 27) (h4 : Blk w b4 [.int .i64 v4] 3) (hn : b2 < b3 ∧ b3 < b4) (older : List PanicEntry) :
 CallsD Tryz.prog 21 #[.pointer (some ⟨b2, 0, none⟩), .pointer (some ⟨b3, 0, none⟩), .pointer (some ⟨b4, 0, none⟩)] (.panicking ({ v := .iface 90 (.agg #[.int .i64 (c : Int), .int .i64 (p : Int)]), recovered := false } :: older)) w fun e u' w' =>
  e = .returned (.tuple #[]) ∧ u' = .panicking ({ v := .iface 90 (.agg #[.int .i64 (c : Int), .int .i64 (p : Int)]), recovered := true } :: older) ∧ Blk w' b2 [.slice none 0 0] 24 ∧ Blk w' b3 [.int .i64 (c : Int)] 27 ∧ Blk w' b4 [.int .i64 (p : Int)] 3 ∧ Chg [b2, b3, b4] w w' := by
 refine callsD_of_wpS Tryz.func21 rfl fun c₀ cs hu => ?_
 have hta := assert_fault c p
 apply wpS_seq
 apply wpS_region
 simp [wpOpsS, go_sem, recoverD, hu, Tryz.ntmps21, Exit.thenS]
 refine wpS_of_wp ?_
 simp only [List.size_toArray, List.length_cons, List.length_nil, Nat.reduceAdd, Nat.reduceSub, Array.replicate_succ,
  Array.replicate_zero, List.push_toArray, List.append_toArray, List.nil_append, List.cons_append, List.setIfInBounds_toArray, List.set_cons_zero, List.set_cons_succ]
 go_wp2_with fail
 obtain ⟨W, hW⟩ : ∃ W, W = w.alloc (.cells #[.int .i64 (c : Int), .int .i64 (p : Int)] 90) := ⟨_, rfl⟩
 obtain ⟨D, hD⟩ : ∃ D, D = w.heap.size := ⟨_, rfl⟩
 rw [← hW, ← hD]
 have HKD : Hid (Blk W D [.int .i64 (c : Int), .int .i64 (p : Int)] 90) := Lib.hid (by rw [hW, hD]; exact Blk.new w _ _)
 have HC0 : Hid (Chg [b2, b3, b4] w W) := Lib.hid (by rw [hW]; exact (Chg.refl _ _).alloc _)
 have H2 : Hid (Blk W b2 [v2] 24) := Lib.hid (by rw [hW]; exact h2.alloc _)
 have H3 : Hid (Blk W b3 [.int .i64 v3] 27) := Lib.hid (by rw [hW]; exact h3.alloc _)
 have H4 : Hid (Blk W b4 [.int .i64 v4] 3) := Lib.hid (by rw [hW]; exact h4.alloc _)
 have n23 : ¬ b3 = b2 := by omega
 have n24 : ¬ b4 = b2 := by omega
 have n34 : ¬ b4 = b3 := by omega
 have n32 : ¬ b2 = b3 := by omega
 have n42 : ¬ b2 = b4 := by omega
 have n43 : ¬ b3 = b4 := by omega
 have y0 := HKD.out.cell (i := 0) rfl
 have y1 := HKD.out.cell (i := 1) rfl
 have k2 := H2.out.cell (i := 0) rfl
 have k3 := H3.out.cell (i := 0) rfl
 have k4 := H4.out.cell (i := 0) rfl
 have z2 := H2.out.free 0
 have z3 := H3.out.free 0
 have z4 := H4.out.free 0
 have HU := Lib.hid hu
 clear hu hW hD h2 h3 h4 hta
 have nD2 : ¬ D = b2 := by have := HKD.out; have e := H2.out; intro h; subst h; have := this.same e; simp at this
 have nD3 : ¬ D = b3 := by have := HKD.out; have e := H3.out; intro h; subst h; have := this.same e; simp at this
 have nD4 : ¬ D = b4 := by have := HKD.out; have e := H4.out; intro h; subst h; have := this.same e; simp at this
 have n2D : ¬ b2 = D := fun h => nD2 h.symm
 have n3D : ¬ b3 = D := fun h => nD3 h.symm
 have n4D : ¬ b4 = D := fun h => nD4 h.symm
 refine wp_region_held_drew (S := fun W => Blk W D [.int .i64 (c : Int), .int .i64 (p : Int)] 90) (by kernel_rfl) HKD.out (fun hHeld => ?_)
 refine tk 0 ?va0 ?hya0 ?rsa0
 case hya0 => (intro w9 hSw; have d0 := hSw.cell (i := 0) rfl; have d1 := hSw.cell (i := 1) rfl; go_simp; try with_reducible rfl)
 try simp only [qq]
 refine tk 1 ?va1 ?hya1 ?rsa1
 case hya1 => (intro w9 hSw; have d0 := hSw.cell (i := 0) rfl; have d1 := hSw.cell (i := 1) rfl; go_simp; try with_reducible rfl)
 try simp only [qq]
 refine tk 2 ?va2 ?hya2 ?rsa2
 case hya2 => (intro w9 hSw; have d0 := hSw.cell (i := 0) rfl; have d1 := hSw.cell (i := 1) rfl; go_simp; try with_reducible rfl)
 try simp only [qq]
 refine tk 3 ?va3 ?hya3 ?rsa3
 case hya3 => (intro w9 hSw; have d0 := hSw.cell (i := 0) rfl; have d1 := hSw.cell (i := 1) rfl; go_simp; try with_reducible rfl)
 try simp only [qq]
 refine tk 4 ?va4 ?hya4 ?rsa4
 case hya4 => (intro w9 hSw; have d0 := hSw.cell (i := 0) rfl; have d1 := hSw.cell (i := 1) rfl; go_simp; try with_reducible rfl)
 try simp only [qq]
 refine rd1 5 (fun K hK => ?_)
 go_simp
 refine hK.out _ _ (hHeld.other ⟨b2, 0, none⟩ _ nD2) (fun hHeld => ?_)
 clear hK K
 try simp only [qq]
 refine rd1 6 (fun K hK => ?_)
 go_simp
 refine hK.out _ _ (hHeld.other ⟨b3, 0, none⟩ _ nD3) (fun hHeld => ?_)
 clear hK K
 try simp only [qq]
 refine rd1 7 (fun K hK => ?_)
 go_simp
 refine hK.out _ _ (hHeld.other ⟨b4, 0, none⟩ _ nD4) (fun hHeld => ?_)
 clear hK K
 try simp only [qq]
 refine wpAnyH_done (by kernel_rfl) ?_ _
 try simp only [qq]
 go_wp2_with fail
 have hc : Chg [b2, b3, b4] w (((W.setCell ⟨b2, 0, none⟩ (.slice none 0 0)).setCell ⟨b3, 0, none⟩ (.int .i64 (c : Int))).setCell ⟨b4, 0, none⟩ (.int .i64 (p : Int))).drew := (((HC0.out.setCell _ _ (.inl (by simp))).setCell _ _ (.inl (by simp))).setCell _ _ (.inl (by simp))).drew
 simp [bodyPostS, results, Tryz.results21]
 exact ⟨((H2.out.set 0 _).other _ _ n32).other _ _ n42, ((H3.out.other _ _ n23).set 0 _).other _ _ n43, ((H4.out.other _ _ n24).other _ _ n34).set 0 _, hc⟩
end Go.Proofs.YtgbooiaedbpenaaGreatDoor
