/-
  Layer 8: the contract of tokens: the iterator's closure.
-/
import Derived.Test.YtocadlcglgpdcaaDoorLxD
import Derived.Laws.EntriesVeiled
namespace Go.Proofs.YtocadlcglgpdcaaDoor
set_option linter.unusedVariables false
set_option linter.unusedSimpArgs false
open Go Go.RowKit
attribute [local irreducible] Lx.tab Lx.tab0 Lx.cls
theorem tab_cells (W : World) (B : Nat) (ht : W.there B 0 256) : (storeCells ⟨B, 0, none⟩ Lx.tab).run Tryd.prog W = .ok () (W.setCells B 0 Lx.tab) := by
  have h := run_storeCells_cells (P := Tryd.prog) B 0 Lx.tab 0 W (fun j hj => by simpa using (ht j (by rw [Lx.tab_len] at hj; exact hj)).1) (fun j hj => by simpa using (ht j (by rw [Lx.tab_len] at hj; exact hj)).2)
    (fun v hv => (Array.all_eq_true_iff_forall_mem.1 tab_one) v (by simpa using hv))
  simp only [Nat.add_zero] at h
  exact h
set_option maxRecDepth 100000 in
theorem zero_blk (W : World) : Blk (W.alloc (.cells Tryd.zeroCells96 96)) W.heap.size (Lx.tab0 0) 96 := by
  rw [Lx.tab0_zero]
  exact Blk.new W (List.replicate 256 (Value.int .u8 0)) 96
theorem zero_cells (W : World) : ∃ W2, (storeCells ⟨W.heap.size, 0, none⟩ Lx.tab).run Tryd.prog (W.alloc (.cells Tryd.zeroCells96 96)) = .ok () W2 ∧ Blk W2 W.heap.size Lx.tab 96 ∧ Chg [] W W2 := by
  refine ⟨_, tab_cells _ _ ((zero_blk W).there (Lx.tab0_len 0).symm), ?_⟩
  have h := setCells_blk W.heap.size 96 Lx.tab 0 _ (Lx.tab0 0) (zero_blk W) (by rw [Lx.tab_len, Lx.tab0_len]; omega)
  have h1 := h.1
  rw [List.take_zero, List.nil_append, Lx.tab_len, List.drop_of_length_le (by rw [Lx.tab0_len]; omega), List.append_nil] at h1
  exact ⟨h1, ((Chg.refl [] W).alloc _).trans h.2 (fun j hj => .inr (by rw [List.mem_singleton] at hj; rw [hj]; exact Nat.le_refl _))⟩
set_option maxRecDepth 100000 in
set_option maxHeartbeats 1000000 in
theorem tokens_spec (w : World) (s : ByteArray) :
    Calls Tryd.prog 32 #[.string s] w fun e w' => ∃ bt bc ba : Nat, e = .returned (.func (.func 44) #[] #[.pointer (some ⟨bt, 0, none⟩), .pointer (some ⟨ba, 0, none⟩)]) ∧
      w'.cell? ⟨bt, 0, none⟩ = some (.string s) ∧ Blk w' bc Lx.tab 96 ∧ w'.cell? ⟨ba, 0, none⟩ = some (.func (.func 43) #[] #[.pointer (some ⟨bt, 0, none⟩), .pointer (some ⟨bc, 0, none⟩)]) ∧
      w.heap.size ≤ bt ∧ w.heap.size ≤ bc ∧ w.heap.size ≤ ba ∧ Chg [] w w' := by
  have htl := Lx.tab_len
  go_enter Tryd.func32, Tryd.ntmps32
  go_wp2_with (go_at_call 42; refine (classes_spec _).mono ?_; rintro e w1 ⟨rfl, hc1⟩; have HC1 := Lib.hid hc1; clear hc1; obtain ⟨w2, hz, hb2, hc2⟩ := zero_cells w1; have HB2 := Lib.hid hb2; have HC2 := Lib.hid hc2; clear hb2 hc2)
  have b0 := Blk.new w [.string s] 9
  have z1 : w.heap.size + 1 ≤ w1.heap.size := by have := HC1.out.size; rwa [World.size_alloc] at this
  have z2 := HC2.out.size
  have b1 := HC2.out.blk (HC1.out.blk b0 (by simp)) (by simp)
  have c1 : Chg [] w w1 := ((Chg.refl [] w).alloc _).trans HC1.out (by simp)
  refine bodyPost_ret (v := .func (.func 44) #[] #[.pointer (some ⟨w.heap.size, 0, none⟩), .pointer (some ⟨w2.heap.size, 0, none⟩)]) (by simp [results, Tryd.results32, go_sem]) rfl
    ⟨w.heap.size, w1.heap.size, w2.heap.size, rfl, (b1.alloc _).cell (i := 0) rfl, HB2.out.alloc _, (Blk.new w2 [_] _).cell (i := 0) rfl, Nat.le_refl _, by omega, by omega, (c1.trans HC2.out (by simp)).alloc _⟩
end Go.Proofs.YtocadlcglgpdcaaDoor
