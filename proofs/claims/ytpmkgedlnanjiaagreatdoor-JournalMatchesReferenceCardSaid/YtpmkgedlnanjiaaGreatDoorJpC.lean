/-
  Journal: texts of zeros; what a new list lies beside; a journal that does not move.
-/
import Derived.Test.YtpmkgedlnanjiaaGreatDoorJpB
import Derived.Test.YtpmkgedlnanjiaaGreatDoorJnK
import Derived.Test.YtpmkgedlnanjiaaGreatDoorJnH
namespace Go.Proofs.YtpmkgedlnanjiaaGreatDoor
set_option linter.unusedVariables false
set_option linter.unusedSimpArgs false
set_option maxRecDepth 100000
open Go Go.RowKit
attribute [local irreducible] Go.wpStill
theorem text_r {w : World} (n : Nat) (hn : n ≤ 1000000) {R : Ending → World → Prop} (h : ∀ w', Chg [] w w' → R (.returned (.string ⟨(List.replicate n (0 : UInt8)).toArray⟩)) w') :
    Calls Tryz.prog 33 #[.int .i64 (n : Int)] w R := by
  have HRR := Lib.hid h
  clear h
  have hmk := make_bytes n hn
  go_enter Tryz.func33, Tryz.ntmps33
  have hcv : (convert 56 9 (.slice (some ⟨w.heap.size, 0, none⟩) n n)).run Tryz.prog (w.alloc (.cells ((List.replicate n (0 : UInt8)).map B8).toArray 5)) = .ok (.string ⟨(List.replicate n (0 : UInt8)).toArray⟩) (w.alloc (.cells ((List.replicate n (0 : UInt8)).map B8).toArray 5)) := by
    have hrun' : (Conv.bytesToString (.slice (some ⟨w.heap.size, 0, none⟩) n n)).run Tryz.prog (w.alloc (.cells ((List.replicate n (0 : UInt8)).map B8).toArray 5)) = .ok (.string ⟨(List.replicate n (0 : UInt8)).toArray⟩) _ := run_bytes_of (l := List.replicate n 0) (Blk.new w ((List.replicate n (0 : UInt8)).map B8) _) (by simp) (fun j hj => by rw [Nat.zero_add])
    rw [run_convert_bytes_string _ _ _ 5 _ _ _ Tryz.underlying56 Tryz.underlying5 Tryz.underlying9]
    exact hrun'
  obtain ⟨Z, hZ⟩ : ∃ Z, Z = ((List.replicate n (0 : UInt8)).map B8).toArray := ⟨_, rfl⟩
  rw [← hZ] at hmk hcv
  clear hZ
  go_wp2_with fail
  exact HRR.out _ ((Chg.refl _ _).alloc _)
theorem lst_new {A : List Nat} {w : World} (hA : ∀ k ∈ A, k < w.heap.size) {l : List Bytes} {cs : Array Value} {n : Nat} (hc : cs = (l.map vstr).toArray) (hn : n = l.length) : Lst A (w.alloc (.cells cs 9)) (.slice (some ⟨w.heap.size, 0, none⟩) n n) l := by
  subst hc
  refine ⟨Strs.blk (Blk.new w _ _) hn, fun _ ad n c he => ?_⟩
  cases he
  refine ⟨fun hm => ?_, by simp⟩
  have := hA _ hm
  simp only at this
  omega
/-- A journal beside a zone. -/
def JB (B : Nat) (A : List Nat) (w : World) (b p : Nat) (j : Jn.J) (v : Value) : Prop := JR w B b p j v ∧ b ∉ A ∧ ∀ k, v.ownBlock = some k → k ∉ A
theorem JB.to {B : Nat} {A A' : List Nat} {w w' : World} {b p : Nat} {j : Jn.J} {v : Value} (h : JB B A w b p j v) (ht : To A w A' w') : JB B A' w' b p j v :=
  ⟨h.1.quiet ht.1 h.2.1 h.2.2, fun hm => by rcases ht.2 b hm with h1 | h1; exact h.2.1 h1; (have := h.1.blk.lt; omega), fun k hk hm => by rcases ht.2 k hm with h1 | h1; exact h.2.2 k hk h1; (have := (h.1.own.ge k hk).2; omega)⟩
theorem JB.less {B : Nat} {A A' : List Nat} {w : World} {b p : Nat} {j : Jn.J} {v : Value} (h : JB B A w b p j v) (hs : ∀ k ∈ A', k ∈ A) : JB B A' w b p j v := ⟨h.1, fun hm => h.2.1 (hs _ hm), fun k hk hm => h.2.2 k hk (hs k hm)⟩
theorem pair3 {α β γ : Type} {a a' : α} {b b' : β} {c c' : γ} (h : ((a, b), c) = ((a', b'), c')) : a = a' ∧ b = b' ∧ c = c' := by cases h; exact ⟨rfl, rfl, rfl⟩
/-- Without a disk. -/
theorem open_nil (w : World) {R : Ending → World → Prop} (h : R (.returned (.tuple #[.pointer none, .slice none 0 0, .int .i64 1])) w) : Calls Tryz.prog 7 #[.pointer none] w R := by
  go_enter Tryz.func7, Tryz.ntmps7
  go_wp2_with fail
  go_ret3
  exact h
/-- Without a journal. -/
theorem append_nil (w : World) (v : Value) {R : Ending → World → Prop} (h : ∀ w', Chg [] w w' → R (.returned (.int .i64 1)) w') : Calls Tryz.prog 13 #[.pointer none, v] w R := by
  have HRR := Lib.hid h
  clear h
  go_enter_defers Tryz.func13, Tryz.ntmps13
  go_upto_block 0 with (fail)
  obtain ⟨w1, hw1⟩ : ∃ W, W = (w.alloc (.cells #[.pointer none] 25)).alloc (.cells #[.int .i64 0] 27) := ⟨_, rfl⟩
  rw [← hw1]
  obtain ⟨b2, hb2⟩ : ∃ b, b = w.heap.size := ⟨_, rfl⟩
  obtain ⟨b4, hb4⟩ : ∃ b, b = w.heap.size + 1 := ⟨_, rfl⟩
  rw [← hb4, ← hb2]
  have C1 : Hid (Chg [] w w1) := Lib.hid (by rw [hw1]; exact ((Chg.refl _ _).alloc _).alloc _)
  have HK2 : Hid (Blk w1 b2 [.pointer none] 25) := Lib.hid (by rw [hw1, hb2]; exact (Blk.new w _ _).alloc _)
  have HK4 : Hid (Blk w1 b4 [.int .i64 0] 27) := Lib.hid (by rw [hw1, hb4]; have := Blk.new (w.alloc (.cells #[.pointer none] 25)) [.int .i64 0] 27; simpa using this)
  have HB4 : Hid (w.heap.size ≤ b4) := Lib.hid (by omega)
  clear hw1 hb2 hb4
  have c2 := HK2.out.cell (i := 0) rfl
  have c4 := HK4.out.cell (i := 0) rfl
  have f4 := HK4.out.free 0
  go_wp2_with fail
  refine door_0 rfl ((HK4.out.set 0 (.int .i64 1)).cell (i := 0) rfl) (HRR.out _ (C1.out.trans ((Chg.refl [b4] w1).setCell _ _ (.inl (by simp))) (fun k hk => .inr (by rw [List.mem_singleton.1 hk]; exact HB4.out))))
end Go.Proofs.YtpmkgedlnanjiaaGreatDoor
