/-
  Plan, layer 19: the doors of Parse: how it leaves.
-/
import Derived.Test.YtocadlcglgpdcaaDoorPnS
import Derived.Defers
namespace Go.Proofs.YtocadlcglgpdcaaDoor
set_option linter.unusedVariables false
set_option linter.unusedSimpArgs false
open Go Go.RowKit Go.Shelf
open Lx (Tk)
attribute [local go_sem ↓] Go.wp_at_zero Go.wp_at_succ
attribute [local irreducible] Go.wpStill

theorem leaves_frame {P : Program} {fn : Func} {t t' : Array Value} {R : Ending → World → Prop} (h : results fn t' = results fn t) : ∀ (ds : List Deferred) (u : FrameMode) (w : World), Leaves P fn t' R ds u w → Leaves P fn t R ds u w
  | [], .returning, w, ⟨v, h1, h2⟩ => ⟨v, by rw [← h]; exact h1, h2⟩
  | [], .panicking c, w, hh => hh
  | [], .run, w, hh => hh
  | d :: ds, u, w, ⟨hu, fv, cap, f, args, h1, h2, h3⟩ => ⟨hu, fv, cap, f, args, h1, h2, h3.mono (by
      intro e u' w' hh
      cases e with
      | returned v => exact leaves_frame h ds _ _ hh
      | panicked c => exact leaves_frame h ds _ _ hh
      | outgrown => exact hh)⟩
theorem res10 (t : Array Value) (i : Nat) (v : Value) (h2 : i ≠ 2) (h3 : i ≠ 3) (h4 : i ≠ 4) : results Tryd.f10 (t.setIfInBounds i v) = results Tryd.f10 t := by
  simp [results, Tryd.results10]
  rw [Array.getElem?_setIfInBounds_ne h2, Array.getElem?_setIfInBounds_ne h3, Array.getElem?_setIfInBounds_ne h4]
theorem hq10 {P : Program} {R : Ending → World → Prop} (i : Nat) (h2 : i ≠ 2) (h3 : i ≠ 3) (h4 : i ≠ 4) (v : Value) (c : List PanicEntry) (a : Act) (w : World) (h : bodyPostD P Tryd.f10 R (.panic c) (a.put (some i) v) w) : bodyPostD P Tryd.f10 R (.panic c) a w :=
  leaves_frame (res10 a.tmps i v h2 h3 h4) _ _ _ h
/-- The door behind a panic of the parser. -/
theorem door_pan {tmps : Array Value} {R : Ending → World → Prop} {b2 b3 b4 c p : Nat} {y0 y1 y2 y3 : Value} {v3 v4 : Int} {w : World} (t2 : tmps.getD 2 undef = .pointer (some ⟨b2, 0, none⟩)) (t3 : tmps.getD 3 undef = .pointer (some ⟨b3, 0, none⟩)) (t4 : tmps.getD 4 undef = .pointer (some ⟨b4, 0, none⟩))
    (h2 : Blk w b2 [y0, y1, y2, y3] 27) (h3 : Blk w b3 [.int .i64 v3] 28) (h4 : Blk w b4 [.int .i64 v4] 3) (hn : b2 < b3 ∧ b3 < b4)
    (hR : ∀ w', Chg [b2, b3, b4] w w' → R (.returned (.tuple #[.agg #[.string ⟨#[]⟩, .int .i64 0, .int .i64 0, .slice none 0 0], .int .i64 (c : Int), .int .i64 (p : Int)])) w') :
    Leaves Tryd.prog Tryd.f10 tmps R [{ target := .fn (.func 18) #[.pointer (some ⟨b2, 0, none⟩), .pointer (some ⟨b3, 0, none⟩), .pointer (some ⟨b4, 0, none⟩)], args := #[] }] (.panicking [{ v := .iface 66 (.agg #[.int .i64 (c : Int), .int .i64 (p : Int)]), recovered := false }]) w := by
  refine leaves_cons (f := 18) (args := #[.pointer (some ⟨b2, 0, none⟩), .pointer (some ⟨b3, 0, none⟩), .pointer (some ⟨b4, 0, none⟩)]) (by simp) (by simp [go_sem]) ?_
  refine (catch_pan b2 b3 b4 c p w y0 y1 y2 y3 v3 v4 h2 h3 h4 hn []).mono ?_
  rintro e u' w' ⟨rfl, rfl, k2, k3, k4, hc⟩
  have c20 := k2.cell (i := 0) rfl
  have c21 := k2.cell (i := 1) rfl
  have c22 := k2.cell (i := 2) rfl
  have c23 := k2.cell (i := 3) rfl
  have c3 := k3.cell (i := 0) rfl
  have c4 := k4.cell (i := 0) rfl
  have hs : settle (.panicking [{ v := .iface 66 (.agg #[.int .i64 (c : Int), .int .i64 (p : Int)]), recovered := true }]) = .returning := by simp [settle]
  show Leaves _ _ _ _ [] (settle _) w'
  rw [hs]
  refine ⟨.tuple #[.agg #[.string ⟨#[]⟩, .int .i64 0, .int .i64 0, .slice none 0 0], .int .i64 (c : Int), .int .i64 (p : Int)], ?_, hR w' hc⟩
  rw [Array.getD_eq_getD_getElem?] at t2 t3 t4
  simp [results, Tryd.results10, go_sem, t2, t3, t4, c20, c21, c22, c23, c3, c4]
theorem door_ret {tmps : Array Value} {R : Ending → World → Prop} {b2 b3 b4 : Nat} {y0 y1 y2 y3 : Value} {v3 v4 : Int} {w : World} (t2 : tmps.getD 2 undef = .pointer (some ⟨b2, 0, none⟩)) (t3 : tmps.getD 3 undef = .pointer (some ⟨b3, 0, none⟩)) (t4 : tmps.getD 4 undef = .pointer (some ⟨b4, 0, none⟩))
    (h2 : Blk w b2 [y0, y1, y2, y3] 27) (h3 : Blk w b3 [.int .i64 v3] 28) (h4 : Blk w b4 [.int .i64 v4] 3) (hR : R (.returned (.tuple #[.agg #[y0, y1, y2, y3], .int .i64 v3, .int .i64 v4])) w) :
    Leaves Tryd.prog Tryd.f10 tmps R [{ target := .fn (.func 18) #[.pointer (some ⟨b2, 0, none⟩), .pointer (some ⟨b3, 0, none⟩), .pointer (some ⟨b4, 0, none⟩)], args := #[] }] .returning w := by
  refine leaves_cons (f := 18) (args := #[.pointer (some ⟨b2, 0, none⟩), .pointer (some ⟨b3, 0, none⟩), .pointer (some ⟨b4, 0, none⟩)]) (by simp) (by simp [go_sem]) ?_
  refine (catch_idle b2 b3 b4 w).mono ?_
  rintro e u' w' ⟨rfl, rfl, rfl⟩
  have c20 := h2.cell (i := 0) rfl
  have c21 := h2.cell (i := 1) rfl
  have c22 := h2.cell (i := 2) rfl
  have c23 := h2.cell (i := 3) rfl
  have c3 := h3.cell (i := 0) rfl
  have c4 := h4.cell (i := 0) rfl
  refine ⟨.tuple #[.agg #[y0, y1, y2, y3], .int .i64 v3, .int .i64 v4], ?_, hR⟩
  rw [Array.getD_eq_getD_getElem?] at t2 t3 t4
  simp [results, Tryd.results10, go_sem, t2, t3, t4, c20, c21, c22, c23, c3, c4]
/-- What Parse hands back. -/
def Parsed (w : World) (o : Pn.Hl × Nat × Int) (e : Ending) (w' : World) : Prop := ∃ v, e = .returned (.tuple #[.agg #[.string ⟨o.1.name.toArray⟩, .int .i64 (o.1.sx : Nat), .int .i64 (o.1.sy : Nat), v], .int .i64 (o.2.1 : Nat), .int .i64 o.2.2]) ∧ ListS w.heap.size 47 8 (Clv w.heap.size) o.1.levels v w' ∧ Chg [] w w'
end Go.Proofs.YtocadlcglgpdcaaDoor
