/-
 Printer, layer 6: a writer of lines: what it is to have written, its depth, and whether all was as required.
-/
import Derived.Test.YtgbooiaedbpenaaGreatDoorPrE
import Derived.Test.YtgbooiaedbpenaaGreatDoorPrF
namespace Go.Proofs.YtgbooiaedbpenaaGreatDoor
set_option linter.unusedVariables false
set_option linter.unusedSimpArgs false
open Go Go.RowKit Go.Shelf

/-- The cells behind a builder turn. -/
theorem BW.rest {T : TypeId} {b : Nat} {o : Bytes} {rest rest' : List Value} {v p : Value} {w w' : World} (h : BW T b o rest v w) (hc : Chg [b] w w') (hp : p = .pointer none ∨ p = .pointer (some ⟨b, 0, none⟩)) (hb : Blk w' b (p :: v :: rest') T) : BW T b o rest' v w' :=
 ⟨⟨p, hp, hb⟩, owns_keep h.own hc (fun k hk => by have := h.ge k hk; simp; omega), h.nil⟩
/-- A builder where only memory was made, or other blocks were written. -/
theorem BW.keep {T : TypeId} {b : Nat} {o : Bytes} {rest : List Value} {v : Value} {own : List Nat} {w w' : World} (h : BW T b o rest v w) (hc : Chg own w w') (h1 : b ∉ own) (h2 : ∀ k, v.ownBlock = some k → k ∉ own) : BW T b o rest v w' := by
 obtain ⟨p, hp, hb⟩ := h.blk
 exact ⟨⟨p, hp, hc.blk hb h1⟩, owns_keep h.own hc h2, h.nil⟩
theorem BW.quiet {T : TypeId} {b : Nat} {o : Bytes} {rest : List Value} {v : Value} {w w' : World} (h : BW T b o rest v w) (hc : Chg [] w w') : BW T b o rest v w' := h.keep hc (by simp) (fun _ _ => by simp)
/-- A writer of lines at block b. -/
def Wst (T : TypeId) (b : Nat) (deep : Nat) (bad : Bool) (out : Bytes) (v : Value) (w : World) : Prop :=
 ∃ o : Bytes, BW T b o [.int .i64 (deep : Int), .bool bad] v w ∧ o.length ≤ 2000000 ∧ (bad = false → o = out)
theorem Wst.quiet {T : TypeId} {b deep : Nat} {bad : Bool} {out : Bytes} {v : Value} {w w' : World} (h : Wst T b deep bad out v w) (hc : Chg [] w w') : Wst T b deep bad out v w' := by
 obtain ⟨o, h1, h2⟩ := h
 exact ⟨o, h1.quiet hc, h2⟩
theorem Wst.lt {T : TypeId} {b deep : Nat} {bad : Bool} {out : Bytes} {v : Value} {w : World} (h : Wst T b deep bad out v w) : b < w.heap.size := by
 obtain ⟨o, h1, _⟩ := h
 exact h1.lt
/-- What was not as required stays so. -/
theorem Wst.bad {T : TypeId} {b deep : Nat} {out out' : Bytes} {v : Value} {w : World} (h : Wst T b deep true out v w) : Wst T b deep true out' v w := by
 obtain ⟨o, h1, h2, _⟩ := h
 exact ⟨o, h1, h2, fun e => by cases e⟩
/-- A call of a writer's, seen from before: what stood before the writer's block is as it was. -/
structure Wto (T : TypeId) (b : Nat) (deep : Nat) (bad : Bool) (out : Bytes) (v : Value) (w : World) (v' : Value) (w' : World) : Prop where
 st : Wst T b deep bad out v' w'
 wr : Wr b v w v' w'
theorem own_ge {T : TypeId} {b deep : Nat} {bad : Bool} {out : Bytes} {v : Value} {w : World} (h : Wst T b deep bad out v w) : ∀ k, v.ownBlock = some k → b + 1 ≤ k ∧ k < w.heap.size := by
 obtain ⟨o, h1, _⟩ := h
 exact h1.ge
theorem Wr.seen {T : TypeId} {b deep : Nat} {bad : Bool} {out : Bytes} {v v' : Value} {w0 w w' : World} (h : Wr b v w v' w') (hs : Wst T b deep bad out v w) (hc : Chg [] w0 w) (hb : w0.heap.size ≤ b) : Chg [] w0 w' :=
 h.quiet hc hb (fun k hk => by have := own_ge hs k hk; omega)
end Go.Proofs.YtgbooiaedbpenaaGreatDoor
