/-
 Printer, layer 11: rows.
-/
import Derived.Test.YtgbooiaedbpenaaGreatDoorPrTk
import Derived.Test.YtgbooiaedbpenaaGreatDoorPrP
namespace Go.Proofs.YtgbooiaedbpenaaGreatDoor
set_option linter.unusedVariables false
set_option linter.unusedSimpArgs false
open Go Go.RowKit Go.Shelf
attribute [local irreducible] Go.wpStill

theorem Wst.setBad {T : TypeId} {b deep : Nat} {bad : Bool} {out out' : Bytes} {v : Value} {w : World} (h : Wst T b deep bad out v w) : Wst T b deep true out' v (w.setCell ⟨b, 3, none⟩ (.bool true)) := by
 obtain ⟨o, h1, h2, _⟩ := h
 obtain ⟨p, hp, hb⟩ := h1.blk
 exact ⟨o, h1.rest ((Chg.refl _ _).setCell _ _ (.inl (by simp))) hp (hb.set 3 _), h2, fun e => by cases e⟩
theorem Wst.cell3 {T : TypeId} {b deep : Nat} {bad : Bool} {out : Bytes} {v : Value} {w : World} (h : Wst T b deep bad out v w) : w.cell? ⟨b, 3, none⟩ = some (.bool bad) ∧ w.frozen? ⟨b, 3, none⟩ = false := by
 obtain ⟨o, h1, h2⟩ := h
 obtain ⟨p, hp, hb⟩ := h1.blk
 exact ⟨hb.cell (i := 3) rfl, hb.free 3⟩
namespace Pr
theorem numsOk_1 (x : Int) : numsOk [x] = numOk x := by simp [numsOk]
theorem markOk_4 {m : Mk} (h : m.kind = 4) : markOk m = (numOk m.seat && numOk m.w) := by simp [markOk, h]
theorem markOk_n {m : Mk} (h1 : 1 ≤ m.kind) (h2 : m.kind ≤ 4) (h : m.w = 0) : markOk m = numOk m.seat := by
 unfold markOk
 rw [decide_eq_true h1, decide_eq_true h2, decide_eq_true (.inr h), h]
 simp [numOk]
theorem markS_4 {m : Mk} (h : m.kind = 4) : markS m = markW m.kind ++ nums [m.seat] ++ (tOf ++ nums [m.w]) := by unfold markS; rw [if_pos h]
theorem markS_n {m : Mk} (h : m.kind ≠ 4) : markS m = markW m.kind ++ nums [m.seat] := by unfold markS; rw [if_neg h, List.append_nil]
theorem row_bad (bad : Bool) (r : Rw) : ((((((bad || !nameOk r.name) || !numsOk [r.x, r.y]) || !numsOk [r.f]) || !numsOk [r.t]) || !numsOk [r.step]) || !r.marks.all markOk) = (bad || !rowOk r) := by
 simp only [rowOk, numsOk, List.all_cons, List.all_nil, Bool.and_true]
 generalize nameOk r.name = c0
 generalize numOk r.x = c1
 generalize numOk r.y = c2
 generalize numOk r.f = c3
 generalize numOk r.t = c4
 generalize numOk r.step = c5
 generalize r.marks.all markOk = c6
 revert bad c0 c1 c2 c3 c4 c5 c6
 decide
end Pr
theorem wpAnyH_act {P : Program} {md : Region.Mode} {ops : Array Oper} {Q : Exit → Act → World → Prop} {S : World → Prop} {fuel : Nat} {l : Array Bool} {a a' : Act} {w : World} (h : a = a') (z : wpAnyH P md ops Q S fuel l a w) : wpAnyH P md ops Q S fuel l a' w := h ▸ z
/-- A region of a function's text. -/
def findR : Code → Nat → Option (Array Oper)
 | .region i ops _, n => if i = n then some ops else none
 | .seq a b, n => match findR a n with
  | some o => some o
  | none => findR b n
 | _, _ => none
/-- The operations of row's first region. -/
def RowO (O : Array Oper) : Prop := findR (Tryz.f61.body.getD .skip) 1 = some O
structure RowC (w0 : World) (b : Nat) (w1 : World) (r : Pr.Rw) : Prop where
 HL : Hid (Laid w0)
 HB0 : Hid (w0.heap.size ≤ b)
 HQ1 : Hid (Chg [] w0 w1)
 HRI : Hid (Pr.I64 r.x ∧ Pr.I64 r.y ∧ Pr.I64 r.f ∧ Pr.I64 r.t ∧ Pr.I64 r.step)
 HRN : Hid (r.name.length ≤ 1000)
/-- A region's operations, what follows it, and its frame get names. -/
theorem name3 {P : Program} {md : Region.Mode} {ops : Array Oper} {Q : Exit → Act → World → Prop} {S : World → Prop} {fuel : Nat} {l : Array Bool} {a : Act} {w : World} (h : ∀ (O : Array Oper) (Q0 : Exit → Act → World → Prop) (A0 : Act), Hid (O = ops) → Hid (Q0 = Q) → Hid (A0 = a) → wpAnyH P md O Q0 S fuel l A0 w) : wpAnyH P md ops Q S fuel l a w := h _ _ _ rfl rfl rfl

def RowS5_1234 (T : TypeId) (b deep : Nat) (w1 : World) (bad : Bool) (out : Bytes) (v : Value) (r : Pr.Rw) (O : Array Oper) (Q0 : Exit → Act → World → Prop) (A0 : Act) : Prop := ∀ (w2 : World) (d13 d14 d15 d24 d25 d26 d33 d34 d35 d42 d43 d44 d51 : Value) (X1 X2 X3 X4 : Nat) (a : Bytes), Hid (Wst T b deep (((((bad || !Pr.nameOk r.name) || !Pr.numsOk [r.x, r.y]) || !Pr.numsOk [r.f]) || !Pr.numsOk [r.t]) || !Pr.numsOk [r.step]) out v w2) → Hid (Chg [b] w1 w2) → Hid (a = ((((Pr.tRow ++ r.name ++ Pr.tAt) ++ Pr.nums [r.x, r.y] ++ Pr.tSeats) ++ Pr.nums [r.f] ++ Pr.tTo) ++ Pr.nums [r.t] ++ Pr.tStep) ++ Pr.nums [r.step] ∧ a.length ≤ 1500) → wpAnyH Tryz.prog .any O Q0 (fun W' => Chg [b] w1 W') 1 #[true, true, true, true, true, true, true, true, true, true, true, true, true, true, true, true, true, true, true, true, true, true, true, true, true, true, true, true, true, true, true, true, true, true, true, true, true, true, true, true, true, true, true, true, true, false] ((((((((((((((((((A0.put (some 13) d13).put (some 14) d14).put (some 15) d15).put (some 24) d24).put (some 25) d25).put (some 26) d26).put (some 33) d33).put (some 34) d34).put (some 35) d35).put (some 42) d42).put (some 43) d43).put (some 44) d44).put (some 51) d51).put (some 52) (.string ⟨a.toArray⟩)).put (some 23) (.slice (some ⟨X1, 0, none⟩) 2 2)).put (some 32) (.slice (some ⟨X2, 0, none⟩) 1 1)).put (some 41) (.slice (some ⟨X3, 0, none⟩) 1 1)).put (some 50) (.slice (some ⟨X4, 0, none⟩) 1 1)) w2
def RowS4_1234 (T : TypeId) (b deep : Nat) (w1 : World) (bad : Bool) (out : Bytes) (v : Value) (r : Pr.Rw) (O : Array Oper) (Q0 : Exit → Act → World → Prop) (A0 : Act) : Prop := ∀ (w2 : World) (d13 d14 d15 d24 d25 d26 d33 d34 d35 d42 d43 : Value) (X1 X2 X3 X4 : Nat) (a : Bytes), Hid (Wst T b deep ((((bad || !Pr.nameOk r.name) || !Pr.numsOk [r.x, r.y]) || !Pr.numsOk [r.f]) || !Pr.numsOk [r.t]) out v w2) → Hid (Chg [b] w1 w2) → Hid (a = (((Pr.tRow ++ r.name ++ Pr.tAt) ++ Pr.nums [r.x, r.y] ++ Pr.tSeats) ++ Pr.nums [r.f] ++ Pr.tTo) ++ Pr.nums [r.t] ++ Pr.tStep ∧ a.length ≤ 1400) → Hid (Blk w2 X4 [.int .i64 r.step] 3 ∧ X4 ≠ b) → wpAnyH Tryz.prog .any O Q0 (fun W' => Chg [b] w1 W') 3 #[true, true, true, true, true, true, true, true, true, true, true, true, true, true, true, true, true, true, true, true, true, true, true, true, true, true, true, true, true, true, true, true, true, true, true, true, true, true, true, true, true, true, true, false, false, false] ((((((((((((((((A0.put (some 13) d13).put (some 14) d14).put (some 15) d15).put (some 24) d24).put (some 25) d25).put (some 26) d26).put (some 33) d33).put (some 34) d34).put (some 35) d35).put (some 42) d42).put (some 43) d43).put (some 44) (.string ⟨a.toArray⟩)).put (some 23) (.slice (some ⟨X1, 0, none⟩) 2 2)).put (some 32) (.slice (some ⟨X2, 0, none⟩) 1 1)).put (some 41) (.slice (some ⟨X3, 0, none⟩) 1 1)).put (some 50) (.slice (some ⟨X4, 0, none⟩) 1 1)) w2
def RowS4_123 (T : TypeId) (b deep : Nat) (w1 : World) (bad : Bool) (out : Bytes) (v : Value) (r : Pr.Rw) (O : Array Oper) (Q0 : Exit → Act → World → Prop) (A0 : Act) : Prop := ∀ (w2 : World) (d13 d14 d15 d24 d25 d26 d33 d34 d35 d42 d43 : Value) (X1 X2 X3 : Nat) (a : Bytes), Hid (Wst T b deep ((((bad || !Pr.nameOk r.name) || !Pr.numsOk [r.x, r.y]) || !Pr.numsOk [r.f]) || !Pr.numsOk [r.t]) out v w2) → Hid (Chg [b] w1 w2) → Hid (a = (((Pr.tRow ++ r.name ++ Pr.tAt) ++ Pr.nums [r.x, r.y] ++ Pr.tSeats) ++ Pr.nums [r.f] ++ Pr.tTo) ++ Pr.nums [r.t] ++ Pr.tStep ∧ a.length ≤ 1400) → wpAnyH Tryz.prog .any O Q0 (fun W' => Chg [b] w1 W') 4 #[true, true, true, true, true, true, true, true, true, true, true, true, true, true, true, true, true, true, true, true, true, true, true, true, true, true, true, true, true, true, true, true, true, true, true, true, true, true, true, true, true, true, false, false, false, false] (((((((((((((((A0.put (some 13) d13).put (some 14) d14).put (some 15) d15).put (some 24) d24).put (some 25) d25).put (some 26) d26).put (some 33) d33).put (some 34) d34).put (some 35) d35).put (some 42) d42).put (some 43) d43).put (some 44) (.string ⟨a.toArray⟩)).put (some 23) (.slice (some ⟨X1, 0, none⟩) 2 2)).put (some 32) (.slice (some ⟨X2, 0, none⟩) 1 1)).put (some 41) (.slice (some ⟨X3, 0, none⟩) 1 1)) w2
def RowS3_1234 (T : TypeId) (b deep : Nat) (w1 : World) (bad : Bool) (out : Bytes) (v : Value) (r : Pr.Rw) (O : Array Oper) (Q0 : Exit → Act → World → Prop) (A0 : Act) : Prop := ∀ (w2 : World) (d13 d14 d15 d24 d25 d26 d33 d34 : Value) (X1 X2 X3 X4 : Nat) (a : Bytes), Hid (Wst T b deep (((bad || !Pr.nameOk r.name) || !Pr.numsOk [r.x, r.y]) || !Pr.numsOk [r.f]) out v w2) → Hid (Chg [b] w1 w2) → Hid (a = ((Pr.tRow ++ r.name ++ Pr.tAt) ++ Pr.nums [r.x, r.y] ++ Pr.tSeats) ++ Pr.nums [r.f] ++ Pr.tTo ∧ a.length ≤ 1300) → Hid (Blk w2 X3 [.int .i64 r.t] 3 ∧ X3 ≠ b) → Hid (Blk w2 X4 [.int .i64 r.step] 3 ∧ X4 ≠ b) → wpAnyH Tryz.prog .any O Q0 (fun W' => Chg [b] w1 W') 6 #[true, true, true, true, true, true, true, true, true, true, true, true, true, true, true, true, true, true, true, true, true, true, true, true, true, true, true, true, true, true, true, true, true, true, false, false, false, true, true, true, true, true, true, false, false, false] (((((((((((((A0.put (some 13) d13).put (some 14) d14).put (some 15) d15).put (some 24) d24).put (some 25) d25).put (some 26) d26).put (some 33) d33).put (some 34) d34).put (some 35) (.string ⟨a.toArray⟩)).put (some 23) (.slice (some ⟨X1, 0, none⟩) 2 2)).put (some 32) (.slice (some ⟨X2, 0, none⟩) 1 1)).put (some 41) (.slice (some ⟨X3, 0, none⟩) 1 1)).put (some 50) (.slice (some ⟨X4, 0, none⟩) 1 1)) w2
def RowS3_123 (T : TypeId) (b deep : Nat) (w1 : World) (bad : Bool) (out : Bytes) (v : Value) (r : Pr.Rw) (O : Array Oper) (Q0 : Exit → Act → World → Prop) (A0 : Act) : Prop := ∀ (w2 : World) (d13 d14 d15 d24 d25 d26 d33 d34 : Value) (X1 X2 X3 : Nat) (a : Bytes), Hid (Wst T b deep (((bad || !Pr.nameOk r.name) || !Pr.numsOk [r.x, r.y]) || !Pr.numsOk [r.f]) out v w2) → Hid (Chg [b] w1 w2) → Hid (a = ((Pr.tRow ++ r.name ++ Pr.tAt) ++ Pr.nums [r.x, r.y] ++ Pr.tSeats) ++ Pr.nums [r.f] ++ Pr.tTo ∧ a.length ≤ 1300) → Hid (Blk w2 X3 [.int .i64 r.t] 3 ∧ X3 ≠ b) → wpAnyH Tryz.prog .any O Q0 (fun W' => Chg [b] w1 W') 7 #[true, true, true, true, true, true, true, true, true, true, true, true, true, true, true, true, true, true, true, true, true, true, true, true, true, true, true, true, true, true, true, true, true, true, false, false, false, true, true, true, true, true, false, false, false, false] ((((((((((((A0.put (some 13) d13).put (some 14) d14).put (some 15) d15).put (some 24) d24).put (some 25) d25).put (some 26) d26).put (some 33) d33).put (some 34) d34).put (some 35) (.string ⟨a.toArray⟩)).put (some 23) (.slice (some ⟨X1, 0, none⟩) 2 2)).put (some 32) (.slice (some ⟨X2, 0, none⟩) 1 1)).put (some 41) (.slice (some ⟨X3, 0, none⟩) 1 1)) w2
def RowS3_124 (T : TypeId) (b deep : Nat) (w1 : World) (bad : Bool) (out : Bytes) (v : Value) (r : Pr.Rw) (O : Array Oper) (Q0 : Exit → Act → World → Prop) (A0 : Act) : Prop := ∀ (w2 : World) (d13 d14 d15 d24 d25 d26 d33 d34 : Value) (X1 X2 X4 : Nat) (a : Bytes), Hid (Wst T b deep (((bad || !Pr.nameOk r.name) || !Pr.numsOk [r.x, r.y]) || !Pr.numsOk [r.f]) out v w2) → Hid (Chg [b] w1 w2) → Hid (a = ((Pr.tRow ++ r.name ++ Pr.tAt) ++ Pr.nums [r.x, r.y] ++ Pr.tSeats) ++ Pr.nums [r.f] ++ Pr.tTo ∧ a.length ≤ 1300) → Hid (Blk w2 X4 [.int .i64 r.step] 3 ∧ X4 ≠ b) → wpAnyH Tryz.prog .any O Q0 (fun W' => Chg [b] w1 W') 7 #[true, true, true, true, true, true, true, true, true, true, true, true, true, true, true, true, true, true, true, true, true, true, true, true, true, true, true, true, true, true, true, true, true, false, false, false, false, true, true, true, true, true, true, false, false, false] ((((((((((((A0.put (some 13) d13).put (some 14) d14).put (some 15) d15).put (some 24) d24).put (some 25) d25).put (some 26) d26).put (some 33) d33).put (some 34) d34).put (some 35) (.string ⟨a.toArray⟩)).put (some 23) (.slice (some ⟨X1, 0, none⟩) 2 2)).put (some 32) (.slice (some ⟨X2, 0, none⟩) 1 1)).put (some 50) (.slice (some ⟨X4, 0, none⟩) 1 1)) w2
def RowS3_12 (T : TypeId) (b deep : Nat) (w1 : World) (bad : Bool) (out : Bytes) (v : Value) (r : Pr.Rw) (O : Array Oper) (Q0 : Exit → Act → World → Prop) (A0 : Act) : Prop := ∀ (w2 : World) (d13 d14 d15 d24 d25 d26 d33 d34 : Value) (X1 X2 : Nat) (a : Bytes), Hid (Wst T b deep (((bad || !Pr.nameOk r.name) || !Pr.numsOk [r.x, r.y]) || !Pr.numsOk [r.f]) out v w2) → Hid (Chg [b] w1 w2) → Hid (a = ((Pr.tRow ++ r.name ++ Pr.tAt) ++ Pr.nums [r.x, r.y] ++ Pr.tSeats) ++ Pr.nums [r.f] ++ Pr.tTo ∧ a.length ≤ 1300) → wpAnyH Tryz.prog .any O Q0 (fun W' => Chg [b] w1 W') 8 #[true, true, true, true, true, true, true, true, true, true, true, true, true, true, true, true, true, true, true, true, true, true, true, true, true, true, true, true, true, true, true, true, true, false, false, false, false, true, true, true, true, true, false, false, false, false] (((((((((((A0.put (some 13) d13).put (some 14) d14).put (some 15) d15).put (some 24) d24).put (some 25) d25).put (some 26) d26).put (some 33) d33).put (some 34) d34).put (some 35) (.string ⟨a.toArray⟩)).put (some 23) (.slice (some ⟨X1, 0, none⟩) 2 2)).put (some 32) (.slice (some ⟨X2, 0, none⟩) 1 1)) w2
def RowS2_1234 (T : TypeId) (b deep : Nat) (w1 : World) (bad : Bool) (out : Bytes) (v : Value) (r : Pr.Rw) (O : Array Oper) (Q0 : Exit → Act → World → Prop) (A0 : Act) : Prop := ∀ (w2 : World) (d13 d14 d15 d24 d25 : Value) (X1 X2 X3 X4 : Nat) (a : Bytes), Hid (Wst T b deep ((bad || !Pr.nameOk r.name) || !Pr.numsOk [r.x, r.y]) out v w2) → Hid (Chg [b] w1 w2) → Hid (a = (Pr.tRow ++ r.name ++ Pr.tAt) ++ Pr.nums [r.x, r.y] ++ Pr.tSeats ∧ a.length ≤ 1200) → Hid (Blk w2 X2 [.int .i64 r.f] 3 ∧ X2 ≠ b) → Hid (Blk w2 X3 [.int .i64 r.t] 3 ∧ X3 ≠ b) → Hid (Blk w2 X4 [.int .i64 r.step] 3 ∧ X4 ≠ b) → wpAnyH Tryz.prog .any O Q0 (fun W' => Chg [b] w1 W') 9 #[true, true, true, true, true, true, true, true, true, true, true, true, true, true, true, true, true, true, true, true, true, true, true, true, true, false, false, false, true, true, true, true, true, true, false, false, false, true, true, true, true, true, true, false, false, false] ((((((((((A0.put (some 13) d13).put (some 14) d14).put (some 15) d15).put (some 24) d24).put (some 25) d25).put (some 26) (.string ⟨a.toArray⟩)).put (some 23) (.slice (some ⟨X1, 0, none⟩) 2 2)).put (some 32) (.slice (some ⟨X2, 0, none⟩) 1 1)).put (some 41) (.slice (some ⟨X3, 0, none⟩) 1 1)).put (some 50) (.slice (some ⟨X4, 0, none⟩) 1 1)) w2
def RowS2_123 (T : TypeId) (b deep : Nat) (w1 : World) (bad : Bool) (out : Bytes) (v : Value) (r : Pr.Rw) (O : Array Oper) (Q0 : Exit → Act → World → Prop) (A0 : Act) : Prop := ∀ (w2 : World) (d13 d14 d15 d24 d25 : Value) (X1 X2 X3 : Nat) (a : Bytes), Hid (Wst T b deep ((bad || !Pr.nameOk r.name) || !Pr.numsOk [r.x, r.y]) out v w2) → Hid (Chg [b] w1 w2) → Hid (a = (Pr.tRow ++ r.name ++ Pr.tAt) ++ Pr.nums [r.x, r.y] ++ Pr.tSeats ∧ a.length ≤ 1200) → Hid (Blk w2 X2 [.int .i64 r.f] 3 ∧ X2 ≠ b) → Hid (Blk w2 X3 [.int .i64 r.t] 3 ∧ X3 ≠ b) → wpAnyH Tryz.prog .any O Q0 (fun W' => Chg [b] w1 W') 10 #[true, true, true, true, true, true, true, true, true, true, true, true, true, true, true, true, true, true, true, true, true, true, true, true, true, false, false, false, true, true, true, true, true, true, false, false, false, true, true, true, true, true, false, false, false, false] (((((((((A0.put (some 13) d13).put (some 14) d14).put (some 15) d15).put (some 24) d24).put (some 25) d25).put (some 26) (.string ⟨a.toArray⟩)).put (some 23) (.slice (some ⟨X1, 0, none⟩) 2 2)).put (some 32) (.slice (some ⟨X2, 0, none⟩) 1 1)).put (some 41) (.slice (some ⟨X3, 0, none⟩) 1 1)) w2
def RowS2_124 (T : TypeId) (b deep : Nat) (w1 : World) (bad : Bool) (out : Bytes) (v : Value) (r : Pr.Rw) (O : Array Oper) (Q0 : Exit → Act → World → Prop) (A0 : Act) : Prop := ∀ (w2 : World) (d13 d14 d15 d24 d25 : Value) (X1 X2 X4 : Nat) (a : Bytes), Hid (Wst T b deep ((bad || !Pr.nameOk r.name) || !Pr.numsOk [r.x, r.y]) out v w2) → Hid (Chg [b] w1 w2) → Hid (a = (Pr.tRow ++ r.name ++ Pr.tAt) ++ Pr.nums [r.x, r.y] ++ Pr.tSeats ∧ a.length ≤ 1200) → Hid (Blk w2 X2 [.int .i64 r.f] 3 ∧ X2 ≠ b) → Hid (Blk w2 X4 [.int .i64 r.step] 3 ∧ X4 ≠ b) → wpAnyH Tryz.prog .any O Q0 (fun W' => Chg [b] w1 W') 10 #[true, true, true, true, true, true, true, true, true, true, true, true, true, true, true, true, true, true, true, true, true, true, true, true, true, false, false, false, true, true, true, true, true, false, false, false, false, true, true, true, true, true, true, false, false, false] (((((((((A0.put (some 13) d13).put (some 14) d14).put (some 15) d15).put (some 24) d24).put (some 25) d25).put (some 26) (.string ⟨a.toArray⟩)).put (some 23) (.slice (some ⟨X1, 0, none⟩) 2 2)).put (some 32) (.slice (some ⟨X2, 0, none⟩) 1 1)).put (some 50) (.slice (some ⟨X4, 0, none⟩) 1 1)) w2
def RowS2_134 (T : TypeId) (b deep : Nat) (w1 : World) (bad : Bool) (out : Bytes) (v : Value) (r : Pr.Rw) (O : Array Oper) (Q0 : Exit → Act → World → Prop) (A0 : Act) : Prop := ∀ (w2 : World) (d13 d14 d15 d24 d25 : Value) (X1 X3 X4 : Nat) (a : Bytes), Hid (Wst T b deep ((bad || !Pr.nameOk r.name) || !Pr.numsOk [r.x, r.y]) out v w2) → Hid (Chg [b] w1 w2) → Hid (a = (Pr.tRow ++ r.name ++ Pr.tAt) ++ Pr.nums [r.x, r.y] ++ Pr.tSeats ∧ a.length ≤ 1200) → Hid (Blk w2 X3 [.int .i64 r.t] 3 ∧ X3 ≠ b) → Hid (Blk w2 X4 [.int .i64 r.step] 3 ∧ X4 ≠ b) → wpAnyH Tryz.prog .any O Q0 (fun W' => Chg [b] w1 W') 10 #[true, true, true, true, true, true, true, true, true, true, true, true, true, true, true, true, true, true, true, true, true, true, true, true, false, false, false, false, true, true, true, true, true, true, false, false, false, true, true, true, true, true, true, false, false, false] (((((((((A0.put (some 13) d13).put (some 14) d14).put (some 15) d15).put (some 24) d24).put (some 25) d25).put (some 26) (.string ⟨a.toArray⟩)).put (some 23) (.slice (some ⟨X1, 0, none⟩) 2 2)).put (some 41) (.slice (some ⟨X3, 0, none⟩) 1 1)).put (some 50) (.slice (some ⟨X4, 0, none⟩) 1 1)) w2
def RowS2_12 (T : TypeId) (b deep : Nat) (w1 : World) (bad : Bool) (out : Bytes) (v : Value) (r : Pr.Rw) (O : Array Oper) (Q0 : Exit → Act → World → Prop) (A0 : Act) : Prop := ∀ (w2 : World) (d13 d14 d15 d24 d25 : Value) (X1 X2 : Nat) (a : Bytes), Hid (Wst T b deep ((bad || !Pr.nameOk r.name) || !Pr.numsOk [r.x, r.y]) out v w2) → Hid (Chg [b] w1 w2) → Hid (a = (Pr.tRow ++ r.name ++ Pr.tAt) ++ Pr.nums [r.x, r.y] ++ Pr.tSeats ∧ a.length ≤ 1200) → Hid (Blk w2 X2 [.int .i64 r.f] 3 ∧ X2 ≠ b) → wpAnyH Tryz.prog .any O Q0 (fun W' => Chg [b] w1 W') 11 #[true, true, true, true, true, true, true, true, true, true, true, true, true, true, true, true, true, true, true, true, true, true, true, true, true, false, false, false, true, true, true, true, true, false, false, false, false, true, true, true, true, true, false, false, false, false] ((((((((A0.put (some 13) d13).put (some 14) d14).put (some 15) d15).put (some 24) d24).put (some 25) d25).put (some 26) (.string ⟨a.toArray⟩)).put (some 23) (.slice (some ⟨X1, 0, none⟩) 2 2)).put (some 32) (.slice (some ⟨X2, 0, none⟩) 1 1)) w2
def RowS2_13 (T : TypeId) (b deep : Nat) (w1 : World) (bad : Bool) (out : Bytes) (v : Value) (r : Pr.Rw) (O : Array Oper) (Q0 : Exit → Act → World → Prop) (A0 : Act) : Prop := ∀ (w2 : World) (d13 d14 d15 d24 d25 : Value) (X1 X3 : Nat) (a : Bytes), Hid (Wst T b deep ((bad || !Pr.nameOk r.name) || !Pr.numsOk [r.x, r.y]) out v w2) → Hid (Chg [b] w1 w2) → Hid (a = (Pr.tRow ++ r.name ++ Pr.tAt) ++ Pr.nums [r.x, r.y] ++ Pr.tSeats ∧ a.length ≤ 1200) → Hid (Blk w2 X3 [.int .i64 r.t] 3 ∧ X3 ≠ b) → wpAnyH Tryz.prog .any O Q0 (fun W' => Chg [b] w1 W') 11 #[true, true, true, true, true, true, true, true, true, true, true, true, true, true, true, true, true, true, true, true, true, true, true, true, false, false, false, false, true, true, true, true, true, true, false, false, false, true, true, true, true, true, false, false, false, false] ((((((((A0.put (some 13) d13).put (some 14) d14).put (some 15) d15).put (some 24) d24).put (some 25) d25).put (some 26) (.string ⟨a.toArray⟩)).put (some 23) (.slice (some ⟨X1, 0, none⟩) 2 2)).put (some 41) (.slice (some ⟨X3, 0, none⟩) 1 1)) w2
def RowS2_14 (T : TypeId) (b deep : Nat) (w1 : World) (bad : Bool) (out : Bytes) (v : Value) (r : Pr.Rw) (O : Array Oper) (Q0 : Exit → Act → World → Prop) (A0 : Act) : Prop := ∀ (w2 : World) (d13 d14 d15 d24 d25 : Value) (X1 X4 : Nat) (a : Bytes), Hid (Wst T b deep ((bad || !Pr.nameOk r.name) || !Pr.numsOk [r.x, r.y]) out v w2) → Hid (Chg [b] w1 w2) → Hid (a = (Pr.tRow ++ r.name ++ Pr.tAt) ++ Pr.nums [r.x, r.y] ++ Pr.tSeats ∧ a.length ≤ 1200) → Hid (Blk w2 X4 [.int .i64 r.step] 3 ∧ X4 ≠ b) → wpAnyH Tryz.prog .any O Q0 (fun W' => Chg [b] w1 W') 11 #[true, true, true, true, true, true, true, true, true, true, true, true, true, true, true, true, true, true, true, true, true, true, true, true, false, false, false, false, true, true, true, true, true, false, false, false, false, true, true, true, true, true, true, false, false, false] ((((((((A0.put (some 13) d13).put (some 14) d14).put (some 15) d15).put (some 24) d24).put (some 25) d25).put (some 26) (.string ⟨a.toArray⟩)).put (some 23) (.slice (some ⟨X1, 0, none⟩) 2 2)).put (some 50) (.slice (some ⟨X4, 0, none⟩) 1 1)) w2
def RowS2_1 (T : TypeId) (b deep : Nat) (w1 : World) (bad : Bool) (out : Bytes) (v : Value) (r : Pr.Rw) (O : Array Oper) (Q0 : Exit → Act → World → Prop) (A0 : Act) : Prop := ∀ (w2 : World) (d13 d14 d15 d24 d25 : Value) (X1 : Nat) (a : Bytes), Hid (Wst T b deep ((bad || !Pr.nameOk r.name) || !Pr.numsOk [r.x, r.y]) out v w2) → Hid (Chg [b] w1 w2) → Hid (a = (Pr.tRow ++ r.name ++ Pr.tAt) ++ Pr.nums [r.x, r.y] ++ Pr.tSeats ∧ a.length ≤ 1200) → wpAnyH Tryz.prog .any O Q0 (fun W' => Chg [b] w1 W') 12 #[true, true, true, true, true, true, true, true, true, true, true, true, true, true, true, true, true, true, true, true, true, true, true, true, false, false, false, false, true, true, true, true, true, false, false, false, false, true, true, true, true, true, false, false, false, false] (((((((A0.put (some 13) d13).put (some 14) d14).put (some 15) d15).put (some 24) d24).put (some 25) d25).put (some 26) (.string ⟨a.toArray⟩)).put (some 23) (.slice (some ⟨X1, 0, none⟩) 2 2)) w2
def RowS1_1234 (T : TypeId) (b deep : Nat) (w1 : World) (bad : Bool) (out : Bytes) (v : Value) (r : Pr.Rw) (O : Array Oper) (Q0 : Exit → Act → World → Prop) (A0 : Act) : Prop := ∀ (w2 : World) (d13 d14 : Value) (X1 X2 X3 X4 : Nat) (a : Bytes), Hid (Wst T b deep (bad || !Pr.nameOk r.name) out v w2) → Hid (Chg [b] w1 w2) → Hid (a = Pr.tRow ++ r.name ++ Pr.tAt ∧ a.length ≤ 1100) → Hid (Blk w2 X1 [.int .i64 r.x, .int .i64 r.y] 3 ∧ X1 ≠ b) → Hid (Blk w2 X2 [.int .i64 r.f] 3 ∧ X2 ≠ b) → Hid (Blk w2 X3 [.int .i64 r.t] 3 ∧ X3 ≠ b) → Hid (Blk w2 X4 [.int .i64 r.step] 3 ∧ X4 ≠ b) → wpAnyH Tryz.prog .any O Q0 (fun W' => Chg [b] w1 W') 12 #[true, true, true, true, true, true, true, true, true, true, true, true, true, true, true, true, false, false, false, true, true, true, true, true, true, false, false, false, true, true, true, true, true, true, false, false, false, true, true, true, true, true, true, false, false, false] (((((((A0.put (some 13) d13).put (some 14) d14).put (some 15) (.string ⟨a.toArray⟩)).put (some 23) (.slice (some ⟨X1, 0, none⟩) 2 2)).put (some 32) (.slice (some ⟨X2, 0, none⟩) 1 1)).put (some 41) (.slice (some ⟨X3, 0, none⟩) 1 1)).put (some 50) (.slice (some ⟨X4, 0, none⟩) 1 1)) w2
def RowS1_123 (T : TypeId) (b deep : Nat) (w1 : World) (bad : Bool) (out : Bytes) (v : Value) (r : Pr.Rw) (O : Array Oper) (Q0 : Exit → Act → World → Prop) (A0 : Act) : Prop := ∀ (w2 : World) (d13 d14 : Value) (X1 X2 X3 : Nat) (a : Bytes), Hid (Wst T b deep (bad || !Pr.nameOk r.name) out v w2) → Hid (Chg [b] w1 w2) → Hid (a = Pr.tRow ++ r.name ++ Pr.tAt ∧ a.length ≤ 1100) → Hid (Blk w2 X1 [.int .i64 r.x, .int .i64 r.y] 3 ∧ X1 ≠ b) → Hid (Blk w2 X2 [.int .i64 r.f] 3 ∧ X2 ≠ b) → Hid (Blk w2 X3 [.int .i64 r.t] 3 ∧ X3 ≠ b) → wpAnyH Tryz.prog .any O Q0 (fun W' => Chg [b] w1 W') 13 #[true, true, true, true, true, true, true, true, true, true, true, true, true, true, true, true, false, false, false, true, true, true, true, true, true, false, false, false, true, true, true, true, true, true, false, false, false, true, true, true, true, true, false, false, false, false] ((((((A0.put (some 13) d13).put (some 14) d14).put (some 15) (.string ⟨a.toArray⟩)).put (some 23) (.slice (some ⟨X1, 0, none⟩) 2 2)).put (some 32) (.slice (some ⟨X2, 0, none⟩) 1 1)).put (some 41) (.slice (some ⟨X3, 0, none⟩) 1 1)) w2
def RowS1_124 (T : TypeId) (b deep : Nat) (w1 : World) (bad : Bool) (out : Bytes) (v : Value) (r : Pr.Rw) (O : Array Oper) (Q0 : Exit → Act → World → Prop) (A0 : Act) : Prop := ∀ (w2 : World) (d13 d14 : Value) (X1 X2 X4 : Nat) (a : Bytes), Hid (Wst T b deep (bad || !Pr.nameOk r.name) out v w2) → Hid (Chg [b] w1 w2) → Hid (a = Pr.tRow ++ r.name ++ Pr.tAt ∧ a.length ≤ 1100) → Hid (Blk w2 X1 [.int .i64 r.x, .int .i64 r.y] 3 ∧ X1 ≠ b) → Hid (Blk w2 X2 [.int .i64 r.f] 3 ∧ X2 ≠ b) → Hid (Blk w2 X4 [.int .i64 r.step] 3 ∧ X4 ≠ b) → wpAnyH Tryz.prog .any O Q0 (fun W' => Chg [b] w1 W') 13 #[true, true, true, true, true, true, true, true, true, true, true, true, true, true, true, true, false, false, false, true, true, true, true, true, true, false, false, false, true, true, true, true, true, false, false, false, false, true, true, true, true, true, true, false, false, false] ((((((A0.put (some 13) d13).put (some 14) d14).put (some 15) (.string ⟨a.toArray⟩)).put (some 23) (.slice (some ⟨X1, 0, none⟩) 2 2)).put (some 32) (.slice (some ⟨X2, 0, none⟩) 1 1)).put (some 50) (.slice (some ⟨X4, 0, none⟩) 1 1)) w2
def RowS1_134 (T : TypeId) (b deep : Nat) (w1 : World) (bad : Bool) (out : Bytes) (v : Value) (r : Pr.Rw) (O : Array Oper) (Q0 : Exit → Act → World → Prop) (A0 : Act) : Prop := ∀ (w2 : World) (d13 d14 : Value) (X1 X3 X4 : Nat) (a : Bytes), Hid (Wst T b deep (bad || !Pr.nameOk r.name) out v w2) → Hid (Chg [b] w1 w2) → Hid (a = Pr.tRow ++ r.name ++ Pr.tAt ∧ a.length ≤ 1100) → Hid (Blk w2 X1 [.int .i64 r.x, .int .i64 r.y] 3 ∧ X1 ≠ b) → Hid (Blk w2 X3 [.int .i64 r.t] 3 ∧ X3 ≠ b) → Hid (Blk w2 X4 [.int .i64 r.step] 3 ∧ X4 ≠ b) → wpAnyH Tryz.prog .any O Q0 (fun W' => Chg [b] w1 W') 13 #[true, true, true, true, true, true, true, true, true, true, true, true, true, true, true, true, false, false, false, true, true, true, true, true, false, false, false, false, true, true, true, true, true, true, false, false, false, true, true, true, true, true, true, false, false, false] ((((((A0.put (some 13) d13).put (some 14) d14).put (some 15) (.string ⟨a.toArray⟩)).put (some 23) (.slice (some ⟨X1, 0, none⟩) 2 2)).put (some 41) (.slice (some ⟨X3, 0, none⟩) 1 1)).put (some 50) (.slice (some ⟨X4, 0, none⟩) 1 1)) w2
def RowS1_234 (T : TypeId) (b deep : Nat) (w1 : World) (bad : Bool) (out : Bytes) (v : Value) (r : Pr.Rw) (O : Array Oper) (Q0 : Exit → Act → World → Prop) (A0 : Act) : Prop := ∀ (w2 : World) (d13 d14 : Value) (X2 X3 X4 : Nat) (a : Bytes), Hid (Wst T b deep (bad || !Pr.nameOk r.name) out v w2) → Hid (Chg [b] w1 w2) → Hid (a = Pr.tRow ++ r.name ++ Pr.tAt ∧ a.length ≤ 1100) → Hid (Blk w2 X2 [.int .i64 r.f] 3 ∧ X2 ≠ b) → Hid (Blk w2 X3 [.int .i64 r.t] 3 ∧ X3 ≠ b) → Hid (Blk w2 X4 [.int .i64 r.step] 3 ∧ X4 ≠ b) → wpAnyH Tryz.prog .any O Q0 (fun W' => Chg [b] w1 W') 13 #[true, true, true, true, true, true, true, true, true, true, true, true, true, true, true, false, false, false, false, true, true, true, true, true, true, false, false, false, true, true, true, true, true, true, false, false, false, true, true, true, true, true, true, false, false, false] ((((((A0.put (some 13) d13).put (some 14) d14).put (some 15) (.string ⟨a.toArray⟩)).put (some 32) (.slice (some ⟨X2, 0, none⟩) 1 1)).put (some 41) (.slice (some ⟨X3, 0, none⟩) 1 1)).put (some 50) (.slice (some ⟨X4, 0, none⟩) 1 1)) w2
def RowS1_12 (T : TypeId) (b deep : Nat) (w1 : World) (bad : Bool) (out : Bytes) (v : Value) (r : Pr.Rw) (O : Array Oper) (Q0 : Exit → Act → World → Prop) (A0 : Act) : Prop := ∀ (w2 : World) (d13 d14 : Value) (X1 X2 : Nat) (a : Bytes), Hid (Wst T b deep (bad || !Pr.nameOk r.name) out v w2) → Hid (Chg [b] w1 w2) → Hid (a = Pr.tRow ++ r.name ++ Pr.tAt ∧ a.length ≤ 1100) → Hid (Blk w2 X1 [.int .i64 r.x, .int .i64 r.y] 3 ∧ X1 ≠ b) → Hid (Blk w2 X2 [.int .i64 r.f] 3 ∧ X2 ≠ b) → wpAnyH Tryz.prog .any O Q0 (fun W' => Chg [b] w1 W') 14 #[true, true, true, true, true, true, true, true, true, true, true, true, true, true, true, true, false, false, false, true, true, true, true, true, true, false, false, false, true, true, true, true, true, false, false, false, false, true, true, true, true, true, false, false, false, false] (((((A0.put (some 13) d13).put (some 14) d14).put (some 15) (.string ⟨a.toArray⟩)).put (some 23) (.slice (some ⟨X1, 0, none⟩) 2 2)).put (some 32) (.slice (some ⟨X2, 0, none⟩) 1 1)) w2
def RowS1_13 (T : TypeId) (b deep : Nat) (w1 : World) (bad : Bool) (out : Bytes) (v : Value) (r : Pr.Rw) (O : Array Oper) (Q0 : Exit → Act → World → Prop) (A0 : Act) : Prop := ∀ (w2 : World) (d13 d14 : Value) (X1 X3 : Nat) (a : Bytes), Hid (Wst T b deep (bad || !Pr.nameOk r.name) out v w2) → Hid (Chg [b] w1 w2) → Hid (a = Pr.tRow ++ r.name ++ Pr.tAt ∧ a.length ≤ 1100) → Hid (Blk w2 X1 [.int .i64 r.x, .int .i64 r.y] 3 ∧ X1 ≠ b) → Hid (Blk w2 X3 [.int .i64 r.t] 3 ∧ X3 ≠ b) → wpAnyH Tryz.prog .any O Q0 (fun W' => Chg [b] w1 W') 14 #[true, true, true, true, true, true, true, true, true, true, true, true, true, true, true, true, false, false, false, true, true, true, true, true, false, false, false, false, true, true, true, true, true, true, false, false, false, true, true, true, true, true, false, false, false, false] (((((A0.put (some 13) d13).put (some 14) d14).put (some 15) (.string ⟨a.toArray⟩)).put (some 23) (.slice (some ⟨X1, 0, none⟩) 2 2)).put (some 41) (.slice (some ⟨X3, 0, none⟩) 1 1)) w2
def RowS1_14 (T : TypeId) (b deep : Nat) (w1 : World) (bad : Bool) (out : Bytes) (v : Value) (r : Pr.Rw) (O : Array Oper) (Q0 : Exit → Act → World → Prop) (A0 : Act) : Prop := ∀ (w2 : World) (d13 d14 : Value) (X1 X4 : Nat) (a : Bytes), Hid (Wst T b deep (bad || !Pr.nameOk r.name) out v w2) → Hid (Chg [b] w1 w2) → Hid (a = Pr.tRow ++ r.name ++ Pr.tAt ∧ a.length ≤ 1100) → Hid (Blk w2 X1 [.int .i64 r.x, .int .i64 r.y] 3 ∧ X1 ≠ b) → Hid (Blk w2 X4 [.int .i64 r.step] 3 ∧ X4 ≠ b) → wpAnyH Tryz.prog .any O Q0 (fun W' => Chg [b] w1 W') 14 #[true, true, true, true, true, true, true, true, true, true, true, true, true, true, true, true, false, false, false, true, true, true, true, true, false, false, false, false, true, true, true, true, true, false, false, false, false, true, true, true, true, true, true, false, false, false] (((((A0.put (some 13) d13).put (some 14) d14).put (some 15) (.string ⟨a.toArray⟩)).put (some 23) (.slice (some ⟨X1, 0, none⟩) 2 2)).put (some 50) (.slice (some ⟨X4, 0, none⟩) 1 1)) w2
def RowS1_23 (T : TypeId) (b deep : Nat) (w1 : World) (bad : Bool) (out : Bytes) (v : Value) (r : Pr.Rw) (O : Array Oper) (Q0 : Exit → Act → World → Prop) (A0 : Act) : Prop := ∀ (w2 : World) (d13 d14 : Value) (X2 X3 : Nat) (a : Bytes), Hid (Wst T b deep (bad || !Pr.nameOk r.name) out v w2) → Hid (Chg [b] w1 w2) → Hid (a = Pr.tRow ++ r.name ++ Pr.tAt ∧ a.length ≤ 1100) → Hid (Blk w2 X2 [.int .i64 r.f] 3 ∧ X2 ≠ b) → Hid (Blk w2 X3 [.int .i64 r.t] 3 ∧ X3 ≠ b) → wpAnyH Tryz.prog .any O Q0 (fun W' => Chg [b] w1 W') 14 #[true, true, true, true, true, true, true, true, true, true, true, true, true, true, true, false, false, false, false, true, true, true, true, true, true, false, false, false, true, true, true, true, true, true, false, false, false, true, true, true, true, true, false, false, false, false] (((((A0.put (some 13) d13).put (some 14) d14).put (some 15) (.string ⟨a.toArray⟩)).put (some 32) (.slice (some ⟨X2, 0, none⟩) 1 1)).put (some 41) (.slice (some ⟨X3, 0, none⟩) 1 1)) w2
def RowS1_24 (T : TypeId) (b deep : Nat) (w1 : World) (bad : Bool) (out : Bytes) (v : Value) (r : Pr.Rw) (O : Array Oper) (Q0 : Exit → Act → World → Prop) (A0 : Act) : Prop := ∀ (w2 : World) (d13 d14 : Value) (X2 X4 : Nat) (a : Bytes), Hid (Wst T b deep (bad || !Pr.nameOk r.name) out v w2) → Hid (Chg [b] w1 w2) → Hid (a = Pr.tRow ++ r.name ++ Pr.tAt ∧ a.length ≤ 1100) → Hid (Blk w2 X2 [.int .i64 r.f] 3 ∧ X2 ≠ b) → Hid (Blk w2 X4 [.int .i64 r.step] 3 ∧ X4 ≠ b) → wpAnyH Tryz.prog .any O Q0 (fun W' => Chg [b] w1 W') 14 #[true, true, true, true, true, true, true, true, true, true, true, true, true, true, true, false, false, false, false, true, true, true, true, true, true, false, false, false, true, true, true, true, true, false, false, false, false, true, true, true, true, true, true, false, false, false] (((((A0.put (some 13) d13).put (some 14) d14).put (some 15) (.string ⟨a.toArray⟩)).put (some 32) (.slice (some ⟨X2, 0, none⟩) 1 1)).put (some 50) (.slice (some ⟨X4, 0, none⟩) 1 1)) w2
def RowS1_34 (T : TypeId) (b deep : Nat) (w1 : World) (bad : Bool) (out : Bytes) (v : Value) (r : Pr.Rw) (O : Array Oper) (Q0 : Exit → Act → World → Prop) (A0 : Act) : Prop := ∀ (w2 : World) (d13 d14 : Value) (X3 X4 : Nat) (a : Bytes), Hid (Wst T b deep (bad || !Pr.nameOk r.name) out v w2) → Hid (Chg [b] w1 w2) → Hid (a = Pr.tRow ++ r.name ++ Pr.tAt ∧ a.length ≤ 1100) → Hid (Blk w2 X3 [.int .i64 r.t] 3 ∧ X3 ≠ b) → Hid (Blk w2 X4 [.int .i64 r.step] 3 ∧ X4 ≠ b) → wpAnyH Tryz.prog .any O Q0 (fun W' => Chg [b] w1 W') 14 #[true, true, true, true, true, true, true, true, true, true, true, true, true, true, true, false, false, false, false, true, true, true, true, true, false, false, false, false, true, true, true, true, true, true, false, false, false, true, true, true, true, true, true, false, false, false] (((((A0.put (some 13) d13).put (some 14) d14).put (some 15) (.string ⟨a.toArray⟩)).put (some 41) (.slice (some ⟨X3, 0, none⟩) 1 1)).put (some 50) (.slice (some ⟨X4, 0, none⟩) 1 1)) w2
def RowS1_1 (T : TypeId) (b deep : Nat) (w1 : World) (bad : Bool) (out : Bytes) (v : Value) (r : Pr.Rw) (O : Array Oper) (Q0 : Exit → Act → World → Prop) (A0 : Act) : Prop := ∀ (w2 : World) (d13 d14 : Value) (X1 : Nat) (a : Bytes), Hid (Wst T b deep (bad || !Pr.nameOk r.name) out v w2) → Hid (Chg [b] w1 w2) → Hid (a = Pr.tRow ++ r.name ++ Pr.tAt ∧ a.length ≤ 1100) → Hid (Blk w2 X1 [.int .i64 r.x, .int .i64 r.y] 3 ∧ X1 ≠ b) → wpAnyH Tryz.prog .any O Q0 (fun W' => Chg [b] w1 W') 15 #[true, true, true, true, true, true, true, true, true, true, true, true, true, true, true, true, false, false, false, true, true, true, true, true, false, false, false, false, true, true, true, true, true, false, false, false, false, true, true, true, true, true, false, false, false, false] ((((A0.put (some 13) d13).put (some 14) d14).put (some 15) (.string ⟨a.toArray⟩)).put (some 23) (.slice (some ⟨X1, 0, none⟩) 2 2)) w2
def RowS1_2 (T : TypeId) (b deep : Nat) (w1 : World) (bad : Bool) (out : Bytes) (v : Value) (r : Pr.Rw) (O : Array Oper) (Q0 : Exit → Act → World → Prop) (A0 : Act) : Prop := ∀ (w2 : World) (d13 d14 : Value) (X2 : Nat) (a : Bytes), Hid (Wst T b deep (bad || !Pr.nameOk r.name) out v w2) → Hid (Chg [b] w1 w2) → Hid (a = Pr.tRow ++ r.name ++ Pr.tAt ∧ a.length ≤ 1100) → Hid (Blk w2 X2 [.int .i64 r.f] 3 ∧ X2 ≠ b) → wpAnyH Tryz.prog .any O Q0 (fun W' => Chg [b] w1 W') 15 #[true, true, true, true, true, true, true, true, true, true, true, true, true, true, true, false, false, false, false, true, true, true, true, true, true, false, false, false, true, true, true, true, true, false, false, false, false, true, true, true, true, true, false, false, false, false] ((((A0.put (some 13) d13).put (some 14) d14).put (some 15) (.string ⟨a.toArray⟩)).put (some 32) (.slice (some ⟨X2, 0, none⟩) 1 1)) w2
def RowS1_3 (T : TypeId) (b deep : Nat) (w1 : World) (bad : Bool) (out : Bytes) (v : Value) (r : Pr.Rw) (O : Array Oper) (Q0 : Exit → Act → World → Prop) (A0 : Act) : Prop := ∀ (w2 : World) (d13 d14 : Value) (X3 : Nat) (a : Bytes), Hid (Wst T b deep (bad || !Pr.nameOk r.name) out v w2) → Hid (Chg [b] w1 w2) → Hid (a = Pr.tRow ++ r.name ++ Pr.tAt ∧ a.length ≤ 1100) → Hid (Blk w2 X3 [.int .i64 r.t] 3 ∧ X3 ≠ b) → wpAnyH Tryz.prog .any O Q0 (fun W' => Chg [b] w1 W') 15 #[true, true, true, true, true, true, true, true, true, true, true, true, true, true, true, false, false, false, false, true, true, true, true, true, false, false, false, false, true, true, true, true, true, true, false, false, false, true, true, true, true, true, false, false, false, false] ((((A0.put (some 13) d13).put (some 14) d14).put (some 15) (.string ⟨a.toArray⟩)).put (some 41) (.slice (some ⟨X3, 0, none⟩) 1 1)) w2
def RowS1_4 (T : TypeId) (b deep : Nat) (w1 : World) (bad : Bool) (out : Bytes) (v : Value) (r : Pr.Rw) (O : Array Oper) (Q0 : Exit → Act → World → Prop) (A0 : Act) : Prop := ∀ (w2 : World) (d13 d14 : Value) (X4 : Nat) (a : Bytes), Hid (Wst T b deep (bad || !Pr.nameOk r.name) out v w2) → Hid (Chg [b] w1 w2) → Hid (a = Pr.tRow ++ r.name ++ Pr.tAt ∧ a.length ≤ 1100) → Hid (Blk w2 X4 [.int .i64 r.step] 3 ∧ X4 ≠ b) → wpAnyH Tryz.prog .any O Q0 (fun W' => Chg [b] w1 W') 15 #[true, true, true, true, true, true, true, true, true, true, true, true, true, true, true, false, false, false, false, true, true, true, true, true, false, false, false, false, true, true, true, true, true, false, false, false, false, true, true, true, true, true, true, false, false, false] ((((A0.put (some 13) d13).put (some 14) d14).put (some 15) (.string ⟨a.toArray⟩)).put (some 50) (.slice (some ⟨X4, 0, none⟩) 1 1)) w2
def RowS1_ (T : TypeId) (b deep : Nat) (w1 : World) (bad : Bool) (out : Bytes) (v : Value) (r : Pr.Rw) (O : Array Oper) (Q0 : Exit → Act → World → Prop) (A0 : Act) : Prop := ∀ (w2 : World) (d13 d14 : Value) (a : Bytes), Hid (Wst T b deep (bad || !Pr.nameOk r.name) out v w2) → Hid (Chg [b] w1 w2) → Hid (a = Pr.tRow ++ r.name ++ Pr.tAt ∧ a.length ≤ 1100) → wpAnyH Tryz.prog .any O Q0 (fun W' => Chg [b] w1 W') 16 #[true, true, true, true, true, true, true, true, true, true, true, true, true, true, true, false, false, false, false, true, true, true, true, true, false, false, false, false, true, true, true, true, true, false, false, false, false, true, true, true, true, true, false, false, false, false] (((A0.put (some 13) d13).put (some 14) d14).put (some 15) (.string ⟨a.toArray⟩)) w2
def RowS0_1234 (T : TypeId) (b deep : Nat) (w1 : World) (bad : Bool) (out : Bytes) (v : Value) (r : Pr.Rw) (O : Array Oper) (Q0 : Exit → Act → World → Prop) (A0 : Act) : Prop := ∀ (w2 : World) (X1 X2 X3 X4 : Nat), Hid (Wst T b deep bad out v w2) → Hid (Chg [b] w1 w2) → Hid (Blk w2 X1 [.int .i64 r.x, .int .i64 r.y] 3 ∧ X1 ≠ b) → Hid (Blk w2 X2 [.int .i64 r.f] 3 ∧ X2 ≠ b) → Hid (Blk w2 X3 [.int .i64 r.t] 3 ∧ X3 ≠ b) → Hid (Blk w2 X4 [.int .i64 r.step] 3 ∧ X4 ≠ b) → wpAnyH Tryz.prog .any O Q0 (fun W' => Chg [b] w1 W') 15 #[true, true, true, true, true, false, false, false, true, true, true, true, true, true, true, true, false, false, false, true, true, true, true, true, true, false, false, false, true, true, true, true, true, true, false, false, false, true, true, true, true, true, true, false, false, false] ((((A0.put (some 23) (.slice (some ⟨X1, 0, none⟩) 2 2)).put (some 32) (.slice (some ⟨X2, 0, none⟩) 1 1)).put (some 41) (.slice (some ⟨X3, 0, none⟩) 1 1)).put (some 50) (.slice (some ⟨X4, 0, none⟩) 1 1)) w2
def RowS0_123 (T : TypeId) (b deep : Nat) (w1 : World) (bad : Bool) (out : Bytes) (v : Value) (r : Pr.Rw) (O : Array Oper) (Q0 : Exit → Act → World → Prop) (A0 : Act) : Prop := ∀ (w2 : World) (X1 X2 X3 : Nat), Hid (Wst T b deep bad out v w2) → Hid (Chg [b] w1 w2) → Hid (Blk w2 X1 [.int .i64 r.x, .int .i64 r.y] 3 ∧ X1 ≠ b) → Hid (Blk w2 X2 [.int .i64 r.f] 3 ∧ X2 ≠ b) → Hid (Blk w2 X3 [.int .i64 r.t] 3 ∧ X3 ≠ b) → wpAnyH Tryz.prog .any O Q0 (fun W' => Chg [b] w1 W') 16 #[true, true, true, true, true, false, false, false, true, true, true, true, true, true, true, true, false, false, false, true, true, true, true, true, true, false, false, false, true, true, true, true, true, true, false, false, false, true, true, true, true, true, false, false, false, false] (((A0.put (some 23) (.slice (some ⟨X1, 0, none⟩) 2 2)).put (some 32) (.slice (some ⟨X2, 0, none⟩) 1 1)).put (some 41) (.slice (some ⟨X3, 0, none⟩) 1 1)) w2
def RowS0_124 (T : TypeId) (b deep : Nat) (w1 : World) (bad : Bool) (out : Bytes) (v : Value) (r : Pr.Rw) (O : Array Oper) (Q0 : Exit → Act → World → Prop) (A0 : Act) : Prop := ∀ (w2 : World) (X1 X2 X4 : Nat), Hid (Wst T b deep bad out v w2) → Hid (Chg [b] w1 w2) → Hid (Blk w2 X1 [.int .i64 r.x, .int .i64 r.y] 3 ∧ X1 ≠ b) → Hid (Blk w2 X2 [.int .i64 r.f] 3 ∧ X2 ≠ b) → Hid (Blk w2 X4 [.int .i64 r.step] 3 ∧ X4 ≠ b) → wpAnyH Tryz.prog .any O Q0 (fun W' => Chg [b] w1 W') 16 #[true, true, true, true, true, false, false, false, true, true, true, true, true, true, true, true, false, false, false, true, true, true, true, true, true, false, false, false, true, true, true, true, true, false, false, false, false, true, true, true, true, true, true, false, false, false] (((A0.put (some 23) (.slice (some ⟨X1, 0, none⟩) 2 2)).put (some 32) (.slice (some ⟨X2, 0, none⟩) 1 1)).put (some 50) (.slice (some ⟨X4, 0, none⟩) 1 1)) w2
def RowS0_134 (T : TypeId) (b deep : Nat) (w1 : World) (bad : Bool) (out : Bytes) (v : Value) (r : Pr.Rw) (O : Array Oper) (Q0 : Exit → Act → World → Prop) (A0 : Act) : Prop := ∀ (w2 : World) (X1 X3 X4 : Nat), Hid (Wst T b deep bad out v w2) → Hid (Chg [b] w1 w2) → Hid (Blk w2 X1 [.int .i64 r.x, .int .i64 r.y] 3 ∧ X1 ≠ b) → Hid (Blk w2 X3 [.int .i64 r.t] 3 ∧ X3 ≠ b) → Hid (Blk w2 X4 [.int .i64 r.step] 3 ∧ X4 ≠ b) → wpAnyH Tryz.prog .any O Q0 (fun W' => Chg [b] w1 W') 16 #[true, true, true, true, true, false, false, false, true, true, true, true, true, true, true, true, false, false, false, true, true, true, true, true, false, false, false, false, true, true, true, true, true, true, false, false, false, true, true, true, true, true, true, false, false, false] (((A0.put (some 23) (.slice (some ⟨X1, 0, none⟩) 2 2)).put (some 41) (.slice (some ⟨X3, 0, none⟩) 1 1)).put (some 50) (.slice (some ⟨X4, 0, none⟩) 1 1)) w2
def RowS0_234 (T : TypeId) (b deep : Nat) (w1 : World) (bad : Bool) (out : Bytes) (v : Value) (r : Pr.Rw) (O : Array Oper) (Q0 : Exit → Act → World → Prop) (A0 : Act) : Prop := ∀ (w2 : World) (X2 X3 X4 : Nat), Hid (Wst T b deep bad out v w2) → Hid (Chg [b] w1 w2) → Hid (Blk w2 X2 [.int .i64 r.f] 3 ∧ X2 ≠ b) → Hid (Blk w2 X3 [.int .i64 r.t] 3 ∧ X3 ≠ b) → Hid (Blk w2 X4 [.int .i64 r.step] 3 ∧ X4 ≠ b) → wpAnyH Tryz.prog .any O Q0 (fun W' => Chg [b] w1 W') 16 #[true, true, true, true, true, false, false, false, true, true, true, true, true, true, true, false, false, false, false, true, true, true, true, true, true, false, false, false, true, true, true, true, true, true, false, false, false, true, true, true, true, true, true, false, false, false] (((A0.put (some 32) (.slice (some ⟨X2, 0, none⟩) 1 1)).put (some 41) (.slice (some ⟨X3, 0, none⟩) 1 1)).put (some 50) (.slice (some ⟨X4, 0, none⟩) 1 1)) w2
def RowS0_12 (T : TypeId) (b deep : Nat) (w1 : World) (bad : Bool) (out : Bytes) (v : Value) (r : Pr.Rw) (O : Array Oper) (Q0 : Exit → Act → World → Prop) (A0 : Act) : Prop := ∀ (w2 : World) (X1 X2 : Nat), Hid (Wst T b deep bad out v w2) → Hid (Chg [b] w1 w2) → Hid (Blk w2 X1 [.int .i64 r.x, .int .i64 r.y] 3 ∧ X1 ≠ b) → Hid (Blk w2 X2 [.int .i64 r.f] 3 ∧ X2 ≠ b) → wpAnyH Tryz.prog .any O Q0 (fun W' => Chg [b] w1 W') 17 #[true, true, true, true, true, false, false, false, true, true, true, true, true, true, true, true, false, false, false, true, true, true, true, true, true, false, false, false, true, true, true, true, true, false, false, false, false, true, true, true, true, true, false, false, false, false] ((A0.put (some 23) (.slice (some ⟨X1, 0, none⟩) 2 2)).put (some 32) (.slice (some ⟨X2, 0, none⟩) 1 1)) w2
def RowS0_13 (T : TypeId) (b deep : Nat) (w1 : World) (bad : Bool) (out : Bytes) (v : Value) (r : Pr.Rw) (O : Array Oper) (Q0 : Exit → Act → World → Prop) (A0 : Act) : Prop := ∀ (w2 : World) (X1 X3 : Nat), Hid (Wst T b deep bad out v w2) → Hid (Chg [b] w1 w2) → Hid (Blk w2 X1 [.int .i64 r.x, .int .i64 r.y] 3 ∧ X1 ≠ b) → Hid (Blk w2 X3 [.int .i64 r.t] 3 ∧ X3 ≠ b) → wpAnyH Tryz.prog .any O Q0 (fun W' => Chg [b] w1 W') 17 #[true, true, true, true, true, false, false, false, true, true, true, true, true, true, true, true, false, false, false, true, true, true, true, true, false, false, false, false, true, true, true, true, true, true, false, false, false, true, true, true, true, true, false, false, false, false] ((A0.put (some 23) (.slice (some ⟨X1, 0, none⟩) 2 2)).put (some 41) (.slice (some ⟨X3, 0, none⟩) 1 1)) w2
def RowS0_14 (T : TypeId) (b deep : Nat) (w1 : World) (bad : Bool) (out : Bytes) (v : Value) (r : Pr.Rw) (O : Array Oper) (Q0 : Exit → Act → World → Prop) (A0 : Act) : Prop := ∀ (w2 : World) (X1 X4 : Nat), Hid (Wst T b deep bad out v w2) → Hid (Chg [b] w1 w2) → Hid (Blk w2 X1 [.int .i64 r.x, .int .i64 r.y] 3 ∧ X1 ≠ b) → Hid (Blk w2 X4 [.int .i64 r.step] 3 ∧ X4 ≠ b) → wpAnyH Tryz.prog .any O Q0 (fun W' => Chg [b] w1 W') 17 #[true, true, true, true, true, false, false, false, true, true, true, true, true, true, true, true, false, false, false, true, true, true, true, true, false, false, false, false, true, true, true, true, true, false, false, false, false, true, true, true, true, true, true, false, false, false] ((A0.put (some 23) (.slice (some ⟨X1, 0, none⟩) 2 2)).put (some 50) (.slice (some ⟨X4, 0, none⟩) 1 1)) w2
def RowS0_23 (T : TypeId) (b deep : Nat) (w1 : World) (bad : Bool) (out : Bytes) (v : Value) (r : Pr.Rw) (O : Array Oper) (Q0 : Exit → Act → World → Prop) (A0 : Act) : Prop := ∀ (w2 : World) (X2 X3 : Nat), Hid (Wst T b deep bad out v w2) → Hid (Chg [b] w1 w2) → Hid (Blk w2 X2 [.int .i64 r.f] 3 ∧ X2 ≠ b) → Hid (Blk w2 X3 [.int .i64 r.t] 3 ∧ X3 ≠ b) → wpAnyH Tryz.prog .any O Q0 (fun W' => Chg [b] w1 W') 17 #[true, true, true, true, true, false, false, false, true, true, true, true, true, true, true, false, false, false, false, true, true, true, true, true, true, false, false, false, true, true, true, true, true, true, false, false, false, true, true, true, true, true, false, false, false, false] ((A0.put (some 32) (.slice (some ⟨X2, 0, none⟩) 1 1)).put (some 41) (.slice (some ⟨X3, 0, none⟩) 1 1)) w2
def RowS0_24 (T : TypeId) (b deep : Nat) (w1 : World) (bad : Bool) (out : Bytes) (v : Value) (r : Pr.Rw) (O : Array Oper) (Q0 : Exit → Act → World → Prop) (A0 : Act) : Prop := ∀ (w2 : World) (X2 X4 : Nat), Hid (Wst T b deep bad out v w2) → Hid (Chg [b] w1 w2) → Hid (Blk w2 X2 [.int .i64 r.f] 3 ∧ X2 ≠ b) → Hid (Blk w2 X4 [.int .i64 r.step] 3 ∧ X4 ≠ b) → wpAnyH Tryz.prog .any O Q0 (fun W' => Chg [b] w1 W') 17 #[true, true, true, true, true, false, false, false, true, true, true, true, true, true, true, false, false, false, false, true, true, true, true, true, true, false, false, false, true, true, true, true, true, false, false, false, false, true, true, true, true, true, true, false, false, false] ((A0.put (some 32) (.slice (some ⟨X2, 0, none⟩) 1 1)).put (some 50) (.slice (some ⟨X4, 0, none⟩) 1 1)) w2
def RowS0_34 (T : TypeId) (b deep : Nat) (w1 : World) (bad : Bool) (out : Bytes) (v : Value) (r : Pr.Rw) (O : Array Oper) (Q0 : Exit → Act → World → Prop) (A0 : Act) : Prop := ∀ (w2 : World) (X3 X4 : Nat), Hid (Wst T b deep bad out v w2) → Hid (Chg [b] w1 w2) → Hid (Blk w2 X3 [.int .i64 r.t] 3 ∧ X3 ≠ b) → Hid (Blk w2 X4 [.int .i64 r.step] 3 ∧ X4 ≠ b) → wpAnyH Tryz.prog .any O Q0 (fun W' => Chg [b] w1 W') 17 #[true, true, true, true, true, false, false, false, true, true, true, true, true, true, true, false, false, false, false, true, true, true, true, true, false, false, false, false, true, true, true, true, true, true, false, false, false, true, true, true, true, true, true, false, false, false] ((A0.put (some 41) (.slice (some ⟨X3, 0, none⟩) 1 1)).put (some 50) (.slice (some ⟨X4, 0, none⟩) 1 1)) w2
def RowS0_1 (T : TypeId) (b deep : Nat) (w1 : World) (bad : Bool) (out : Bytes) (v : Value) (r : Pr.Rw) (O : Array Oper) (Q0 : Exit → Act → World → Prop) (A0 : Act) : Prop := ∀ (w2 : World) (X1 : Nat), Hid (Wst T b deep bad out v w2) → Hid (Chg [b] w1 w2) → Hid (Blk w2 X1 [.int .i64 r.x, .int .i64 r.y] 3 ∧ X1 ≠ b) → wpAnyH Tryz.prog .any O Q0 (fun W' => Chg [b] w1 W') 18 #[true, true, true, true, true, false, false, false, true, true, true, true, true, true, true, true, false, false, false, true, true, true, true, true, false, false, false, false, true, true, true, true, true, false, false, false, false, true, true, true, true, true, false, false, false, false] (A0.put (some 23) (.slice (some ⟨X1, 0, none⟩) 2 2)) w2
def RowS0_2 (T : TypeId) (b deep : Nat) (w1 : World) (bad : Bool) (out : Bytes) (v : Value) (r : Pr.Rw) (O : Array Oper) (Q0 : Exit → Act → World → Prop) (A0 : Act) : Prop := ∀ (w2 : World) (X2 : Nat), Hid (Wst T b deep bad out v w2) → Hid (Chg [b] w1 w2) → Hid (Blk w2 X2 [.int .i64 r.f] 3 ∧ X2 ≠ b) → wpAnyH Tryz.prog .any O Q0 (fun W' => Chg [b] w1 W') 18 #[true, true, true, true, true, false, false, false, true, true, true, true, true, true, true, false, false, false, false, true, true, true, true, true, true, false, false, false, true, true, true, true, true, false, false, false, false, true, true, true, true, true, false, false, false, false] (A0.put (some 32) (.slice (some ⟨X2, 0, none⟩) 1 1)) w2
def RowS0_3 (T : TypeId) (b deep : Nat) (w1 : World) (bad : Bool) (out : Bytes) (v : Value) (r : Pr.Rw) (O : Array Oper) (Q0 : Exit → Act → World → Prop) (A0 : Act) : Prop := ∀ (w2 : World) (X3 : Nat), Hid (Wst T b deep bad out v w2) → Hid (Chg [b] w1 w2) → Hid (Blk w2 X3 [.int .i64 r.t] 3 ∧ X3 ≠ b) → wpAnyH Tryz.prog .any O Q0 (fun W' => Chg [b] w1 W') 18 #[true, true, true, true, true, false, false, false, true, true, true, true, true, true, true, false, false, false, false, true, true, true, true, true, false, false, false, false, true, true, true, true, true, true, false, false, false, true, true, true, true, true, false, false, false, false] (A0.put (some 41) (.slice (some ⟨X3, 0, none⟩) 1 1)) w2
def RowS0_4 (T : TypeId) (b deep : Nat) (w1 : World) (bad : Bool) (out : Bytes) (v : Value) (r : Pr.Rw) (O : Array Oper) (Q0 : Exit → Act → World → Prop) (A0 : Act) : Prop := ∀ (w2 : World) (X4 : Nat), Hid (Wst T b deep bad out v w2) → Hid (Chg [b] w1 w2) → Hid (Blk w2 X4 [.int .i64 r.step] 3 ∧ X4 ≠ b) → wpAnyH Tryz.prog .any O Q0 (fun W' => Chg [b] w1 W') 18 #[true, true, true, true, true, false, false, false, true, true, true, true, true, true, true, false, false, false, false, true, true, true, true, true, false, false, false, false, true, true, true, true, true, false, false, false, false, true, true, true, true, true, true, false, false, false] (A0.put (some 50) (.slice (some ⟨X4, 0, none⟩) 1 1)) w2
def RowS0_ (T : TypeId) (b deep : Nat) (w1 : World) (bad : Bool) (out : Bytes) (v : Value) (r : Pr.Rw) (O : Array Oper) (Q0 : Exit → Act → World → Prop) (A0 : Act) : Prop := ∀ (w2 : World), Hid (Wst T b deep bad out v w2) → Hid (Chg [b] w1 w2) → wpAnyH Tryz.prog .any O Q0 (fun W' => Chg [b] w1 W') 19 #[true, true, true, true, true, false, false, false, true, true, true, true, true, true, true, false, false, false, false, true, true, true, true, true, false, false, false, false, true, true, true, true, true, false, false, false, false, true, true, true, true, true, false, false, false, false] A0 w2
def RowA (b M : Nat) (r : Pr.Rw) (y : Nat → Value) : Act := { tmps := #[.pointer (some ⟨b, 0, none⟩), y 1, y 2, y 3, y 4, y 5, y 6, y 7, .pointer (some ⟨b, 0, none⟩), .pointer (some ⟨b, 0, none⟩), .pointer (some ⟨b, 0, none⟩), .pointer (some ⟨M, 0, none⟩), .string ⟨r.name.toArray⟩, y 13, y 14, y 15, .pointer (some ⟨b, 0, none⟩), .pointer (some ⟨b, 0, none⟩), .pointer (some ⟨b, 0, none⟩), .pointer (some ⟨M, 1, none⟩), .int .i64 r.x, .pointer (some ⟨M, 2, none⟩), .int .i64 r.y, y 23, y 24, y 25, y 26, .pointer (some ⟨b, 0, none⟩), .pointer (some ⟨b, 0, none⟩), .pointer (some ⟨b, 0, none⟩), .pointer (some ⟨M, 3, none⟩), .int .i64 r.f, y 32, y 33, y 34, y 35, .pointer (some ⟨b, 0, none⟩), .pointer (some ⟨b, 0, none⟩), .pointer (some ⟨b, 0, none⟩), .pointer (some ⟨M, 4, none⟩), .int .i64 r.t, y 41, y 42, y 43, y 44, .pointer (some ⟨b, 0, none⟩), .pointer (some ⟨b, 0, none⟩), .pointer (some ⟨b, 0, none⟩), .pointer (some ⟨M, 5, none⟩), .int .i64 r.step, y 50, y 51, y 52, y 53, y 54, y 55, y 56, y 57, y 58, y 59, y 60, y 61, y 62, y 63, y 64, y 65, y 66, y 67, y 68, y 69, y 70, y 71, y 72, y 73, y 74, y 75, y 76, y 77, y 78, y 79, y 80, y 81, y 82, y 83, y 84, y 85, y 86, y 87, y 88, y 89, y 90, y 91, y 92, y 93, y 94, y 95, y 96, y 97, y 98, y 99, y 100, y 101, y 102, y 103, y 104, y 105, y 106, y 107, y 108, y 109, y 110, y 111, y 112, y 113, y 114, y 115, y 116], defers := [] }
theorem RowA_of {b M : Nat} {r : Pr.Rw} {y1 y2 y3 y4 y5 y6 y7 y13 y14 y15 y23 y24 y25 y26 y32 y33 y34 y35 y41 y42 y43 y44 y50 y51 y52 y53 y54 y55 y56 y57 y58 y59 y60 y61 y62 y63 y64 y65 y66 y67 y68 y69 y70 y71 y72 y73 y74 y75 y76 y77 y78 y79 y80 y81 y82 y83 y84 y85 y86 y87 y88 y89 y90 y91 y92 y93 y94 y95 y96 y97 y98 y99 y100 y101 y102 y103 y104 y105 y106 y107 y108 y109 y110 y111 y112 y113 y114 y115 y116 : Value} {A0 : Act} (h : Hid (A0 = { tmps := #[.pointer (some ⟨b, 0, none⟩), y1, y2, y3, y4, y5, y6, y7, .pointer (some ⟨b, 0, none⟩), .pointer (some ⟨b, 0, none⟩), .pointer (some ⟨b, 0, none⟩), .pointer (some ⟨M, 0, none⟩), .string ⟨r.name.toArray⟩, y13, y14, y15, .pointer (some ⟨b, 0, none⟩), .pointer (some ⟨b, 0, none⟩), .pointer (some ⟨b, 0, none⟩), .pointer (some ⟨M, 1, none⟩), .int .i64 r.x, .pointer (some ⟨M, 2, none⟩), .int .i64 r.y, y23, y24, y25, y26, .pointer (some ⟨b, 0, none⟩), .pointer (some ⟨b, 0, none⟩), .pointer (some ⟨b, 0, none⟩), .pointer (some ⟨M, 3, none⟩), .int .i64 r.f, y32, y33, y34, y35, .pointer (some ⟨b, 0, none⟩), .pointer (some ⟨b, 0, none⟩), .pointer (some ⟨b, 0, none⟩), .pointer (some ⟨M, 4, none⟩), .int .i64 r.t, y41, y42, y43, y44, .pointer (some ⟨b, 0, none⟩), .pointer (some ⟨b, 0, none⟩), .pointer (some ⟨b, 0, none⟩), .pointer (some ⟨M, 5, none⟩), .int .i64 r.step, y50, y51, y52, y53, y54, y55, y56, y57, y58, y59, y60, y61, y62, y63, y64, y65, y66, y67, y68, y69, y70, y71, y72, y73, y74, y75, y76, y77, y78, y79, y80, y81, y82, y83, y84, y85, y86, y87, y88, y89, y90, y91, y92, y93, y94, y95, y96, y97, y98, y99, y100, y101, y102, y103, y104, y105, y106, y107, y108, y109, y110, y111, y112, y113, y114, y115, y116], defers := [] })) : ∃ y : Nat → Value, Hid (A0 = RowA b M r y) :=
  ⟨fun n => match n with
  | 1 => y1
  | 2 => y2
  | 3 => y3
  | 4 => y4
  | 5 => y5
  | 6 => y6
  | 7 => y7
  | 13 => y13
  | 14 => y14
  | 15 => y15
  | 23 => y23
  | 24 => y24
  | 25 => y25
  | 26 => y26
  | 32 => y32
  | 33 => y33
  | 34 => y34
  | 35 => y35
  | 41 => y41
  | 42 => y42
  | 43 => y43
  | 44 => y44
  | 50 => y50
  | 51 => y51
  | 52 => y52
  | 53 => y53
  | 54 => y54
  | 55 => y55
  | 56 => y56
  | 57 => y57
  | 58 => y58
  | 59 => y59
  | 60 => y60
  | 61 => y61
  | 62 => y62
  | 63 => y63
  | 64 => y64
  | 65 => y65
  | 66 => y66
  | 67 => y67
  | 68 => y68
  | 69 => y69
  | 70 => y70
  | 71 => y71
  | 72 => y72
  | 73 => y73
  | 74 => y74
  | 75 => y75
  | 76 => y76
  | 77 => y77
  | 78 => y78
  | 79 => y79
  | 80 => y80
  | 81 => y81
  | 82 => y82
  | 83 => y83
  | 84 => y84
  | 85 => y85
  | 86 => y86
  | 87 => y87
  | 88 => y88
  | 89 => y89
  | 90 => y90
  | 91 => y91
  | 92 => y92
  | 93 => y93
  | 94 => y94
  | 95 => y95
  | 96 => y96
  | 97 => y97
  | 98 => y98
  | 99 => y99
  | 100 => y100
  | 101 => y101
  | 102 => y102
  | 103 => y103
  | 104 => y104
  | 105 => y105
  | 106 => y106
  | 107 => y107
  | 108 => y108
  | 109 => y109
  | 110 => y110
  | 111 => y111
  | 112 => y112
  | 113 => y113
  | 114 => y114
  | 115 => y115
  | 116 => y116
  | _ => undef, h⟩
variable {T : TypeId} {b deep M : Nat} {w0 w1 : World} {bad : Bool} {out : Bytes} {v : Value} {r : Pr.Rw} {O : Array Oper} {Q0 : Exit → Act → World → Prop} {A0 : Act} {y : Nat → Value}
set_option maxHeartbeats 40000000 in
set_option maxRecDepth 100000 in
theorem rows4_1234 (C : RowC w0 b w1 r) (hO : Hid (RowO O)) (HPQ : Hid (∀ c a d x w, Q0 (.panic c) (a.put d x) w → Q0 (.panic c) a w)) (hA : Hid (A0 = RowA b M r y)) (st5_1234 : Hid (RowS5_1234 T b deep w1 bad out v r O Q0 A0)) : Hid (RowS4_1234 T b deep w1 bad out v r O Q0 A0) := hd (by
 have HL := C.HL
 have HB0 := C.HB0
 have HQ1 := C.HQ1
 have HRI := C.HRI
 have HRN := C.HRN
 clear C
 unfold RowS4_1234
 have hlit := hO.out
 unfold RowO at hlit
 simp only [Tryz.f61, findR, Option.getD, if_true, if_false, Nat.reduceEqDiff] at hlit
 injection hlit with hlit
 have HLIT := hd hlit
 clear hlit hO
 intro w2 d13 d14 d15 d24 d25 d26 d33 d34 d35 d42 d43 X1 X2 X3 X4 a HW2 HC2 HA HX4
 rw [← HLIT.out, hA.out]
 unfold RowA
 try simp only [qq]
 refine rd1 43 (fun K hK => ?_)
 · go_simp
   refine numbers_r HL HB0 (hd ((HQ1.out.since HC2.out HB0.out))) HW2 [r.step] 1 ⟨rfl, by decide⟩ (by intro q hq; rw [List.mem_singleton] at hq; rw [hq]; exact HRI.out.2.2.2.2) HX4.out.1 HX4.out.2 (fun w3 h3 h4 => ?_)
   have HW3 := hd h3
   have HC3 : Hid (Chg [b] w1 w3) := hd (HC2.out.trans h4 (fun q hq => .inl hq))
   have H34 := hd h4
   refine hK.out _ _ HC3.out (fun hHeld => ?_)
   clear hK K h3 h4
   try simp only [qq]
   have gn : (Pr.nums [r.step]).length ≤ 22 := Pr.nums_len [r.step] (by intro q hq; rw [List.mem_singleton] at hq; rw [hq]; exact HRI.out.2.2.2.2)
   obtain ⟨nn, hnn⟩ : ∃ nn, nn = Pr.nums [r.step] := ⟨_, rfl⟩
   rw [← hnn] at gn
   rw [← hnn]
   have HNN := hd hnn
   clear hnn
   have gl := HA.out.2
   have g1 : ¬ 9223372036854775807 < a.length + nn.length := by omega
   refine tk 44 ?vn123444 ?hyn123444 ?rsn123444 (hQ := fun _ _ _ h => HPQ.out _ _ _ _ _ h)
   case hyn123444 => (intro w9 hSw; go_simp; try with_reducible rfl)
   try simp only [qq]
   rw [str2]
   have z := st5_1234.out w3 d13 d14 d15 d24 d25 d26 d33 d34 d35 d42 d43 (.string ⟨a.toArray⟩) (.string ⟨(nn).toArray⟩) X1 X2 X3 X4 (a ++ nn) HW3 HC3 (hd ⟨by rw [HA.out.1, HNN.out], by rw [List.length_append]; omega⟩)
   rw [← HLIT.out, hA.out] at z
   try simp only [qq]
   exact wpAnyH_act (by kernel_rfl) z)
set_option maxHeartbeats 40000000 in
set_option maxRecDepth 100000 in
theorem rows4_123 (C : RowC w0 b w1 r) (hO : Hid (RowO O)) (HPQ : Hid (∀ c a d x w, Q0 (.panic c) (a.put d x) w → Q0 (.panic c) a w)) (hA : Hid (A0 = RowA b M r y)) (st4_1234 : Hid (RowS4_1234 T b deep w1 bad out v r O Q0 A0)) : Hid (RowS4_123 T b deep w1 bad out v r O Q0 A0) := hd (by
 have HL := C.HL
 have HB0 := C.HB0
 have HQ1 := C.HQ1
 have HRI := C.HRI
 have HRN := C.HRN
 clear C
 unfold RowS4_123
 have hlit := hO.out
 unfold RowO at hlit
 simp only [Tryz.f61, findR, Option.getD, if_true, if_false, Nat.reduceEqDiff] at hlit
 injection hlit with hlit
 have HLIT := hd hlit
 clear hlit hO
 intro w2 d13 d14 d15 d24 d25 d26 d33 d34 d35 d42 d43 X1 X2 X3 a HW2 HC2 HA
 rw [← HLIT.out, hA.out]
 unfold RowA
 try simp only [qq]
 refine rd1 42 (fun K hK => ?_)
 · go_simp
   obtain ⟨w3, hw3⟩ : ∃ W, W = w2.alloc (.cells #[.int .i64 r.step] 3) := ⟨_, rfl⟩
   rw [← hw3]
   obtain ⟨Y, hY⟩ : ∃ X, X = w2.heap.size := ⟨_, rfl⟩
   rw [← hY]
   have HY : Hid (Blk w3 Y [.int .i64 r.step] 3 ∧ Y ≠ b) := hd ⟨by rw [hw3, hY]; exact Blk.new w2 [.int .i64 r.step] _, by have := HW2.out.lt; omega⟩
   have C3 : Hid (Chg [] w2 w3) := hd (by rw [hw3]; exact (Chg.refl _ _).alloc _)
   have HC3 : Hid (Chg [b] w1 w3) := hd (HC2.out.trans C3.out (by simp))
   have HW3 := hd (HW2.out.quiet C3.out)
   refine hK.out _ _ HC3.out (fun hHeld => ?_)
   clear hK K hw3 hY
   have z := st4_1234.out w3 d13 d14 d15 d24 d25 d26 d33 d34 d35 d42 d43 X1 X2 X3 Y a HW3 HC3 HA HY
   rw [← HLIT.out, hA.out] at z
   try simp only [qq]
   exact wpAnyH_act (by kernel_rfl) z)
set_option maxHeartbeats 40000000 in
set_option maxRecDepth 100000 in
theorem rows3_1234 (C : RowC w0 b w1 r) (hO : Hid (RowO O)) (HPQ : Hid (∀ c a d x w, Q0 (.panic c) (a.put d x) w → Q0 (.panic c) a w)) (hA : Hid (A0 = RowA b M r y)) (st4_1234 : Hid (RowS4_1234 T b deep w1 bad out v r O Q0 A0)) : Hid (RowS3_1234 T b deep w1 bad out v r O Q0 A0) := hd (by
 have HL := C.HL
 have HB0 := C.HB0
 have HQ1 := C.HQ1
 have HRI := C.HRI
 have HRN := C.HRN
 clear C
 unfold RowS3_1234
 have hlit := hO.out
 unfold RowO at hlit
 simp only [Tryz.f61, findR, Option.getD, if_true, if_false, Nat.reduceEqDiff] at hlit
 injection hlit with hlit
 have HLIT := hd hlit
 clear hlit hO
 intro w2 d13 d14 d15 d24 d25 d26 d33 d34 X1 X2 X3 X4 a HW2 HC2 HA HX3 HX4
 rw [← HLIT.out, hA.out]
 unfold RowA
 try simp only [qq]
 refine rd1 34 (fun K hK => ?_)
 · go_simp
   refine numbers_r HL HB0 (hd ((HQ1.out.since HC2.out HB0.out))) HW2 [r.t] 1 ⟨rfl, by decide⟩ (by intro q hq; rw [List.mem_singleton] at hq; rw [hq]; exact HRI.out.2.2.2.1) HX3.out.1 HX3.out.2 (fun w3 h3 h4 => ?_)
   have HW3 := hd h3
   have HC3 : Hid (Chg [b] w1 w3) := hd (HC2.out.trans h4 (fun q hq => .inl hq))
   have H34 := hd h4
   refine hK.out _ _ HC3.out (fun hHeld => ?_)
   clear hK K h3 h4
   try simp only [qq]
   have gn : (Pr.nums [r.t]).length ≤ 22 := Pr.nums_len [r.t] (by intro q hq; rw [List.mem_singleton] at hq; rw [hq]; exact HRI.out.2.2.2.1)
   obtain ⟨nn, hnn⟩ : ∃ nn, nn = Pr.nums [r.t] := ⟨_, rfl⟩
   rw [← hnn] at gn
   rw [← hnn]
   have HNN := hd hnn
   clear hnn
   have gl := HA.out.2
   have g1 : ¬ 9223372036854775807 < a.length + nn.length := by omega
   refine tk 35 ?vn123435 ?hyn123435 ?rsn123435 (hQ := fun _ _ _ h => HPQ.out _ _ _ _ _ h)
   case hyn123435 => (intro w9 hSw; go_simp; try with_reducible rfl)
   try simp only [qq]
   rw [str2]
   have gz : (⟨(a ++ nn).toArray⟩ : ByteArray).size = a.length + nn.length := by rw [size_of9, List.length_append]
   have g2 : ¬ 9223372036854775807 < a.length + nn.length + 5 := by omega
   refine tk 36 ?vm123436 ?hym123436 ?rsm123436 (hQ := fun _ _ _ h => HPQ.out _ _ _ _ _ h)
   case hym123436 => (intro w9 hSw; go_simp; try with_reducible rfl)
   try simp only [qq]
   rw [show (⟨(a ++ nn).toArray⟩ : ByteArray) ++ ⟨#[32, 115, 116, 101, 112]⟩ = ⟨(a ++ nn ++ Pr.tStep).toArray⟩ from str2 _ _]
   have z := st4_1234.out w3 d13 d14 d15 d24 d25 d26 d33 d34 (.string ⟨a.toArray⟩) (.string ⟨(nn).toArray⟩) (.string ⟨(a ++ nn).toArray⟩) X1 X2 X3 X4 (a ++ nn ++ Pr.tStep) HW3 HC3 (hd ⟨by rw [HA.out.1, HNN.out], by rw [List.length_append, List.length_append]; show _ + 5 ≤ _; omega⟩) (hd ⟨H34.out.blk HX4.out.1 (by simp [HX4.out.2]), HX4.out.2⟩)
   rw [← HLIT.out, hA.out] at z
   try simp only [qq]
   exact wpAnyH_act (by kernel_rfl) z)
set_option maxHeartbeats 40000000 in
set_option maxRecDepth 100000 in
theorem rows3_123 (C : RowC w0 b w1 r) (hO : Hid (RowO O)) (HPQ : Hid (∀ c a d x w, Q0 (.panic c) (a.put d x) w → Q0 (.panic c) a w)) (hA : Hid (A0 = RowA b M r y)) (st4_123 : Hid (RowS4_123 T b deep w1 bad out v r O Q0 A0)) (st3_1234 : Hid (RowS3_1234 T b deep w1 bad out v r O Q0 A0)) : Hid (RowS3_123 T b deep w1 bad out v r O Q0 A0) := hd (by
 have HL := C.HL
 have HB0 := C.HB0
 have HQ1 := C.HQ1
 have HRI := C.HRI
 have HRN := C.HRN
 clear C
 unfold RowS3_123
 have hlit := hO.out
 unfold RowO at hlit
 simp only [Tryz.f61, findR, Option.getD, if_true, if_false, Nat.reduceEqDiff] at hlit
 injection hlit with hlit
 have HLIT := hd hlit
 clear hlit hO
 intro w2 d13 d14 d15 d24 d25 d26 d33 d34 X1 X2 X3 a HW2 HC2 HA HX3
 rw [← HLIT.out, hA.out]
 unfold RowA
 try simp only [qq]
 refine rd2 34 42 (fun K hK => ?_) (fun K hK => ?_)
 · go_simp
   refine numbers_r HL HB0 (hd ((HQ1.out.since HC2.out HB0.out))) HW2 [r.t] 1 ⟨rfl, by decide⟩ (by intro q hq; rw [List.mem_singleton] at hq; rw [hq]; exact HRI.out.2.2.2.1) HX3.out.1 HX3.out.2 (fun w3 h3 h4 => ?_)
   have HW3 := hd h3
   have HC3 : Hid (Chg [b] w1 w3) := hd (HC2.out.trans h4 (fun q hq => .inl hq))
   have H34 := hd h4
   refine hK.out _ _ HC3.out (fun hHeld => ?_)
   clear hK K h3 h4
   try simp only [qq]
   have gn : (Pr.nums [r.t]).length ≤ 22 := Pr.nums_len [r.t] (by intro q hq; rw [List.mem_singleton] at hq; rw [hq]; exact HRI.out.2.2.2.1)
   obtain ⟨nn, hnn⟩ : ∃ nn, nn = Pr.nums [r.t] := ⟨_, rfl⟩
   rw [← hnn] at gn
   rw [← hnn]
   have HNN := hd hnn
   clear hnn
   have gl := HA.out.2
   have g1 : ¬ 9223372036854775807 < a.length + nn.length := by omega
   refine tk 35 ?vn12335 ?hyn12335 ?rsn12335 (hQ := fun _ _ _ h => HPQ.out _ _ _ _ _ h)
   case hyn12335 => (intro w9 hSw; go_simp; try with_reducible rfl)
   try simp only [qq]
   rw [str2]
   have gz : (⟨(a ++ nn).toArray⟩ : ByteArray).size = a.length + nn.length := by rw [size_of9, List.length_append]
   have g2 : ¬ 9223372036854775807 < a.length + nn.length + 5 := by omega
   refine tk 36 ?vm12336 ?hym12336 ?rsm12336 (hQ := fun _ _ _ h => HPQ.out _ _ _ _ _ h)
   case hym12336 => (intro w9 hSw; go_simp; try with_reducible rfl)
   try simp only [qq]
   rw [show (⟨(a ++ nn).toArray⟩ : ByteArray) ++ ⟨#[32, 115, 116, 101, 112]⟩ = ⟨(a ++ nn ++ Pr.tStep).toArray⟩ from str2 _ _]
   have z := st4_123.out w3 d13 d14 d15 d24 d25 d26 d33 d34 (.string ⟨a.toArray⟩) (.string ⟨(nn).toArray⟩) (.string ⟨(a ++ nn).toArray⟩) X1 X2 X3 (a ++ nn ++ Pr.tStep) HW3 HC3 (hd ⟨by rw [HA.out.1, HNN.out], by rw [List.length_append, List.length_append]; show _ + 5 ≤ _; omega⟩)
   rw [← HLIT.out, hA.out] at z
   try simp only [qq]
   exact wpAnyH_act (by kernel_rfl) z
 · go_simp
   obtain ⟨w3, hw3⟩ : ∃ W, W = w2.alloc (.cells #[.int .i64 r.step] 3) := ⟨_, rfl⟩
   rw [← hw3]
   obtain ⟨Y, hY⟩ : ∃ X, X = w2.heap.size := ⟨_, rfl⟩
   rw [← hY]
   have HY : Hid (Blk w3 Y [.int .i64 r.step] 3 ∧ Y ≠ b) := hd ⟨by rw [hw3, hY]; exact Blk.new w2 [.int .i64 r.step] _, by have := HW2.out.lt; omega⟩
   have C3 : Hid (Chg [] w2 w3) := hd (by rw [hw3]; exact (Chg.refl _ _).alloc _)
   have HC3 : Hid (Chg [b] w1 w3) := hd (HC2.out.trans C3.out (by simp))
   have HW3 := hd (HW2.out.quiet C3.out)
   refine hK.out _ _ HC3.out (fun hHeld => ?_)
   clear hK K hw3 hY
   have z := st3_1234.out w3 d13 d14 d15 d24 d25 d26 d33 d34 X1 X2 X3 Y a HW3 HC3 HA (hd ⟨C3.out.blk HX3.out.1 (by simp), HX3.out.2⟩) HY
   rw [← HLIT.out, hA.out] at z
   try simp only [qq]
   exact wpAnyH_act (by kernel_rfl) z)
set_option maxHeartbeats 40000000 in
set_option maxRecDepth 100000 in
theorem rows3_124 (C : RowC w0 b w1 r) (hO : Hid (RowO O)) (HPQ : Hid (∀ c a d x w, Q0 (.panic c) (a.put d x) w → Q0 (.panic c) a w)) (hA : Hid (A0 = RowA b M r y)) (st3_1234 : Hid (RowS3_1234 T b deep w1 bad out v r O Q0 A0)) : Hid (RowS3_124 T b deep w1 bad out v r O Q0 A0) := hd (by
 have HL := C.HL
 have HB0 := C.HB0
 have HQ1 := C.HQ1
 have HRI := C.HRI
 have HRN := C.HRN
 clear C
 unfold RowS3_124
 have hlit := hO.out
 unfold RowO at hlit
 simp only [Tryz.f61, findR, Option.getD, if_true, if_false, Nat.reduceEqDiff] at hlit
 injection hlit with hlit
 have HLIT := hd hlit
 clear hlit hO
 intro w2 d13 d14 d15 d24 d25 d26 d33 d34 X1 X2 X4 a HW2 HC2 HA HX4
 rw [← HLIT.out, hA.out]
 unfold RowA
 try simp only [qq]
 refine rd1 33 (fun K hK => ?_)
 · go_simp
   obtain ⟨w3, hw3⟩ : ∃ W, W = w2.alloc (.cells #[.int .i64 r.t] 3) := ⟨_, rfl⟩
   rw [← hw3]
   obtain ⟨Y, hY⟩ : ∃ X, X = w2.heap.size := ⟨_, rfl⟩
   rw [← hY]
   have HY : Hid (Blk w3 Y [.int .i64 r.t] 3 ∧ Y ≠ b) := hd ⟨by rw [hw3, hY]; exact Blk.new w2 [.int .i64 r.t] _, by have := HW2.out.lt; omega⟩
   have C3 : Hid (Chg [] w2 w3) := hd (by rw [hw3]; exact (Chg.refl _ _).alloc _)
   have HC3 : Hid (Chg [b] w1 w3) := hd (HC2.out.trans C3.out (by simp))
   have HW3 := hd (HW2.out.quiet C3.out)
   refine hK.out _ _ HC3.out (fun hHeld => ?_)
   clear hK K hw3 hY
   have z := st3_1234.out w3 d13 d14 d15 d24 d25 d26 d33 d34 X1 X2 Y X4 a HW3 HC3 HA HY (hd ⟨C3.out.blk HX4.out.1 (by simp), HX4.out.2⟩)
   rw [← HLIT.out, hA.out] at z
   try simp only [qq]
   exact wpAnyH_act (by kernel_rfl) z)
set_option maxHeartbeats 40000000 in
set_option maxRecDepth 100000 in
theorem rows3_12 (C : RowC w0 b w1 r) (hO : Hid (RowO O)) (HPQ : Hid (∀ c a d x w, Q0 (.panic c) (a.put d x) w → Q0 (.panic c) a w)) (hA : Hid (A0 = RowA b M r y)) (st3_123 : Hid (RowS3_123 T b deep w1 bad out v r O Q0 A0)) (st3_124 : Hid (RowS3_124 T b deep w1 bad out v r O Q0 A0)) : Hid (RowS3_12 T b deep w1 bad out v r O Q0 A0) := hd (by
 have HL := C.HL
 have HB0 := C.HB0
 have HQ1 := C.HQ1
 have HRI := C.HRI
 have HRN := C.HRN
 clear C
 unfold RowS3_12
 have hlit := hO.out
 unfold RowO at hlit
 simp only [Tryz.f61, findR, Option.getD, if_true, if_false, Nat.reduceEqDiff] at hlit
 injection hlit with hlit
 have HLIT := hd hlit
 clear hlit hO
 intro w2 d13 d14 d15 d24 d25 d26 d33 d34 X1 X2 a HW2 HC2 HA
 rw [← HLIT.out, hA.out]
 unfold RowA
 try simp only [qq]
 refine rd2 33 42 (fun K hK => ?_) (fun K hK => ?_)
 · go_simp
   obtain ⟨w3, hw3⟩ : ∃ W, W = w2.alloc (.cells #[.int .i64 r.t] 3) := ⟨_, rfl⟩
   rw [← hw3]
   obtain ⟨Y, hY⟩ : ∃ X, X = w2.heap.size := ⟨_, rfl⟩
   rw [← hY]
   have HY : Hid (Blk w3 Y [.int .i64 r.t] 3 ∧ Y ≠ b) := hd ⟨by rw [hw3, hY]; exact Blk.new w2 [.int .i64 r.t] _, by have := HW2.out.lt; omega⟩
   have C3 : Hid (Chg [] w2 w3) := hd (by rw [hw3]; exact (Chg.refl _ _).alloc _)
   have HC3 : Hid (Chg [b] w1 w3) := hd (HC2.out.trans C3.out (by simp))
   have HW3 := hd (HW2.out.quiet C3.out)
   refine hK.out _ _ HC3.out (fun hHeld => ?_)
   clear hK K hw3 hY
   have z := st3_123.out w3 d13 d14 d15 d24 d25 d26 d33 d34 X1 X2 Y a HW3 HC3 HA HY
   rw [← HLIT.out, hA.out] at z
   try simp only [qq]
   exact wpAnyH_act (by kernel_rfl) z
 · go_simp
   obtain ⟨w3, hw3⟩ : ∃ W, W = w2.alloc (.cells #[.int .i64 r.step] 3) := ⟨_, rfl⟩
   rw [← hw3]
   obtain ⟨Y, hY⟩ : ∃ X, X = w2.heap.size := ⟨_, rfl⟩
   rw [← hY]
   have HY : Hid (Blk w3 Y [.int .i64 r.step] 3 ∧ Y ≠ b) := hd ⟨by rw [hw3, hY]; exact Blk.new w2 [.int .i64 r.step] _, by have := HW2.out.lt; omega⟩
   have C3 : Hid (Chg [] w2 w3) := hd (by rw [hw3]; exact (Chg.refl _ _).alloc _)
   have HC3 : Hid (Chg [b] w1 w3) := hd (HC2.out.trans C3.out (by simp))
   have HW3 := hd (HW2.out.quiet C3.out)
   refine hK.out _ _ HC3.out (fun hHeld => ?_)
   clear hK K hw3 hY
   have z := st3_124.out w3 d13 d14 d15 d24 d25 d26 d33 d34 X1 X2 Y a HW3 HC3 HA HY
   rw [← HLIT.out, hA.out] at z
   try simp only [qq]
   exact wpAnyH_act (by kernel_rfl) z)
set_option maxHeartbeats 40000000 in
set_option maxRecDepth 100000 in
theorem rows2_1234 (C : RowC w0 b w1 r) (hO : Hid (RowO O)) (HPQ : Hid (∀ c a d x w, Q0 (.panic c) (a.put d x) w → Q0 (.panic c) a w)) (hA : Hid (A0 = RowA b M r y)) (st3_1234 : Hid (RowS3_1234 T b deep w1 bad out v r O Q0 A0)) : Hid (RowS2_1234 T b deep w1 bad out v r O Q0 A0) := hd (by
 have HL := C.HL
 have HB0 := C.HB0
 have HQ1 := C.HQ1
 have HRI := C.HRI
 have HRN := C.HRN
 clear C
 unfold RowS2_1234
 have hlit := hO.out
 unfold RowO at hlit
 simp only [Tryz.f61, findR, Option.getD, if_true, if_false, Nat.reduceEqDiff] at hlit
 injection hlit with hlit
 have HLIT := hd hlit
 clear hlit hO
 intro w2 d13 d14 d15 d24 d25 X1 X2 X3 X4 a HW2 HC2 HA HX2 HX3 HX4
 rw [← HLIT.out, hA.out]
 unfold RowA
 try simp only [qq]
 refine rd1 25 (fun K hK => ?_)
 · go_simp
   refine numbers_r HL HB0 (hd ((HQ1.out.since HC2.out HB0.out))) HW2 [r.f] 1 ⟨rfl, by decide⟩ (by intro q hq; rw [List.mem_singleton] at hq; rw [hq]; exact HRI.out.2.2.1) HX2.out.1 HX2.out.2 (fun w3 h3 h4 => ?_)
   have HW3 := hd h3
   have HC3 : Hid (Chg [b] w1 w3) := hd (HC2.out.trans h4 (fun q hq => .inl hq))
   have H34 := hd h4
   refine hK.out _ _ HC3.out (fun hHeld => ?_)
   clear hK K h3 h4
   try simp only [qq]
   have gn : (Pr.nums [r.f]).length ≤ 22 := Pr.nums_len [r.f] (by intro q hq; rw [List.mem_singleton] at hq; rw [hq]; exact HRI.out.2.2.1)
   obtain ⟨nn, hnn⟩ : ∃ nn, nn = Pr.nums [r.f] := ⟨_, rfl⟩
   rw [← hnn] at gn
   rw [← hnn]
   have HNN := hd hnn
   clear hnn
   have gl := HA.out.2
   have g1 : ¬ 9223372036854775807 < a.length + nn.length := by omega
   refine tk 26 ?vn123426 ?hyn123426 ?rsn123426 (hQ := fun _ _ _ h => HPQ.out _ _ _ _ _ h)
   case hyn123426 => (intro w9 hSw; go_simp; try with_reducible rfl)
   try simp only [qq]
   rw [str2]
   have gz : (⟨(a ++ nn).toArray⟩ : ByteArray).size = a.length + nn.length := by rw [size_of9, List.length_append]
   have g2 : ¬ 9223372036854775807 < a.length + nn.length + 3 := by omega
   refine tk 27 ?vm123427 ?hym123427 ?rsm123427 (hQ := fun _ _ _ h => HPQ.out _ _ _ _ _ h)
   case hym123427 => (intro w9 hSw; go_simp; try with_reducible rfl)
   try simp only [qq]
   rw [show (⟨(a ++ nn).toArray⟩ : ByteArray) ++ ⟨#[32, 116, 111]⟩ = ⟨(a ++ nn ++ Pr.tTo).toArray⟩ from str2 _ _]
   have z := st3_1234.out w3 d13 d14 d15 d24 d25 (.string ⟨a.toArray⟩) (.string ⟨(nn).toArray⟩) (.string ⟨(a ++ nn).toArray⟩) X1 X2 X3 X4 (a ++ nn ++ Pr.tTo) HW3 HC3 (hd ⟨by rw [HA.out.1, HNN.out], by rw [List.length_append, List.length_append]; show _ + 3 ≤ _; omega⟩) (hd ⟨H34.out.blk HX3.out.1 (by simp [HX3.out.2]), HX3.out.2⟩) (hd ⟨H34.out.blk HX4.out.1 (by simp [HX4.out.2]), HX4.out.2⟩)
   rw [← HLIT.out, hA.out] at z
   try simp only [qq]
   exact wpAnyH_act (by kernel_rfl) z)
set_option maxHeartbeats 40000000 in
set_option maxRecDepth 100000 in
theorem rows2_123 (C : RowC w0 b w1 r) (hO : Hid (RowO O)) (HPQ : Hid (∀ c a d x w, Q0 (.panic c) (a.put d x) w → Q0 (.panic c) a w)) (hA : Hid (A0 = RowA b M r y)) (st3_123 : Hid (RowS3_123 T b deep w1 bad out v r O Q0 A0)) (st2_1234 : Hid (RowS2_1234 T b deep w1 bad out v r O Q0 A0)) : Hid (RowS2_123 T b deep w1 bad out v r O Q0 A0) := hd (by
 have HL := C.HL
 have HB0 := C.HB0
 have HQ1 := C.HQ1
 have HRI := C.HRI
 have HRN := C.HRN
 clear C
 unfold RowS2_123
 have hlit := hO.out
 unfold RowO at hlit
 simp only [Tryz.f61, findR, Option.getD, if_true, if_false, Nat.reduceEqDiff] at hlit
 injection hlit with hlit
 have HLIT := hd hlit
 clear hlit hO
 intro w2 d13 d14 d15 d24 d25 X1 X2 X3 a HW2 HC2 HA HX2 HX3
 rw [← HLIT.out, hA.out]
 unfold RowA
 try simp only [qq]
 refine rd2 25 42 (fun K hK => ?_) (fun K hK => ?_)
 · go_simp
   refine numbers_r HL HB0 (hd ((HQ1.out.since HC2.out HB0.out))) HW2 [r.f] 1 ⟨rfl, by decide⟩ (by intro q hq; rw [List.mem_singleton] at hq; rw [hq]; exact HRI.out.2.2.1) HX2.out.1 HX2.out.2 (fun w3 h3 h4 => ?_)
   have HW3 := hd h3
   have HC3 : Hid (Chg [b] w1 w3) := hd (HC2.out.trans h4 (fun q hq => .inl hq))
   have H34 := hd h4
   refine hK.out _ _ HC3.out (fun hHeld => ?_)
   clear hK K h3 h4
   try simp only [qq]
   have gn : (Pr.nums [r.f]).length ≤ 22 := Pr.nums_len [r.f] (by intro q hq; rw [List.mem_singleton] at hq; rw [hq]; exact HRI.out.2.2.1)
   obtain ⟨nn, hnn⟩ : ∃ nn, nn = Pr.nums [r.f] := ⟨_, rfl⟩
   rw [← hnn] at gn
   rw [← hnn]
   have HNN := hd hnn
   clear hnn
   have gl := HA.out.2
   have g1 : ¬ 9223372036854775807 < a.length + nn.length := by omega
   refine tk 26 ?vn12326 ?hyn12326 ?rsn12326 (hQ := fun _ _ _ h => HPQ.out _ _ _ _ _ h)
   case hyn12326 => (intro w9 hSw; go_simp; try with_reducible rfl)
   try simp only [qq]
   rw [str2]
   have gz : (⟨(a ++ nn).toArray⟩ : ByteArray).size = a.length + nn.length := by rw [size_of9, List.length_append]
   have g2 : ¬ 9223372036854775807 < a.length + nn.length + 3 := by omega
   refine tk 27 ?vm12327 ?hym12327 ?rsm12327 (hQ := fun _ _ _ h => HPQ.out _ _ _ _ _ h)
   case hym12327 => (intro w9 hSw; go_simp; try with_reducible rfl)
   try simp only [qq]
   rw [show (⟨(a ++ nn).toArray⟩ : ByteArray) ++ ⟨#[32, 116, 111]⟩ = ⟨(a ++ nn ++ Pr.tTo).toArray⟩ from str2 _ _]
   have z := st3_123.out w3 d13 d14 d15 d24 d25 (.string ⟨a.toArray⟩) (.string ⟨(nn).toArray⟩) (.string ⟨(a ++ nn).toArray⟩) X1 X2 X3 (a ++ nn ++ Pr.tTo) HW3 HC3 (hd ⟨by rw [HA.out.1, HNN.out], by rw [List.length_append, List.length_append]; show _ + 3 ≤ _; omega⟩) (hd ⟨H34.out.blk HX3.out.1 (by simp [HX3.out.2]), HX3.out.2⟩)
   rw [← HLIT.out, hA.out] at z
   try simp only [qq]
   exact wpAnyH_act (by kernel_rfl) z
 · go_simp
   obtain ⟨w3, hw3⟩ : ∃ W, W = w2.alloc (.cells #[.int .i64 r.step] 3) := ⟨_, rfl⟩
   rw [← hw3]
   obtain ⟨Y, hY⟩ : ∃ X, X = w2.heap.size := ⟨_, rfl⟩
   rw [← hY]
   have HY : Hid (Blk w3 Y [.int .i64 r.step] 3 ∧ Y ≠ b) := hd ⟨by rw [hw3, hY]; exact Blk.new w2 [.int .i64 r.step] _, by have := HW2.out.lt; omega⟩
   have C3 : Hid (Chg [] w2 w3) := hd (by rw [hw3]; exact (Chg.refl _ _).alloc _)
   have HC3 : Hid (Chg [b] w1 w3) := hd (HC2.out.trans C3.out (by simp))
   have HW3 := hd (HW2.out.quiet C3.out)
   refine hK.out _ _ HC3.out (fun hHeld => ?_)
   clear hK K hw3 hY
   have z := st2_1234.out w3 d13 d14 d15 d24 d25 X1 X2 X3 Y a HW3 HC3 HA (hd ⟨C3.out.blk HX2.out.1 (by simp), HX2.out.2⟩) (hd ⟨C3.out.blk HX3.out.1 (by simp), HX3.out.2⟩) HY
   rw [← HLIT.out, hA.out] at z
   try simp only [qq]
   exact wpAnyH_act (by kernel_rfl) z)
set_option maxHeartbeats 40000000 in
set_option maxRecDepth 100000 in
theorem rows2_124 (C : RowC w0 b w1 r) (hO : Hid (RowO O)) (HPQ : Hid (∀ c a d x w, Q0 (.panic c) (a.put d x) w → Q0 (.panic c) a w)) (hA : Hid (A0 = RowA b M r y)) (st3_124 : Hid (RowS3_124 T b deep w1 bad out v r O Q0 A0)) (st2_1234 : Hid (RowS2_1234 T b deep w1 bad out v r O Q0 A0)) : Hid (RowS2_124 T b deep w1 bad out v r O Q0 A0) := hd (by
 have HL := C.HL
 have HB0 := C.HB0
 have HQ1 := C.HQ1
 have HRI := C.HRI
 have HRN := C.HRN
 clear C
 unfold RowS2_124
 have hlit := hO.out
 unfold RowO at hlit
 simp only [Tryz.f61, findR, Option.getD, if_true, if_false, Nat.reduceEqDiff] at hlit
 injection hlit with hlit
 have HLIT := hd hlit
 clear hlit hO
 intro w2 d13 d14 d15 d24 d25 X1 X2 X4 a HW2 HC2 HA HX2 HX4
 rw [← HLIT.out, hA.out]
 unfold RowA
 try simp only [qq]
 refine rd2 25 33 (fun K hK => ?_) (fun K hK => ?_)
 · go_simp
   refine numbers_r HL HB0 (hd ((HQ1.out.since HC2.out HB0.out))) HW2 [r.f] 1 ⟨rfl, by decide⟩ (by intro q hq; rw [List.mem_singleton] at hq; rw [hq]; exact HRI.out.2.2.1) HX2.out.1 HX2.out.2 (fun w3 h3 h4 => ?_)
   have HW3 := hd h3
   have HC3 : Hid (Chg [b] w1 w3) := hd (HC2.out.trans h4 (fun q hq => .inl hq))
   have H34 := hd h4
   refine hK.out _ _ HC3.out (fun hHeld => ?_)
   clear hK K h3 h4
   try simp only [qq]
   have gn : (Pr.nums [r.f]).length ≤ 22 := Pr.nums_len [r.f] (by intro q hq; rw [List.mem_singleton] at hq; rw [hq]; exact HRI.out.2.2.1)
   obtain ⟨nn, hnn⟩ : ∃ nn, nn = Pr.nums [r.f] := ⟨_, rfl⟩
   rw [← hnn] at gn
   rw [← hnn]
   have HNN := hd hnn
   clear hnn
   have gl := HA.out.2
   have g1 : ¬ 9223372036854775807 < a.length + nn.length := by omega
   refine tk 26 ?vn12426 ?hyn12426 ?rsn12426 (hQ := fun _ _ _ h => HPQ.out _ _ _ _ _ h)
   case hyn12426 => (intro w9 hSw; go_simp; try with_reducible rfl)
   try simp only [qq]
   rw [str2]
   have gz : (⟨(a ++ nn).toArray⟩ : ByteArray).size = a.length + nn.length := by rw [size_of9, List.length_append]
   have g2 : ¬ 9223372036854775807 < a.length + nn.length + 3 := by omega
   refine tk 27 ?vm12427 ?hym12427 ?rsm12427 (hQ := fun _ _ _ h => HPQ.out _ _ _ _ _ h)
   case hym12427 => (intro w9 hSw; go_simp; try with_reducible rfl)
   try simp only [qq]
   rw [show (⟨(a ++ nn).toArray⟩ : ByteArray) ++ ⟨#[32, 116, 111]⟩ = ⟨(a ++ nn ++ Pr.tTo).toArray⟩ from str2 _ _]
   have z := st3_124.out w3 d13 d14 d15 d24 d25 (.string ⟨a.toArray⟩) (.string ⟨(nn).toArray⟩) (.string ⟨(a ++ nn).toArray⟩) X1 X2 X4 (a ++ nn ++ Pr.tTo) HW3 HC3 (hd ⟨by rw [HA.out.1, HNN.out], by rw [List.length_append, List.length_append]; show _ + 3 ≤ _; omega⟩) (hd ⟨H34.out.blk HX4.out.1 (by simp [HX4.out.2]), HX4.out.2⟩)
   rw [← HLIT.out, hA.out] at z
   try simp only [qq]
   exact wpAnyH_act (by kernel_rfl) z
 · go_simp
   obtain ⟨w3, hw3⟩ : ∃ W, W = w2.alloc (.cells #[.int .i64 r.t] 3) := ⟨_, rfl⟩
   rw [← hw3]
   obtain ⟨Y, hY⟩ : ∃ X, X = w2.heap.size := ⟨_, rfl⟩
   rw [← hY]
   have HY : Hid (Blk w3 Y [.int .i64 r.t] 3 ∧ Y ≠ b) := hd ⟨by rw [hw3, hY]; exact Blk.new w2 [.int .i64 r.t] _, by have := HW2.out.lt; omega⟩
   have C3 : Hid (Chg [] w2 w3) := hd (by rw [hw3]; exact (Chg.refl _ _).alloc _)
   have HC3 : Hid (Chg [b] w1 w3) := hd (HC2.out.trans C3.out (by simp))
   have HW3 := hd (HW2.out.quiet C3.out)
   refine hK.out _ _ HC3.out (fun hHeld => ?_)
   clear hK K hw3 hY
   have z := st2_1234.out w3 d13 d14 d15 d24 d25 X1 X2 Y X4 a HW3 HC3 HA (hd ⟨C3.out.blk HX2.out.1 (by simp), HX2.out.2⟩) HY (hd ⟨C3.out.blk HX4.out.1 (by simp), HX4.out.2⟩)
   rw [← HLIT.out, hA.out] at z
   try simp only [qq]
   exact wpAnyH_act (by kernel_rfl) z)
set_option maxHeartbeats 40000000 in
set_option maxRecDepth 100000 in
theorem rows2_134 (C : RowC w0 b w1 r) (hO : Hid (RowO O)) (HPQ : Hid (∀ c a d x w, Q0 (.panic c) (a.put d x) w → Q0 (.panic c) a w)) (hA : Hid (A0 = RowA b M r y)) (st2_1234 : Hid (RowS2_1234 T b deep w1 bad out v r O Q0 A0)) : Hid (RowS2_134 T b deep w1 bad out v r O Q0 A0) := hd (by
 have HL := C.HL
 have HB0 := C.HB0
 have HQ1 := C.HQ1
 have HRI := C.HRI
 have HRN := C.HRN
 clear C
 unfold RowS2_134
 have hlit := hO.out
 unfold RowO at hlit
 simp only [Tryz.f61, findR, Option.getD, if_true, if_false, Nat.reduceEqDiff] at hlit
 injection hlit with hlit
 have HLIT := hd hlit
 clear hlit hO
 intro w2 d13 d14 d15 d24 d25 X1 X3 X4 a HW2 HC2 HA HX3 HX4
 rw [← HLIT.out, hA.out]
 unfold RowA
 try simp only [qq]
 refine rd1 24 (fun K hK => ?_)
 · go_simp
   obtain ⟨w3, hw3⟩ : ∃ W, W = w2.alloc (.cells #[.int .i64 r.f] 3) := ⟨_, rfl⟩
   rw [← hw3]
   obtain ⟨Y, hY⟩ : ∃ X, X = w2.heap.size := ⟨_, rfl⟩
   rw [← hY]
   have HY : Hid (Blk w3 Y [.int .i64 r.f] 3 ∧ Y ≠ b) := hd ⟨by rw [hw3, hY]; exact Blk.new w2 [.int .i64 r.f] _, by have := HW2.out.lt; omega⟩
   have C3 : Hid (Chg [] w2 w3) := hd (by rw [hw3]; exact (Chg.refl _ _).alloc _)
   have HC3 : Hid (Chg [b] w1 w3) := hd (HC2.out.trans C3.out (by simp))
   have HW3 := hd (HW2.out.quiet C3.out)
   refine hK.out _ _ HC3.out (fun hHeld => ?_)
   clear hK K hw3 hY
   have z := st2_1234.out w3 d13 d14 d15 d24 d25 X1 Y X3 X4 a HW3 HC3 HA HY (hd ⟨C3.out.blk HX3.out.1 (by simp), HX3.out.2⟩) (hd ⟨C3.out.blk HX4.out.1 (by simp), HX4.out.2⟩)
   rw [← HLIT.out, hA.out] at z
   try simp only [qq]
   exact wpAnyH_act (by kernel_rfl) z)
set_option maxHeartbeats 40000000 in
set_option maxRecDepth 100000 in
theorem rows2_12 (C : RowC w0 b w1 r) (hO : Hid (RowO O)) (HPQ : Hid (∀ c a d x w, Q0 (.panic c) (a.put d x) w → Q0 (.panic c) a w)) (hA : Hid (A0 = RowA b M r y)) (st3_12 : Hid (RowS3_12 T b deep w1 bad out v r O Q0 A0)) (st2_123 : Hid (RowS2_123 T b deep w1 bad out v r O Q0 A0)) (st2_124 : Hid (RowS2_124 T b deep w1 bad out v r O Q0 A0)) : Hid (RowS2_12 T b deep w1 bad out v r O Q0 A0) := hd (by
 have HL := C.HL
 have HB0 := C.HB0
 have HQ1 := C.HQ1
 have HRI := C.HRI
 have HRN := C.HRN
 clear C
 unfold RowS2_12
 have hlit := hO.out
 unfold RowO at hlit
 simp only [Tryz.f61, findR, Option.getD, if_true, if_false, Nat.reduceEqDiff] at hlit
 injection hlit with hlit
 have HLIT := hd hlit
 clear hlit hO
 intro w2 d13 d14 d15 d24 d25 X1 X2 a HW2 HC2 HA HX2
 rw [← HLIT.out, hA.out]
 unfold RowA
 try simp only [qq]
 refine rd3 25 33 42 (fun K hK => ?_) (fun K hK => ?_) (fun K hK => ?_)
 · go_simp
   refine numbers_r HL HB0 (hd ((HQ1.out.since HC2.out HB0.out))) HW2 [r.f] 1 ⟨rfl, by decide⟩ (by intro q hq; rw [List.mem_singleton] at hq; rw [hq]; exact HRI.out.2.2.1) HX2.out.1 HX2.out.2 (fun w3 h3 h4 => ?_)
   have HW3 := hd h3
   have HC3 : Hid (Chg [b] w1 w3) := hd (HC2.out.trans h4 (fun q hq => .inl hq))
   have H34 := hd h4
   refine hK.out _ _ HC3.out (fun hHeld => ?_)
   clear hK K h3 h4
   try simp only [qq]
   have gn : (Pr.nums [r.f]).length ≤ 22 := Pr.nums_len [r.f] (by intro q hq; rw [List.mem_singleton] at hq; rw [hq]; exact HRI.out.2.2.1)
   obtain ⟨nn, hnn⟩ : ∃ nn, nn = Pr.nums [r.f] := ⟨_, rfl⟩
   rw [← hnn] at gn
   rw [← hnn]
   have HNN := hd hnn
   clear hnn
   have gl := HA.out.2
   have g1 : ¬ 9223372036854775807 < a.length + nn.length := by omega
   refine tk 26 ?vn1226 ?hyn1226 ?rsn1226 (hQ := fun _ _ _ h => HPQ.out _ _ _ _ _ h)
   case hyn1226 => (intro w9 hSw; go_simp; try with_reducible rfl)
   try simp only [qq]
   rw [str2]
   have gz : (⟨(a ++ nn).toArray⟩ : ByteArray).size = a.length + nn.length := by rw [size_of9, List.length_append]
   have g2 : ¬ 9223372036854775807 < a.length + nn.length + 3 := by omega
   refine tk 27 ?vm1227 ?hym1227 ?rsm1227 (hQ := fun _ _ _ h => HPQ.out _ _ _ _ _ h)
   case hym1227 => (intro w9 hSw; go_simp; try with_reducible rfl)
   try simp only [qq]
   rw [show (⟨(a ++ nn).toArray⟩ : ByteArray) ++ ⟨#[32, 116, 111]⟩ = ⟨(a ++ nn ++ Pr.tTo).toArray⟩ from str2 _ _]
   have z := st3_12.out w3 d13 d14 d15 d24 d25 (.string ⟨a.toArray⟩) (.string ⟨(nn).toArray⟩) (.string ⟨(a ++ nn).toArray⟩) X1 X2 (a ++ nn ++ Pr.tTo) HW3 HC3 (hd ⟨by rw [HA.out.1, HNN.out], by rw [List.length_append, List.length_append]; show _ + 3 ≤ _; omega⟩)
   rw [← HLIT.out, hA.out] at z
   try simp only [qq]
   exact wpAnyH_act (by kernel_rfl) z
 · go_simp
   obtain ⟨w3, hw3⟩ : ∃ W, W = w2.alloc (.cells #[.int .i64 r.t] 3) := ⟨_, rfl⟩
   rw [← hw3]
   obtain ⟨Y, hY⟩ : ∃ X, X = w2.heap.size := ⟨_, rfl⟩
   rw [← hY]
   have HY : Hid (Blk w3 Y [.int .i64 r.t] 3 ∧ Y ≠ b) := hd ⟨by rw [hw3, hY]; exact Blk.new w2 [.int .i64 r.t] _, by have := HW2.out.lt; omega⟩
   have C3 : Hid (Chg [] w2 w3) := hd (by rw [hw3]; exact (Chg.refl _ _).alloc _)
   have HC3 : Hid (Chg [b] w1 w3) := hd (HC2.out.trans C3.out (by simp))
   have HW3 := hd (HW2.out.quiet C3.out)
   refine hK.out _ _ HC3.out (fun hHeld => ?_)
   clear hK K hw3 hY
   have z := st2_123.out w3 d13 d14 d15 d24 d25 X1 X2 Y a HW3 HC3 HA (hd ⟨C3.out.blk HX2.out.1 (by simp), HX2.out.2⟩) HY
   rw [← HLIT.out, hA.out] at z
   try simp only [qq]
   exact wpAnyH_act (by kernel_rfl) z
 · go_simp
   obtain ⟨w3, hw3⟩ : ∃ W, W = w2.alloc (.cells #[.int .i64 r.step] 3) := ⟨_, rfl⟩
   rw [← hw3]
   obtain ⟨Y, hY⟩ : ∃ X, X = w2.heap.size := ⟨_, rfl⟩
   rw [← hY]
   have HY : Hid (Blk w3 Y [.int .i64 r.step] 3 ∧ Y ≠ b) := hd ⟨by rw [hw3, hY]; exact Blk.new w2 [.int .i64 r.step] _, by have := HW2.out.lt; omega⟩
   have C3 : Hid (Chg [] w2 w3) := hd (by rw [hw3]; exact (Chg.refl _ _).alloc _)
   have HC3 : Hid (Chg [b] w1 w3) := hd (HC2.out.trans C3.out (by simp))
   have HW3 := hd (HW2.out.quiet C3.out)
   refine hK.out _ _ HC3.out (fun hHeld => ?_)
   clear hK K hw3 hY
   have z := st2_124.out w3 d13 d14 d15 d24 d25 X1 X2 Y a HW3 HC3 HA (hd ⟨C3.out.blk HX2.out.1 (by simp), HX2.out.2⟩) HY
   rw [← HLIT.out, hA.out] at z
   try simp only [qq]
   exact wpAnyH_act (by kernel_rfl) z)
set_option maxHeartbeats 40000000 in
set_option maxRecDepth 100000 in
theorem rows2_13 (C : RowC w0 b w1 r) (hO : Hid (RowO O)) (HPQ : Hid (∀ c a d x w, Q0 (.panic c) (a.put d x) w → Q0 (.panic c) a w)) (hA : Hid (A0 = RowA b M r y)) (st2_123 : Hid (RowS2_123 T b deep w1 bad out v r O Q0 A0)) (st2_134 : Hid (RowS2_134 T b deep w1 bad out v r O Q0 A0)) : Hid (RowS2_13 T b deep w1 bad out v r O Q0 A0) := hd (by
 have HL := C.HL
 have HB0 := C.HB0
 have HQ1 := C.HQ1
 have HRI := C.HRI
 have HRN := C.HRN
 clear C
 unfold RowS2_13
 have hlit := hO.out
 unfold RowO at hlit
 simp only [Tryz.f61, findR, Option.getD, if_true, if_false, Nat.reduceEqDiff] at hlit
 injection hlit with hlit
 have HLIT := hd hlit
 clear hlit hO
 intro w2 d13 d14 d15 d24 d25 X1 X3 a HW2 HC2 HA HX3
 rw [← HLIT.out, hA.out]
 unfold RowA
 try simp only [qq]
 refine rd2 24 42 (fun K hK => ?_) (fun K hK => ?_)
 · go_simp
   obtain ⟨w3, hw3⟩ : ∃ W, W = w2.alloc (.cells #[.int .i64 r.f] 3) := ⟨_, rfl⟩
   rw [← hw3]
   obtain ⟨Y, hY⟩ : ∃ X, X = w2.heap.size := ⟨_, rfl⟩
   rw [← hY]
   have HY : Hid (Blk w3 Y [.int .i64 r.f] 3 ∧ Y ≠ b) := hd ⟨by rw [hw3, hY]; exact Blk.new w2 [.int .i64 r.f] _, by have := HW2.out.lt; omega⟩
   have C3 : Hid (Chg [] w2 w3) := hd (by rw [hw3]; exact (Chg.refl _ _).alloc _)
   have HC3 : Hid (Chg [b] w1 w3) := hd (HC2.out.trans C3.out (by simp))
   have HW3 := hd (HW2.out.quiet C3.out)
   refine hK.out _ _ HC3.out (fun hHeld => ?_)
   clear hK K hw3 hY
   have z := st2_123.out w3 d13 d14 d15 d24 d25 X1 Y X3 a HW3 HC3 HA HY (hd ⟨C3.out.blk HX3.out.1 (by simp), HX3.out.2⟩)
   rw [← HLIT.out, hA.out] at z
   try simp only [qq]
   exact wpAnyH_act (by kernel_rfl) z
 · go_simp
   obtain ⟨w3, hw3⟩ : ∃ W, W = w2.alloc (.cells #[.int .i64 r.step] 3) := ⟨_, rfl⟩
   rw [← hw3]
   obtain ⟨Y, hY⟩ : ∃ X, X = w2.heap.size := ⟨_, rfl⟩
   rw [← hY]
   have HY : Hid (Blk w3 Y [.int .i64 r.step] 3 ∧ Y ≠ b) := hd ⟨by rw [hw3, hY]; exact Blk.new w2 [.int .i64 r.step] _, by have := HW2.out.lt; omega⟩
   have C3 : Hid (Chg [] w2 w3) := hd (by rw [hw3]; exact (Chg.refl _ _).alloc _)
   have HC3 : Hid (Chg [b] w1 w3) := hd (HC2.out.trans C3.out (by simp))
   have HW3 := hd (HW2.out.quiet C3.out)
   refine hK.out _ _ HC3.out (fun hHeld => ?_)
   clear hK K hw3 hY
   have z := st2_134.out w3 d13 d14 d15 d24 d25 X1 X3 Y a HW3 HC3 HA (hd ⟨C3.out.blk HX3.out.1 (by simp), HX3.out.2⟩) HY
   rw [← HLIT.out, hA.out] at z
   try simp only [qq]
   exact wpAnyH_act (by kernel_rfl) z)
set_option maxHeartbeats 40000000 in
set_option maxRecDepth 100000 in
theorem rows2_14 (C : RowC w0 b w1 r) (hO : Hid (RowO O)) (HPQ : Hid (∀ c a d x w, Q0 (.panic c) (a.put d x) w → Q0 (.panic c) a w)) (hA : Hid (A0 = RowA b M r y)) (st2_124 : Hid (RowS2_124 T b deep w1 bad out v r O Q0 A0)) (st2_134 : Hid (RowS2_134 T b deep w1 bad out v r O Q0 A0)) : Hid (RowS2_14 T b deep w1 bad out v r O Q0 A0) := hd (by
 have HL := C.HL
 have HB0 := C.HB0
 have HQ1 := C.HQ1
 have HRI := C.HRI
 have HRN := C.HRN
 clear C
 unfold RowS2_14
 have hlit := hO.out
 unfold RowO at hlit
 simp only [Tryz.f61, findR, Option.getD, if_true, if_false, Nat.reduceEqDiff] at hlit
 injection hlit with hlit
 have HLIT := hd hlit
 clear hlit hO
 intro w2 d13 d14 d15 d24 d25 X1 X4 a HW2 HC2 HA HX4
 rw [← HLIT.out, hA.out]
 unfold RowA
 try simp only [qq]
 refine rd2 24 33 (fun K hK => ?_) (fun K hK => ?_)
 · go_simp
   obtain ⟨w3, hw3⟩ : ∃ W, W = w2.alloc (.cells #[.int .i64 r.f] 3) := ⟨_, rfl⟩
   rw [← hw3]
   obtain ⟨Y, hY⟩ : ∃ X, X = w2.heap.size := ⟨_, rfl⟩
   rw [← hY]
   have HY : Hid (Blk w3 Y [.int .i64 r.f] 3 ∧ Y ≠ b) := hd ⟨by rw [hw3, hY]; exact Blk.new w2 [.int .i64 r.f] _, by have := HW2.out.lt; omega⟩
   have C3 : Hid (Chg [] w2 w3) := hd (by rw [hw3]; exact (Chg.refl _ _).alloc _)
   have HC3 : Hid (Chg [b] w1 w3) := hd (HC2.out.trans C3.out (by simp))
   have HW3 := hd (HW2.out.quiet C3.out)
   refine hK.out _ _ HC3.out (fun hHeld => ?_)
   clear hK K hw3 hY
   have z := st2_124.out w3 d13 d14 d15 d24 d25 X1 Y X4 a HW3 HC3 HA HY (hd ⟨C3.out.blk HX4.out.1 (by simp), HX4.out.2⟩)
   rw [← HLIT.out, hA.out] at z
   try simp only [qq]
   exact wpAnyH_act (by kernel_rfl) z
 · go_simp
   obtain ⟨w3, hw3⟩ : ∃ W, W = w2.alloc (.cells #[.int .i64 r.t] 3) := ⟨_, rfl⟩
   rw [← hw3]
   obtain ⟨Y, hY⟩ : ∃ X, X = w2.heap.size := ⟨_, rfl⟩
   rw [← hY]
   have HY : Hid (Blk w3 Y [.int .i64 r.t] 3 ∧ Y ≠ b) := hd ⟨by rw [hw3, hY]; exact Blk.new w2 [.int .i64 r.t] _, by have := HW2.out.lt; omega⟩
   have C3 : Hid (Chg [] w2 w3) := hd (by rw [hw3]; exact (Chg.refl _ _).alloc _)
   have HC3 : Hid (Chg [b] w1 w3) := hd (HC2.out.trans C3.out (by simp))
   have HW3 := hd (HW2.out.quiet C3.out)
   refine hK.out _ _ HC3.out (fun hHeld => ?_)
   clear hK K hw3 hY
   have z := st2_134.out w3 d13 d14 d15 d24 d25 X1 Y X4 a HW3 HC3 HA HY (hd ⟨C3.out.blk HX4.out.1 (by simp), HX4.out.2⟩)
   rw [← HLIT.out, hA.out] at z
   try simp only [qq]
   exact wpAnyH_act (by kernel_rfl) z)
set_option maxHeartbeats 40000000 in
set_option maxRecDepth 100000 in
theorem rows2_1 (C : RowC w0 b w1 r) (hO : Hid (RowO O)) (HPQ : Hid (∀ c a d x w, Q0 (.panic c) (a.put d x) w → Q0 (.panic c) a w)) (hA : Hid (A0 = RowA b M r y)) (st2_12 : Hid (RowS2_12 T b deep w1 bad out v r O Q0 A0)) (st2_13 : Hid (RowS2_13 T b deep w1 bad out v r O Q0 A0)) (st2_14 : Hid (RowS2_14 T b deep w1 bad out v r O Q0 A0)) : Hid (RowS2_1 T b deep w1 bad out v r O Q0 A0) := hd (by
 have HL := C.HL
 have HB0 := C.HB0
 have HQ1 := C.HQ1
 have HRI := C.HRI
 have HRN := C.HRN
 clear C
 unfold RowS2_1
 have hlit := hO.out
 unfold RowO at hlit
 simp only [Tryz.f61, findR, Option.getD, if_true, if_false, Nat.reduceEqDiff] at hlit
 injection hlit with hlit
 have HLIT := hd hlit
 clear hlit hO
 intro w2 d13 d14 d15 d24 d25 X1 a HW2 HC2 HA
 rw [← HLIT.out, hA.out]
 unfold RowA
 try simp only [qq]
 refine rd3 24 33 42 (fun K hK => ?_) (fun K hK => ?_) (fun K hK => ?_)
 · go_simp
   obtain ⟨w3, hw3⟩ : ∃ W, W = w2.alloc (.cells #[.int .i64 r.f] 3) := ⟨_, rfl⟩
   rw [← hw3]
   obtain ⟨Y, hY⟩ : ∃ X, X = w2.heap.size := ⟨_, rfl⟩
   rw [← hY]
   have HY : Hid (Blk w3 Y [.int .i64 r.f] 3 ∧ Y ≠ b) := hd ⟨by rw [hw3, hY]; exact Blk.new w2 [.int .i64 r.f] _, by have := HW2.out.lt; omega⟩
   have C3 : Hid (Chg [] w2 w3) := hd (by rw [hw3]; exact (Chg.refl _ _).alloc _)
   have HC3 : Hid (Chg [b] w1 w3) := hd (HC2.out.trans C3.out (by simp))
   have HW3 := hd (HW2.out.quiet C3.out)
   refine hK.out _ _ HC3.out (fun hHeld => ?_)
   clear hK K hw3 hY
   have z := st2_12.out w3 d13 d14 d15 d24 d25 X1 Y a HW3 HC3 HA HY
   rw [← HLIT.out, hA.out] at z
   try simp only [qq]
   exact wpAnyH_act (by kernel_rfl) z
 · go_simp
   obtain ⟨w3, hw3⟩ : ∃ W, W = w2.alloc (.cells #[.int .i64 r.t] 3) := ⟨_, rfl⟩
   rw [← hw3]
   obtain ⟨Y, hY⟩ : ∃ X, X = w2.heap.size := ⟨_, rfl⟩
   rw [← hY]
   have HY : Hid (Blk w3 Y [.int .i64 r.t] 3 ∧ Y ≠ b) := hd ⟨by rw [hw3, hY]; exact Blk.new w2 [.int .i64 r.t] _, by have := HW2.out.lt; omega⟩
   have C3 : Hid (Chg [] w2 w3) := hd (by rw [hw3]; exact (Chg.refl _ _).alloc _)
   have HC3 : Hid (Chg [b] w1 w3) := hd (HC2.out.trans C3.out (by simp))
   have HW3 := hd (HW2.out.quiet C3.out)
   refine hK.out _ _ HC3.out (fun hHeld => ?_)
   clear hK K hw3 hY
   have z := st2_13.out w3 d13 d14 d15 d24 d25 X1 Y a HW3 HC3 HA HY
   rw [← HLIT.out, hA.out] at z
   try simp only [qq]
   exact wpAnyH_act (by kernel_rfl) z
 · go_simp
   obtain ⟨w3, hw3⟩ : ∃ W, W = w2.alloc (.cells #[.int .i64 r.step] 3) := ⟨_, rfl⟩
   rw [← hw3]
   obtain ⟨Y, hY⟩ : ∃ X, X = w2.heap.size := ⟨_, rfl⟩
   rw [← hY]
   have HY : Hid (Blk w3 Y [.int .i64 r.step] 3 ∧ Y ≠ b) := hd ⟨by rw [hw3, hY]; exact Blk.new w2 [.int .i64 r.step] _, by have := HW2.out.lt; omega⟩
   have C3 : Hid (Chg [] w2 w3) := hd (by rw [hw3]; exact (Chg.refl _ _).alloc _)
   have HC3 : Hid (Chg [b] w1 w3) := hd (HC2.out.trans C3.out (by simp))
   have HW3 := hd (HW2.out.quiet C3.out)
   refine hK.out _ _ HC3.out (fun hHeld => ?_)
   clear hK K hw3 hY
   have z := st2_14.out w3 d13 d14 d15 d24 d25 X1 Y a HW3 HC3 HA HY
   rw [← HLIT.out, hA.out] at z
   try simp only [qq]
   exact wpAnyH_act (by kernel_rfl) z)
end Go.Proofs.YtgbooiaedbpenaaGreatDoor
