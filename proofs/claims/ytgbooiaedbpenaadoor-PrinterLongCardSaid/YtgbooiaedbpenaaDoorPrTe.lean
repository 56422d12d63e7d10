/-
 Printer, the reference: the head of a line, its first region.
-/
import Derived.Test.YtgbooiaedbpenaaDoorPrTk
import Derived.Test.YtgbooiaedbpenaaDoorPrTd
namespace Go.Proofs.YtgbooiaedbpenaaDoor
set_option linter.unusedVariables false
set_option linter.unusedSimpArgs false
open Go Go.RowKit Go.Shelf
attribute [local irreducible] Go.wpStill
/-- The operations of line's first region. -/
def LinO (O : Array Oper) : Prop := findR (Tryd.f49.body.getD .skip) 1 = some O
/-- What the line's head is made of. -/
structure LinC (r : Pr.Rw) (s0 a1 c2 a2 c3 a3 c4 a4 : Bytes) : Prop where
 l0 : s0.length ≤ 1100
 e1 : a1 = s0 ++ Pr.nums [r.x, r.y]
 l1 : a1.length ≤ 1200
 e2 : c2 = Pr.tSeats ++ Pr.nums [r.f]
 m2 : c2.length ≤ 100
 f2 : a2 = a1 ++ c2
 l2 : a2.length ≤ 1300
 e3 : c3 = Pr.tTo ++ Pr.nums [r.t]
 m3 : c3.length ≤ 100
 f3 : a3 = a2 ++ c3
 l3 : a3.length ≤ 1400
 e4 : c4 = Pr.tStep ++ Pr.nums [r.step]
 m4 : c4.length ≤ 100
 f4 : a4 = a3 ++ c4
 l4 : a4.length ≤ 1500
 k1 : Hid (Pr.numsOk [r.x, r.y] = true)
 k2 : Hid (Pr.numsOk [r.f] = true)
 k3 : Hid (Pr.numsOk [r.t] = true)
 k4 : Hid (Pr.numsOk [r.step] = true)
def LinA (M : Nat) (r : Pr.Rw) (s0 : Bytes) (y : Nat → Value) : Act := { tmps := #[y 0, .pointer (some ⟨M, 0, none⟩), y 2, y 3, y 4, y 5, .pointer (some ⟨M, 0, none⟩), .string ⟨r.name.toArray⟩, .string ⟨(Pr.tRow ++ r.name).toArray⟩, .string ⟨s0.toArray⟩, .pointer (some ⟨M, 1, none⟩), .int .i64 r.x, .pointer (some ⟨M, 2, none⟩), .int .i64 r.y, y 14, y 15, .pointer (some ⟨M, 3, none⟩), .int .i64 r.f, y 18, y 19, y 20, .pointer (some ⟨M, 4, none⟩), .int .i64 r.t, y 23, y 24, y 25, .pointer (some ⟨M, 5, none⟩), .int .i64 r.step, y 28, y 29, y 30, y 31, y 32, y 33, y 34, y 35, y 36, y 37, y 38, y 39, y 40, y 41, y 42, y 43, y 44, y 45, y 46, y 47, y 48, y 49, y 50, y 51, y 52, y 53, y 54, y 55, y 56, y 57, y 58, y 59, y 60, y 61, y 62, y 63, y 64, y 65, y 66, y 67, y 68, y 69, y 70, y 71, y 72, y 73, y 74, y 75, y 76, y 77, y 78, y 79, y 80, y 81], defers := [] }
theorem LinA_of {M : Nat} {r : Pr.Rw} {s0 : Bytes} {y0 y2 y3 y4 y5 y14 y15 y18 y19 y20 y23 y24 y25 y28 y29 y30 y31 y32 y33 y34 y35 y36 y37 y38 y39 y40 y41 y42 y43 y44 y45 y46 y47 y48 y49 y50 y51 y52 y53 y54 y55 y56 y57 y58 y59 y60 y61 y62 y63 y64 y65 y66 y67 y68 y69 y70 y71 y72 y73 y74 y75 y76 y77 y78 y79 y80 y81 : Value} {A0 : Act} (h : Hid (A0 = { tmps := #[y0, .pointer (some ⟨M, 0, none⟩), y2, y3, y4, y5, .pointer (some ⟨M, 0, none⟩), .string ⟨r.name.toArray⟩, .string ⟨(Pr.tRow ++ r.name).toArray⟩, .string ⟨s0.toArray⟩, .pointer (some ⟨M, 1, none⟩), .int .i64 r.x, .pointer (some ⟨M, 2, none⟩), .int .i64 r.y, y14, y15, .pointer (some ⟨M, 3, none⟩), .int .i64 r.f, y18, y19, y20, .pointer (some ⟨M, 4, none⟩), .int .i64 r.t, y23, y24, y25, .pointer (some ⟨M, 5, none⟩), .int .i64 r.step, y28, y29, y30, y31, y32, y33, y34, y35, y36, y37, y38, y39, y40, y41, y42, y43, y44, y45, y46, y47, y48, y49, y50, y51, y52, y53, y54, y55, y56, y57, y58, y59, y60, y61, y62, y63, y64, y65, y66, y67, y68, y69, y70, y71, y72, y73, y74, y75, y76, y77, y78, y79, y80, y81], defers := [] })) : ∃ y : Nat → Value, Hid (A0 = LinA M r s0 y) :=
  ⟨fun n => match n with
  | 0 => y0
  | 2 => y2
  | 3 => y3
  | 4 => y4
  | 5 => y5
  | 14 => y14
  | 15 => y15
  | 18 => y18
  | 19 => y19
  | 20 => y20
  | 23 => y23
  | 24 => y24
  | 25 => y25
  | 28 => y28
  | 29 => y29
  | 30 => y30
  | 31 => y31
  | 32 => y32
  | 33 => y33
  | 34 => y34
  | 35 => y35
  | 36 => y36
  | 37 => y37
  | 38 => y38
  | 39 => y39
  | 40 => y40
  | 41 => y41
  | 42 => y42
  | 43 => y43
  | 44 => y44
  | 45 => y45
  | 46 => y46
  | 47 => y47
  | 48 => y48
  | 49 => y49
  | 50 => y50
  | 51 => y51
  | 52 => y52
  | 53 => y53
  | 54 => y54
  | 55 => y55
  | 56 => y56
  | 57 => y57
  | 58 => y58
  | 59 => y59
  | 60 => y60
  | 61 => y61
  | 62 => y62
  | 63 => y63
  | 64 => y64
  | 65 => y65
  | 66 => y66
  | 67 => y67
  | 68 => y68
  | 69 => y69
  | 70 => y70
  | 71 => y71
  | 72 => y72
  | 73 => y73
  | 74 => y74
  | 75 => y75
  | 76 => y76
  | 77 => y77
  | 78 => y78
  | 79 => y79
  | 80 => y80
  | 81 => y81
  | _ => undef, h⟩
def LinS4_0123 (w1 : World) (r : Pr.Rw) (O : Array Oper) (Q0 : Exit → Act → World → Prop) (A0 : Act) (s0 a1 c2 a2 c3 a3 c4 a4 : Bytes) : Prop := ∀ (w2 : World) (X0 X1 X2 X3 : Nat), Hid (Chg [] w1 w2) → wpAnyH Tryd.prog .any O Q0 (fun W' => Chg [] w1 W') 1 #[true, true, true, true, true, true, true, true, true, true, true, true, true, true, true, true, true, true, true, true, true, true, true, true, true, false] (((((((((((A0.put (some 15) (.string ⟨a1.toArray⟩)).put (some 19) (.string ⟨c2.toArray⟩)).put (some 20) (.string ⟨a2.toArray⟩)).put (some 24) (.string ⟨c3.toArray⟩)).put (some 25) (.string ⟨a3.toArray⟩)).put (some 29) (.string ⟨c4.toArray⟩)).put (some 30) (.string ⟨a4.toArray⟩)).put (some 14) (.slice (some ⟨X0, 0, none⟩) 2 2)).put (some 18) (.slice (some ⟨X1, 0, none⟩) 1 1)).put (some 23) (.slice (some ⟨X2, 0, none⟩) 1 1)).put (some 28) (.slice (some ⟨X3, 0, none⟩) 1 1)) w2
def LinS3_0123 (w1 : World) (r : Pr.Rw) (O : Array Oper) (Q0 : Exit → Act → World → Prop) (A0 : Act) (s0 a1 c2 a2 c3 a3 c4 a4 : Bytes) : Prop := ∀ (w2 : World) (X0 X1 X2 X3 : Nat), Hid (Chg [] w1 w2) → Hid (Blk w2 X3 [.int .i64 r.step] 3) → wpAnyH Tryd.prog .any O Q0 (fun W' => Chg [] w1 W') 3 #[true, true, true, true, true, true, true, true, true, true, true, true, true, true, true, true, true, true, true, true, true, true, true, false, false, false] (((((((((A0.put (some 15) (.string ⟨a1.toArray⟩)).put (some 19) (.string ⟨c2.toArray⟩)).put (some 20) (.string ⟨a2.toArray⟩)).put (some 24) (.string ⟨c3.toArray⟩)).put (some 25) (.string ⟨a3.toArray⟩)).put (some 14) (.slice (some ⟨X0, 0, none⟩) 2 2)).put (some 18) (.slice (some ⟨X1, 0, none⟩) 1 1)).put (some 23) (.slice (some ⟨X2, 0, none⟩) 1 1)).put (some 28) (.slice (some ⟨X3, 0, none⟩) 1 1)) w2
def LinS3_012 (w1 : World) (r : Pr.Rw) (O : Array Oper) (Q0 : Exit → Act → World → Prop) (A0 : Act) (s0 a1 c2 a2 c3 a3 c4 a4 : Bytes) : Prop := ∀ (w2 : World) (X0 X1 X2 : Nat), Hid (Chg [] w1 w2) → wpAnyH Tryd.prog .any O Q0 (fun W' => Chg [] w1 W') 4 #[true, true, true, true, true, true, true, true, true, true, true, true, true, true, true, true, true, true, true, true, true, true, false, false, false, false] ((((((((A0.put (some 15) (.string ⟨a1.toArray⟩)).put (some 19) (.string ⟨c2.toArray⟩)).put (some 20) (.string ⟨a2.toArray⟩)).put (some 24) (.string ⟨c3.toArray⟩)).put (some 25) (.string ⟨a3.toArray⟩)).put (some 14) (.slice (some ⟨X0, 0, none⟩) 2 2)).put (some 18) (.slice (some ⟨X1, 0, none⟩) 1 1)).put (some 23) (.slice (some ⟨X2, 0, none⟩) 1 1)) w2
def LinS2_0123 (w1 : World) (r : Pr.Rw) (O : Array Oper) (Q0 : Exit → Act → World → Prop) (A0 : Act) (s0 a1 c2 a2 c3 a3 c4 a4 : Bytes) : Prop := ∀ (w2 : World) (X0 X1 X2 X3 : Nat), Hid (Chg [] w1 w2) → Hid (Blk w2 X2 [.int .i64 r.t] 3) → Hid (Blk w2 X3 [.int .i64 r.step] 3) → wpAnyH Tryd.prog .any O Q0 (fun W' => Chg [] w1 W') 5 #[true, true, true, true, true, true, true, true, true, true, true, true, true, true, true, true, true, true, false, false, true, true, true, false, false, false] (((((((A0.put (some 15) (.string ⟨a1.toArray⟩)).put (some 19) (.string ⟨c2.toArray⟩)).put (some 20) (.string ⟨a2.toArray⟩)).put (some 14) (.slice (some ⟨X0, 0, none⟩) 2 2)).put (some 18) (.slice (some ⟨X1, 0, none⟩) 1 1)).put (some 23) (.slice (some ⟨X2, 0, none⟩) 1 1)).put (some 28) (.slice (some ⟨X3, 0, none⟩) 1 1)) w2
def LinS2_012 (w1 : World) (r : Pr.Rw) (O : Array Oper) (Q0 : Exit → Act → World → Prop) (A0 : Act) (s0 a1 c2 a2 c3 a3 c4 a4 : Bytes) : Prop := ∀ (w2 : World) (X0 X1 X2 : Nat), Hid (Chg [] w1 w2) → Hid (Blk w2 X2 [.int .i64 r.t] 3) → wpAnyH Tryd.prog .any O Q0 (fun W' => Chg [] w1 W') 6 #[true, true, true, true, true, true, true, true, true, true, true, true, true, true, true, true, true, true, false, false, true, true, false, false, false, false] ((((((A0.put (some 15) (.string ⟨a1.toArray⟩)).put (some 19) (.string ⟨c2.toArray⟩)).put (some 20) (.string ⟨a2.toArray⟩)).put (some 14) (.slice (some ⟨X0, 0, none⟩) 2 2)).put (some 18) (.slice (some ⟨X1, 0, none⟩) 1 1)).put (some 23) (.slice (some ⟨X2, 0, none⟩) 1 1)) w2
def LinS2_013 (w1 : World) (r : Pr.Rw) (O : Array Oper) (Q0 : Exit → Act → World → Prop) (A0 : Act) (s0 a1 c2 a2 c3 a3 c4 a4 : Bytes) : Prop := ∀ (w2 : World) (X0 X1 X3 : Nat), Hid (Chg [] w1 w2) → Hid (Blk w2 X3 [.int .i64 r.step] 3) → wpAnyH Tryd.prog .any O Q0 (fun W' => Chg [] w1 W') 6 #[true, true, true, true, true, true, true, true, true, true, true, true, true, true, true, true, true, false, false, false, true, true, true, false, false, false] ((((((A0.put (some 15) (.string ⟨a1.toArray⟩)).put (some 19) (.string ⟨c2.toArray⟩)).put (some 20) (.string ⟨a2.toArray⟩)).put (some 14) (.slice (some ⟨X0, 0, none⟩) 2 2)).put (some 18) (.slice (some ⟨X1, 0, none⟩) 1 1)).put (some 28) (.slice (some ⟨X3, 0, none⟩) 1 1)) w2
def LinS2_01 (w1 : World) (r : Pr.Rw) (O : Array Oper) (Q0 : Exit → Act → World → Prop) (A0 : Act) (s0 a1 c2 a2 c3 a3 c4 a4 : Bytes) : Prop := ∀ (w2 : World) (X0 X1 : Nat), Hid (Chg [] w1 w2) → wpAnyH Tryd.prog .any O Q0 (fun W' => Chg [] w1 W') 7 #[true, true, true, true, true, true, true, true, true, true, true, true, true, true, true, true, true, false, false, false, true, true, false, false, false, false] (((((A0.put (some 15) (.string ⟨a1.toArray⟩)).put (some 19) (.string ⟨c2.toArray⟩)).put (some 20) (.string ⟨a2.toArray⟩)).put (some 14) (.slice (some ⟨X0, 0, none⟩) 2 2)).put (some 18) (.slice (some ⟨X1, 0, none⟩) 1 1)) w2
def LinS1_0123 (w1 : World) (r : Pr.Rw) (O : Array Oper) (Q0 : Exit → Act → World → Prop) (A0 : Act) (s0 a1 c2 a2 c3 a3 c4 a4 : Bytes) : Prop := ∀ (w2 : World) (X0 X1 X2 X3 : Nat), Hid (Chg [] w1 w2) → Hid (Blk w2 X1 [.int .i64 r.f] 3) → Hid (Blk w2 X2 [.int .i64 r.t] 3) → Hid (Blk w2 X3 [.int .i64 r.step] 3) → wpAnyH Tryd.prog .any O Q0 (fun W' => Chg [] w1 W') 7 #[true, true, true, true, true, true, true, true, true, true, true, true, true, false, false, true, true, true, false, false, true, true, true, false, false, false] (((((A0.put (some 15) (.string ⟨a1.toArray⟩)).put (some 14) (.slice (some ⟨X0, 0, none⟩) 2 2)).put (some 18) (.slice (some ⟨X1, 0, none⟩) 1 1)).put (some 23) (.slice (some ⟨X2, 0, none⟩) 1 1)).put (some 28) (.slice (some ⟨X3, 0, none⟩) 1 1)) w2
def LinS1_012 (w1 : World) (r : Pr.Rw) (O : Array Oper) (Q0 : Exit → Act → World → Prop) (A0 : Act) (s0 a1 c2 a2 c3 a3 c4 a4 : Bytes) : Prop := ∀ (w2 : World) (X0 X1 X2 : Nat), Hid (Chg [] w1 w2) → Hid (Blk w2 X1 [.int .i64 r.f] 3) → Hid (Blk w2 X2 [.int .i64 r.t] 3) → wpAnyH Tryd.prog .any O Q0 (fun W' => Chg [] w1 W') 8 #[true, true, true, true, true, true, true, true, true, true, true, true, true, false, false, true, true, true, false, false, true, true, false, false, false, false] ((((A0.put (some 15) (.string ⟨a1.toArray⟩)).put (some 14) (.slice (some ⟨X0, 0, none⟩) 2 2)).put (some 18) (.slice (some ⟨X1, 0, none⟩) 1 1)).put (some 23) (.slice (some ⟨X2, 0, none⟩) 1 1)) w2
def LinS1_013 (w1 : World) (r : Pr.Rw) (O : Array Oper) (Q0 : Exit → Act → World → Prop) (A0 : Act) (s0 a1 c2 a2 c3 a3 c4 a4 : Bytes) : Prop := ∀ (w2 : World) (X0 X1 X3 : Nat), Hid (Chg [] w1 w2) → Hid (Blk w2 X1 [.int .i64 r.f] 3) → Hid (Blk w2 X3 [.int .i64 r.step] 3) → wpAnyH Tryd.prog .any O Q0 (fun W' => Chg [] w1 W') 8 #[true, true, true, true, true, true, true, true, true, true, true, true, true, false, false, true, true, false, false, false, true, true, true, false, false, false] ((((A0.put (some 15) (.string ⟨a1.toArray⟩)).put (some 14) (.slice (some ⟨X0, 0, none⟩) 2 2)).put (some 18) (.slice (some ⟨X1, 0, none⟩) 1 1)).put (some 28) (.slice (some ⟨X3, 0, none⟩) 1 1)) w2
def LinS1_023 (w1 : World) (r : Pr.Rw) (O : Array Oper) (Q0 : Exit → Act → World → Prop) (A0 : Act) (s0 a1 c2 a2 c3 a3 c4 a4 : Bytes) : Prop := ∀ (w2 : World) (X0 X2 X3 : Nat), Hid (Chg [] w1 w2) → Hid (Blk w2 X2 [.int .i64 r.t] 3) → Hid (Blk w2 X3 [.int .i64 r.step] 3) → wpAnyH Tryd.prog .any O Q0 (fun W' => Chg [] w1 W') 8 #[true, true, true, true, true, true, true, true, true, true, true, true, false, false, false, true, true, true, false, false, true, true, true, false, false, false] ((((A0.put (some 15) (.string ⟨a1.toArray⟩)).put (some 14) (.slice (some ⟨X0, 0, none⟩) 2 2)).put (some 23) (.slice (some ⟨X2, 0, none⟩) 1 1)).put (some 28) (.slice (some ⟨X3, 0, none⟩) 1 1)) w2
def LinS1_01 (w1 : World) (r : Pr.Rw) (O : Array Oper) (Q0 : Exit → Act → World → Prop) (A0 : Act) (s0 a1 c2 a2 c3 a3 c4 a4 : Bytes) : Prop := ∀ (w2 : World) (X0 X1 : Nat), Hid (Chg [] w1 w2) → Hid (Blk w2 X1 [.int .i64 r.f] 3) → wpAnyH Tryd.prog .any O Q0 (fun W' => Chg [] w1 W') 9 #[true, true, true, true, true, true, true, true, true, true, true, true, true, false, false, true, true, false, false, false, true, true, false, false, false, false] (((A0.put (some 15) (.string ⟨a1.toArray⟩)).put (some 14) (.slice (some ⟨X0, 0, none⟩) 2 2)).put (some 18) (.slice (some ⟨X1, 0, none⟩) 1 1)) w2
def LinS1_02 (w1 : World) (r : Pr.Rw) (O : Array Oper) (Q0 : Exit → Act → World → Prop) (A0 : Act) (s0 a1 c2 a2 c3 a3 c4 a4 : Bytes) : Prop := ∀ (w2 : World) (X0 X2 : Nat), Hid (Chg [] w1 w2) → Hid (Blk w2 X2 [.int .i64 r.t] 3) → wpAnyH Tryd.prog .any O Q0 (fun W' => Chg [] w1 W') 9 #[true, true, true, true, true, true, true, true, true, true, true, true, false, false, false, true, true, true, false, false, true, true, false, false, false, false] (((A0.put (some 15) (.string ⟨a1.toArray⟩)).put (some 14) (.slice (some ⟨X0, 0, none⟩) 2 2)).put (some 23) (.slice (some ⟨X2, 0, none⟩) 1 1)) w2
def LinS1_03 (w1 : World) (r : Pr.Rw) (O : Array Oper) (Q0 : Exit → Act → World → Prop) (A0 : Act) (s0 a1 c2 a2 c3 a3 c4 a4 : Bytes) : Prop := ∀ (w2 : World) (X0 X3 : Nat), Hid (Chg [] w1 w2) → Hid (Blk w2 X3 [.int .i64 r.step] 3) → wpAnyH Tryd.prog .any O Q0 (fun W' => Chg [] w1 W') 9 #[true, true, true, true, true, true, true, true, true, true, true, true, false, false, false, true, true, false, false, false, true, true, true, false, false, false] (((A0.put (some 15) (.string ⟨a1.toArray⟩)).put (some 14) (.slice (some ⟨X0, 0, none⟩) 2 2)).put (some 28) (.slice (some ⟨X3, 0, none⟩) 1 1)) w2
def LinS1_0 (w1 : World) (r : Pr.Rw) (O : Array Oper) (Q0 : Exit → Act → World → Prop) (A0 : Act) (s0 a1 c2 a2 c3 a3 c4 a4 : Bytes) : Prop := ∀ (w2 : World) (X0 : Nat), Hid (Chg [] w1 w2) → wpAnyH Tryd.prog .any O Q0 (fun W' => Chg [] w1 W') 10 #[true, true, true, true, true, true, true, true, true, true, true, true, false, false, false, true, true, false, false, false, true, true, false, false, false, false] ((A0.put (some 15) (.string ⟨a1.toArray⟩)).put (some 14) (.slice (some ⟨X0, 0, none⟩) 2 2)) w2
def LinS0_0123 (w1 : World) (r : Pr.Rw) (O : Array Oper) (Q0 : Exit → Act → World → Prop) (A0 : Act) (s0 a1 c2 a2 c3 a3 c4 a4 : Bytes) : Prop := ∀ (w2 : World) (X0 X1 X2 X3 : Nat), Hid (Chg [] w1 w2) → Hid (Blk w2 X0 [.int .i64 r.x, .int .i64 r.y] 3) → Hid (Blk w2 X1 [.int .i64 r.f] 3) → Hid (Blk w2 X2 [.int .i64 r.t] 3) → Hid (Blk w2 X3 [.int .i64 r.step] 3) → wpAnyH Tryd.prog .any O Q0 (fun W' => Chg [] w1 W') 8 #[true, true, true, true, true, true, true, true, true, false, true, true, true, false, false, true, true, true, false, false, true, true, true, false, false, false] ((((A0.put (some 14) (.slice (some ⟨X0, 0, none⟩) 2 2)).put (some 18) (.slice (some ⟨X1, 0, none⟩) 1 1)).put (some 23) (.slice (some ⟨X2, 0, none⟩) 1 1)).put (some 28) (.slice (some ⟨X3, 0, none⟩) 1 1)) w2
def LinS0_012 (w1 : World) (r : Pr.Rw) (O : Array Oper) (Q0 : Exit → Act → World → Prop) (A0 : Act) (s0 a1 c2 a2 c3 a3 c4 a4 : Bytes) : Prop := ∀ (w2 : World) (X0 X1 X2 : Nat), Hid (Chg [] w1 w2) → Hid (Blk w2 X0 [.int .i64 r.x, .int .i64 r.y] 3) → Hid (Blk w2 X1 [.int .i64 r.f] 3) → Hid (Blk w2 X2 [.int .i64 r.t] 3) → wpAnyH Tryd.prog .any O Q0 (fun W' => Chg [] w1 W') 9 #[true, true, true, true, true, true, true, true, true, false, true, true, true, false, false, true, true, true, false, false, true, true, false, false, false, false] (((A0.put (some 14) (.slice (some ⟨X0, 0, none⟩) 2 2)).put (some 18) (.slice (some ⟨X1, 0, none⟩) 1 1)).put (some 23) (.slice (some ⟨X2, 0, none⟩) 1 1)) w2
def LinS0_013 (w1 : World) (r : Pr.Rw) (O : Array Oper) (Q0 : Exit → Act → World → Prop) (A0 : Act) (s0 a1 c2 a2 c3 a3 c4 a4 : Bytes) : Prop := ∀ (w2 : World) (X0 X1 X3 : Nat), Hid (Chg [] w1 w2) → Hid (Blk w2 X0 [.int .i64 r.x, .int .i64 r.y] 3) → Hid (Blk w2 X1 [.int .i64 r.f] 3) → Hid (Blk w2 X3 [.int .i64 r.step] 3) → wpAnyH Tryd.prog .any O Q0 (fun W' => Chg [] w1 W') 9 #[true, true, true, true, true, true, true, true, true, false, true, true, true, false, false, true, true, false, false, false, true, true, true, false, false, false] (((A0.put (some 14) (.slice (some ⟨X0, 0, none⟩) 2 2)).put (some 18) (.slice (some ⟨X1, 0, none⟩) 1 1)).put (some 28) (.slice (some ⟨X3, 0, none⟩) 1 1)) w2
def LinS0_023 (w1 : World) (r : Pr.Rw) (O : Array Oper) (Q0 : Exit → Act → World → Prop) (A0 : Act) (s0 a1 c2 a2 c3 a3 c4 a4 : Bytes) : Prop := ∀ (w2 : World) (X0 X2 X3 : Nat), Hid (Chg [] w1 w2) → Hid (Blk w2 X0 [.int .i64 r.x, .int .i64 r.y] 3) → Hid (Blk w2 X2 [.int .i64 r.t] 3) → Hid (Blk w2 X3 [.int .i64 r.step] 3) → wpAnyH Tryd.prog .any O Q0 (fun W' => Chg [] w1 W') 9 #[true, true, true, true, true, true, true, true, true, false, true, true, false, false, false, true, true, true, false, false, true, true, true, false, false, false] (((A0.put (some 14) (.slice (some ⟨X0, 0, none⟩) 2 2)).put (some 23) (.slice (some ⟨X2, 0, none⟩) 1 1)).put (some 28) (.slice (some ⟨X3, 0, none⟩) 1 1)) w2
def LinS0_123 (w1 : World) (r : Pr.Rw) (O : Array Oper) (Q0 : Exit → Act → World → Prop) (A0 : Act) (s0 a1 c2 a2 c3 a3 c4 a4 : Bytes) : Prop := ∀ (w2 : World) (X1 X2 X3 : Nat), Hid (Chg [] w1 w2) → Hid (Blk w2 X1 [.int .i64 r.f] 3) → Hid (Blk w2 X2 [.int .i64 r.t] 3) → Hid (Blk w2 X3 [.int .i64 r.step] 3) → wpAnyH Tryd.prog .any O Q0 (fun W' => Chg [] w1 W') 9 #[true, true, true, true, true, true, true, true, false, false, true, true, true, false, false, true, true, true, false, false, true, true, true, false, false, false] (((A0.put (some 18) (.slice (some ⟨X1, 0, none⟩) 1 1)).put (some 23) (.slice (some ⟨X2, 0, none⟩) 1 1)).put (some 28) (.slice (some ⟨X3, 0, none⟩) 1 1)) w2
def LinS0_01 (w1 : World) (r : Pr.Rw) (O : Array Oper) (Q0 : Exit → Act → World → Prop) (A0 : Act) (s0 a1 c2 a2 c3 a3 c4 a4 : Bytes) : Prop := ∀ (w2 : World) (X0 X1 : Nat), Hid (Chg [] w1 w2) → Hid (Blk w2 X0 [.int .i64 r.x, .int .i64 r.y] 3) → Hid (Blk w2 X1 [.int .i64 r.f] 3) → wpAnyH Tryd.prog .any O Q0 (fun W' => Chg [] w1 W') 10 #[true, true, true, true, true, true, true, true, true, false, true, true, true, false, false, true, true, false, false, false, true, true, false, false, false, false] ((A0.put (some 14) (.slice (some ⟨X0, 0, none⟩) 2 2)).put (some 18) (.slice (some ⟨X1, 0, none⟩) 1 1)) w2
def LinS0_02 (w1 : World) (r : Pr.Rw) (O : Array Oper) (Q0 : Exit → Act → World → Prop) (A0 : Act) (s0 a1 c2 a2 c3 a3 c4 a4 : Bytes) : Prop := ∀ (w2 : World) (X0 X2 : Nat), Hid (Chg [] w1 w2) → Hid (Blk w2 X0 [.int .i64 r.x, .int .i64 r.y] 3) → Hid (Blk w2 X2 [.int .i64 r.t] 3) → wpAnyH Tryd.prog .any O Q0 (fun W' => Chg [] w1 W') 10 #[true, true, true, true, true, true, true, true, true, false, true, true, false, false, false, true, true, true, false, false, true, true, false, false, false, false] ((A0.put (some 14) (.slice (some ⟨X0, 0, none⟩) 2 2)).put (some 23) (.slice (some ⟨X2, 0, none⟩) 1 1)) w2
def LinS0_03 (w1 : World) (r : Pr.Rw) (O : Array Oper) (Q0 : Exit → Act → World → Prop) (A0 : Act) (s0 a1 c2 a2 c3 a3 c4 a4 : Bytes) : Prop := ∀ (w2 : World) (X0 X3 : Nat), Hid (Chg [] w1 w2) → Hid (Blk w2 X0 [.int .i64 r.x, .int .i64 r.y] 3) → Hid (Blk w2 X3 [.int .i64 r.step] 3) → wpAnyH Tryd.prog .any O Q0 (fun W' => Chg [] w1 W') 10 #[true, true, true, true, true, true, true, true, true, false, true, true, false, false, false, true, true, false, false, false, true, true, true, false, false, false] ((A0.put (some 14) (.slice (some ⟨X0, 0, none⟩) 2 2)).put (some 28) (.slice (some ⟨X3, 0, none⟩) 1 1)) w2
def LinS0_12 (w1 : World) (r : Pr.Rw) (O : Array Oper) (Q0 : Exit → Act → World → Prop) (A0 : Act) (s0 a1 c2 a2 c3 a3 c4 a4 : Bytes) : Prop := ∀ (w2 : World) (X1 X2 : Nat), Hid (Chg [] w1 w2) → Hid (Blk w2 X1 [.int .i64 r.f] 3) → Hid (Blk w2 X2 [.int .i64 r.t] 3) → wpAnyH Tryd.prog .any O Q0 (fun W' => Chg [] w1 W') 10 #[true, true, true, true, true, true, true, true, false, false, true, true, true, false, false, true, true, true, false, false, true, true, false, false, false, false] ((A0.put (some 18) (.slice (some ⟨X1, 0, none⟩) 1 1)).put (some 23) (.slice (some ⟨X2, 0, none⟩) 1 1)) w2
def LinS0_13 (w1 : World) (r : Pr.Rw) (O : Array Oper) (Q0 : Exit → Act → World → Prop) (A0 : Act) (s0 a1 c2 a2 c3 a3 c4 a4 : Bytes) : Prop := ∀ (w2 : World) (X1 X3 : Nat), Hid (Chg [] w1 w2) → Hid (Blk w2 X1 [.int .i64 r.f] 3) → Hid (Blk w2 X3 [.int .i64 r.step] 3) → wpAnyH Tryd.prog .any O Q0 (fun W' => Chg [] w1 W') 10 #[true, true, true, true, true, true, true, true, false, false, true, true, true, false, false, true, true, false, false, false, true, true, true, false, false, false] ((A0.put (some 18) (.slice (some ⟨X1, 0, none⟩) 1 1)).put (some 28) (.slice (some ⟨X3, 0, none⟩) 1 1)) w2
def LinS0_23 (w1 : World) (r : Pr.Rw) (O : Array Oper) (Q0 : Exit → Act → World → Prop) (A0 : Act) (s0 a1 c2 a2 c3 a3 c4 a4 : Bytes) : Prop := ∀ (w2 : World) (X2 X3 : Nat), Hid (Chg [] w1 w2) → Hid (Blk w2 X2 [.int .i64 r.t] 3) → Hid (Blk w2 X3 [.int .i64 r.step] 3) → wpAnyH Tryd.prog .any O Q0 (fun W' => Chg [] w1 W') 10 #[true, true, true, true, true, true, true, true, false, false, true, true, false, false, false, true, true, true, false, false, true, true, true, false, false, false] ((A0.put (some 23) (.slice (some ⟨X2, 0, none⟩) 1 1)).put (some 28) (.slice (some ⟨X3, 0, none⟩) 1 1)) w2
def LinS0_0 (w1 : World) (r : Pr.Rw) (O : Array Oper) (Q0 : Exit → Act → World → Prop) (A0 : Act) (s0 a1 c2 a2 c3 a3 c4 a4 : Bytes) : Prop := ∀ (w2 : World) (X0 : Nat), Hid (Chg [] w1 w2) → Hid (Blk w2 X0 [.int .i64 r.x, .int .i64 r.y] 3) → wpAnyH Tryd.prog .any O Q0 (fun W' => Chg [] w1 W') 11 #[true, true, true, true, true, true, true, true, true, false, true, true, false, false, false, true, true, false, false, false, true, true, false, false, false, false] (A0.put (some 14) (.slice (some ⟨X0, 0, none⟩) 2 2)) w2
def LinS0_1 (w1 : World) (r : Pr.Rw) (O : Array Oper) (Q0 : Exit → Act → World → Prop) (A0 : Act) (s0 a1 c2 a2 c3 a3 c4 a4 : Bytes) : Prop := ∀ (w2 : World) (X1 : Nat), Hid (Chg [] w1 w2) → Hid (Blk w2 X1 [.int .i64 r.f] 3) → wpAnyH Tryd.prog .any O Q0 (fun W' => Chg [] w1 W') 11 #[true, true, true, true, true, true, true, true, false, false, true, true, true, false, false, true, true, false, false, false, true, true, false, false, false, false] (A0.put (some 18) (.slice (some ⟨X1, 0, none⟩) 1 1)) w2
def LinS0_2 (w1 : World) (r : Pr.Rw) (O : Array Oper) (Q0 : Exit → Act → World → Prop) (A0 : Act) (s0 a1 c2 a2 c3 a3 c4 a4 : Bytes) : Prop := ∀ (w2 : World) (X2 : Nat), Hid (Chg [] w1 w2) → Hid (Blk w2 X2 [.int .i64 r.t] 3) → wpAnyH Tryd.prog .any O Q0 (fun W' => Chg [] w1 W') 11 #[true, true, true, true, true, true, true, true, false, false, true, true, false, false, false, true, true, true, false, false, true, true, false, false, false, false] (A0.put (some 23) (.slice (some ⟨X2, 0, none⟩) 1 1)) w2
def LinS0_3 (w1 : World) (r : Pr.Rw) (O : Array Oper) (Q0 : Exit → Act → World → Prop) (A0 : Act) (s0 a1 c2 a2 c3 a3 c4 a4 : Bytes) : Prop := ∀ (w2 : World) (X3 : Nat), Hid (Chg [] w1 w2) → Hid (Blk w2 X3 [.int .i64 r.step] 3) → wpAnyH Tryd.prog .any O Q0 (fun W' => Chg [] w1 W') 11 #[true, true, true, true, true, true, true, true, false, false, true, true, false, false, false, true, true, false, false, false, true, true, true, false, false, false] (A0.put (some 28) (.slice (some ⟨X3, 0, none⟩) 1 1)) w2
def LinS0_ (w1 : World) (r : Pr.Rw) (O : Array Oper) (Q0 : Exit → Act → World → Prop) (A0 : Act) (s0 a1 c2 a2 c3 a3 c4 a4 : Bytes) : Prop := ∀ (w2 : World), Hid (Chg [] w1 w2) → wpAnyH Tryd.prog .any O Q0 (fun W' => Chg [] w1 W') 12 #[true, true, true, true, true, true, true, true, false, false, true, true, false, false, false, true, true, false, false, false, true, true, false, false, false, false] A0 w2
variable {w1 : World} {r : Pr.Rw} {O : Array Oper} {Q0 : Exit → Act → World → Prop} {A0 : Act} {s0 a1 c2 a2 c3 a3 c4 a4 : Bytes} {M : Nat} {y : Nat → Value}
set_option maxHeartbeats 4000000 in
set_option maxRecDepth 100000 in
theorem lins3_0123 (C : LinC r s0 a1 c2 a2 c3 a3 c4 a4) (hO : Hid (LinO O)) (HPQ : Hid (∀ c a d x w, Q0 (.panic c) (a.put d x) w → Q0 (.panic c) a w)) (hA : Hid (A0 = LinA M r s0 y)) (st4_0123 : Hid (LinS4_0123 w1 r O Q0 A0 s0 a1 c2 a2 c3 a3 c4 a4)) : Hid (LinS3_0123 w1 r O Q0 A0 s0 a1 c2 a2 c3 a3 c4 a4) := hd (by
 have HCC := hd C
 clear C
 unfold LinS3_0123
 have hlit := hO.out
 unfold LinO at hlit
 simp only [Tryd.f49, findR, Option.getD, if_true, if_false, Nat.reduceEqDiff] at hlit
 injection hlit with hlit
 have HLIT := hd hlit
 clear hlit hO
 intro w2 X0 X1 X2 X3 HC2 HX3
 rw [← HLIT.out, hA.out]
 unfold LinA
 try simp only [qq]
 refine rd1 23 (fun K hK => ?_)
 · go_simp
   refine words8_r Pr.tStep (by decide) [r.step] 1 ⟨rfl, by decide⟩ HCC.out.k4 HX3 ?_
   refine hK.out _ _ HC2.out (fun hHeld => ?_)
   clear hK K
   try simp only [qq]
   rw [← HCC.out.e4]
   have g1 : ¬ 9223372036854775807 < a3.length + c4.length := by have h1 := HCC.out.l3; have h2 := HCC.out.m4; omega
   refine tk 24 ?vn012324 ?hyn012324 ?rsn012324 (hQ := fun _ _ _ h => HPQ.out _ _ _ _ _ h)
   case hyn012324 => (intro w9 hSw; go_simp; try with_reducible rfl)
   try simp only [qq]
   rw [str2, ← HCC.out.f4]
   have z := st4_0123.out w2 X0 X1 X2 X3 HC2
   rw [← HLIT.out, hA.out] at z
   try simp only [qq]
   exact wpAnyH_act (by kernel_rfl) z)
set_option maxHeartbeats 4000000 in
set_option maxRecDepth 100000 in
theorem lins3_012 (C : LinC r s0 a1 c2 a2 c3 a3 c4 a4) (hO : Hid (LinO O)) (HPQ : Hid (∀ c a d x w, Q0 (.panic c) (a.put d x) w → Q0 (.panic c) a w)) (hA : Hid (A0 = LinA M r s0 y)) (st3_0123 : Hid (LinS3_0123 w1 r O Q0 A0 s0 a1 c2 a2 c3 a3 c4 a4)) : Hid (LinS3_012 w1 r O Q0 A0 s0 a1 c2 a2 c3 a3 c4 a4) := hd (by
 have HCC := hd C
 clear C
 unfold LinS3_012
 have hlit := hO.out
 unfold LinO at hlit
 simp only [Tryd.f49, findR, Option.getD, if_true, if_false, Nat.reduceEqDiff] at hlit
 injection hlit with hlit
 have HLIT := hd hlit
 clear hlit hO
 intro w2 X0 X1 X2 HC2
 rw [← HLIT.out, hA.out]
 unfold LinA
 try simp only [qq]
 refine rd1 22 (fun K hK => ?_)
 · go_simp
   obtain ⟨w3, hw3⟩ : ∃ W, W = w2.alloc (.cells #[.int .i64 r.step] 3) := ⟨_, rfl⟩
   rw [← hw3]
   obtain ⟨Y, hY⟩ : ∃ X, X = w2.heap.size := ⟨_, rfl⟩
   rw [← hY]
   have HY : Hid (Blk w3 Y [.int .i64 r.step] 3) := hd (by rw [hw3, hY]; exact Blk.new w2 [.int .i64 r.step] _)
   have C3 : Hid (Chg [] w2 w3) := hd (by rw [hw3]; exact (Chg.refl _ _).alloc _)
   have HC3 : Hid (Chg [] w1 w3) := hd (HC2.out.trans C3.out (by simp))
   refine hK.out _ _ HC3.out (fun hHeld => ?_)
   clear hK K hw3 hY
   have z := st3_0123.out w3 X0 X1 X2 Y HC3 HY
   rw [← HLIT.out, hA.out] at z
   try simp only [qq]
   exact wpAnyH_act (by kernel_rfl) z)
set_option maxHeartbeats 4000000 in
set_option maxRecDepth 100000 in
theorem lins2_0123 (C : LinC r s0 a1 c2 a2 c3 a3 c4 a4) (hO : Hid (LinO O)) (HPQ : Hid (∀ c a d x w, Q0 (.panic c) (a.put d x) w → Q0 (.panic c) a w)) (hA : Hid (A0 = LinA M r s0 y)) (st3_0123 : Hid (LinS3_0123 w1 r O Q0 A0 s0 a1 c2 a2 c3 a3 c4 a4)) : Hid (LinS2_0123 w1 r O Q0 A0 s0 a1 c2 a2 c3 a3 c4 a4) := hd (by
 have HCC := hd C
 clear C
 unfold LinS2_0123
 have hlit := hO.out
 unfold LinO at hlit
 simp only [Tryd.f49, findR, Option.getD, if_true, if_false, Nat.reduceEqDiff] at hlit
 injection hlit with hlit
 have HLIT := hd hlit
 clear hlit hO
 intro w2 X0 X1 X2 X3 HC2 HX2 HX3
 rw [← HLIT.out, hA.out]
 unfold LinA
 try simp only [qq]
 refine rd1 18 (fun K hK => ?_)
 · go_simp
   refine words8_r Pr.tTo (by decide) [r.t] 1 ⟨rfl, by decide⟩ HCC.out.k3 HX2 ?_
   refine hK.out _ _ HC2.out (fun hHeld => ?_)
   clear hK K
   try simp only [qq]
   rw [← HCC.out.e3]
   have g1 : ¬ 9223372036854775807 < a2.length + c3.length := by have h1 := HCC.out.l2; have h2 := HCC.out.m3; omega
   refine tk 19 ?vn012319 ?hyn012319 ?rsn012319 (hQ := fun _ _ _ h => HPQ.out _ _ _ _ _ h)
   case hyn012319 => (intro w9 hSw; go_simp; try with_reducible rfl)
   try simp only [qq]
   rw [str2, ← HCC.out.f3]
   have z := st3_0123.out w2 X0 X1 X2 X3 HC2 HX3
   rw [← HLIT.out, hA.out] at z
   try simp only [qq]
   exact wpAnyH_act (by kernel_rfl) z)
set_option maxHeartbeats 4000000 in
set_option maxRecDepth 100000 in
theorem lins2_012 (C : LinC r s0 a1 c2 a2 c3 a3 c4 a4) (hO : Hid (LinO O)) (HPQ : Hid (∀ c a d x w, Q0 (.panic c) (a.put d x) w → Q0 (.panic c) a w)) (hA : Hid (A0 = LinA M r s0 y)) (st3_012 : Hid (LinS3_012 w1 r O Q0 A0 s0 a1 c2 a2 c3 a3 c4 a4)) (st2_0123 : Hid (LinS2_0123 w1 r O Q0 A0 s0 a1 c2 a2 c3 a3 c4 a4)) : Hid (LinS2_012 w1 r O Q0 A0 s0 a1 c2 a2 c3 a3 c4 a4) := hd (by
 have HCC := hd C
 clear C
 unfold LinS2_012
 have hlit := hO.out
 unfold LinO at hlit
 simp only [Tryd.f49, findR, Option.getD, if_true, if_false, Nat.reduceEqDiff] at hlit
 injection hlit with hlit
 have HLIT := hd hlit
 clear hlit hO
 intro w2 X0 X1 X2 HC2 HX2
 rw [← HLIT.out, hA.out]
 unfold LinA
 try simp only [qq]
 refine rd2 18 22 (fun K hK => ?_) (fun K hK => ?_)
 · go_simp
   refine words8_r Pr.tTo (by decide) [r.t] 1 ⟨rfl, by decide⟩ HCC.out.k3 HX2 ?_
   refine hK.out _ _ HC2.out (fun hHeld => ?_)
   clear hK K
   try simp only [qq]
   rw [← HCC.out.e3]
   have g1 : ¬ 9223372036854775807 < a2.length + c3.length := by have h1 := HCC.out.l2; have h2 := HCC.out.m3; omega
   refine tk 19 ?vn01219 ?hyn01219 ?rsn01219 (hQ := fun _ _ _ h => HPQ.out _ _ _ _ _ h)
   case hyn01219 => (intro w9 hSw; go_simp; try with_reducible rfl)
   try simp only [qq]
   rw [str2, ← HCC.out.f3]
   have z := st3_012.out w2 X0 X1 X2 HC2
   rw [← HLIT.out, hA.out] at z
   try simp only [qq]
   exact wpAnyH_act (by kernel_rfl) z
 · go_simp
   obtain ⟨w3, hw3⟩ : ∃ W, W = w2.alloc (.cells #[.int .i64 r.step] 3) := ⟨_, rfl⟩
   rw [← hw3]
   obtain ⟨Y, hY⟩ : ∃ X, X = w2.heap.size := ⟨_, rfl⟩
   rw [← hY]
   have HY : Hid (Blk w3 Y [.int .i64 r.step] 3) := hd (by rw [hw3, hY]; exact Blk.new w2 [.int .i64 r.step] _)
   have C3 : Hid (Chg [] w2 w3) := hd (by rw [hw3]; exact (Chg.refl _ _).alloc _)
   have HC3 : Hid (Chg [] w1 w3) := hd (HC2.out.trans C3.out (by simp))
   refine hK.out _ _ HC3.out (fun hHeld => ?_)
   clear hK K hw3 hY
   have z := st2_0123.out w3 X0 X1 X2 Y HC3 (hd (C3.out.blk HX2.out (by simp))) HY
   rw [← HLIT.out, hA.out] at z
   try simp only [qq]
   exact wpAnyH_act (by kernel_rfl) z)
set_option maxHeartbeats 4000000 in
set_option maxRecDepth 100000 in
theorem lins2_013 (C : LinC r s0 a1 c2 a2 c3 a3 c4 a4) (hO : Hid (LinO O)) (HPQ : Hid (∀ c a d x w, Q0 (.panic c) (a.put d x) w → Q0 (.panic c) a w)) (hA : Hid (A0 = LinA M r s0 y)) (st2_0123 : Hid (LinS2_0123 w1 r O Q0 A0 s0 a1 c2 a2 c3 a3 c4 a4)) : Hid (LinS2_013 w1 r O Q0 A0 s0 a1 c2 a2 c3 a3 c4 a4) := hd (by
 have HCC := hd C
 clear C
 unfold LinS2_013
 have hlit := hO.out
 unfold LinO at hlit
 simp only [Tryd.f49, findR, Option.getD, if_true, if_false, Nat.reduceEqDiff] at hlit
 injection hlit with hlit
 have HLIT := hd hlit
 clear hlit hO
 intro w2 X0 X1 X3 HC2 HX3
 rw [← HLIT.out, hA.out]
 unfold LinA
 try simp only [qq]
 refine rd1 17 (fun K hK => ?_)
 · go_simp
   obtain ⟨w3, hw3⟩ : ∃ W, W = w2.alloc (.cells #[.int .i64 r.t] 3) := ⟨_, rfl⟩
   rw [← hw3]
   obtain ⟨Y, hY⟩ : ∃ X, X = w2.heap.size := ⟨_, rfl⟩
   rw [← hY]
   have HY : Hid (Blk w3 Y [.int .i64 r.t] 3) := hd (by rw [hw3, hY]; exact Blk.new w2 [.int .i64 r.t] _)
   have C3 : Hid (Chg [] w2 w3) := hd (by rw [hw3]; exact (Chg.refl _ _).alloc _)
   have HC3 : Hid (Chg [] w1 w3) := hd (HC2.out.trans C3.out (by simp))
   refine hK.out _ _ HC3.out (fun hHeld => ?_)
   clear hK K hw3 hY
   have z := st2_0123.out w3 X0 X1 Y X3 HC3 HY (hd (C3.out.blk HX3.out (by simp)))
   rw [← HLIT.out, hA.out] at z
   try simp only [qq]
   exact wpAnyH_act (by kernel_rfl) z)
set_option maxHeartbeats 4000000 in
set_option maxRecDepth 100000 in
theorem lins2_01 (C : LinC r s0 a1 c2 a2 c3 a3 c4 a4) (hO : Hid (LinO O)) (HPQ : Hid (∀ c a d x w, Q0 (.panic c) (a.put d x) w → Q0 (.panic c) a w)) (hA : Hid (A0 = LinA M r s0 y)) (st2_012 : Hid (LinS2_012 w1 r O Q0 A0 s0 a1 c2 a2 c3 a3 c4 a4)) (st2_013 : Hid (LinS2_013 w1 r O Q0 A0 s0 a1 c2 a2 c3 a3 c4 a4)) : Hid (LinS2_01 w1 r O Q0 A0 s0 a1 c2 a2 c3 a3 c4 a4) := hd (by
 have HCC := hd C
 clear C
 unfold LinS2_01
 have hlit := hO.out
 unfold LinO at hlit
 simp only [Tryd.f49, findR, Option.getD, if_true, if_false, Nat.reduceEqDiff] at hlit
 injection hlit with hlit
 have HLIT := hd hlit
 clear hlit hO
 intro w2 X0 X1 HC2
 rw [← HLIT.out, hA.out]
 unfold LinA
 try simp only [qq]
 refine rd2 17 22 (fun K hK => ?_) (fun K hK => ?_)
 · go_simp
   obtain ⟨w3, hw3⟩ : ∃ W, W = w2.alloc (.cells #[.int .i64 r.t] 3) := ⟨_, rfl⟩
   rw [← hw3]
   obtain ⟨Y, hY⟩ : ∃ X, X = w2.heap.size := ⟨_, rfl⟩
   rw [← hY]
   have HY : Hid (Blk w3 Y [.int .i64 r.t] 3) := hd (by rw [hw3, hY]; exact Blk.new w2 [.int .i64 r.t] _)
   have C3 : Hid (Chg [] w2 w3) := hd (by rw [hw3]; exact (Chg.refl _ _).alloc _)
   have HC3 : Hid (Chg [] w1 w3) := hd (HC2.out.trans C3.out (by simp))
   refine hK.out _ _ HC3.out (fun hHeld => ?_)
   clear hK K hw3 hY
   have z := st2_012.out w3 X0 X1 Y HC3 HY
   rw [← HLIT.out, hA.out] at z
   try simp only [qq]
   exact wpAnyH_act (by kernel_rfl) z
 · go_simp
   obtain ⟨w3, hw3⟩ : ∃ W, W = w2.alloc (.cells #[.int .i64 r.step] 3) := ⟨_, rfl⟩
   rw [← hw3]
   obtain ⟨Y, hY⟩ : ∃ X, X = w2.heap.size := ⟨_, rfl⟩
   rw [← hY]
   have HY : Hid (Blk w3 Y [.int .i64 r.step] 3) := hd (by rw [hw3, hY]; exact Blk.new w2 [.int .i64 r.step] _)
   have C3 : Hid (Chg [] w2 w3) := hd (by rw [hw3]; exact (Chg.refl _ _).alloc _)
   have HC3 : Hid (Chg [] w1 w3) := hd (HC2.out.trans C3.out (by simp))
   refine hK.out _ _ HC3.out (fun hHeld => ?_)
   clear hK K hw3 hY
   have z := st2_013.out w3 X0 X1 Y HC3 HY
   rw [← HLIT.out, hA.out] at z
   try simp only [qq]
   exact wpAnyH_act (by kernel_rfl) z)
set_option maxHeartbeats 4000000 in
set_option maxRecDepth 100000 in
theorem lins1_0123 (C : LinC r s0 a1 c2 a2 c3 a3 c4 a4) (hO : Hid (LinO O)) (HPQ : Hid (∀ c a d x w, Q0 (.panic c) (a.put d x) w → Q0 (.panic c) a w)) (hA : Hid (A0 = LinA M r s0 y)) (st2_0123 : Hid (LinS2_0123 w1 r O Q0 A0 s0 a1 c2 a2 c3 a3 c4 a4)) : Hid (LinS1_0123 w1 r O Q0 A0 s0 a1 c2 a2 c3 a3 c4 a4) := hd (by
 have HCC := hd C
 clear C
 unfold LinS1_0123
 have hlit := hO.out
 unfold LinO at hlit
 simp only [Tryd.f49, findR, Option.getD, if_true, if_false, Nat.reduceEqDiff] at hlit
 injection hlit with hlit
 have HLIT := hd hlit
 clear hlit hO
 intro w2 X0 X1 X2 X3 HC2 HX1 HX2 HX3
 rw [← HLIT.out, hA.out]
 unfold LinA
 try simp only [qq]
 refine rd1 13 (fun K hK => ?_)
 · go_simp
   refine words8_r Pr.tSeats (by decide) [r.f] 1 ⟨rfl, by decide⟩ HCC.out.k2 HX1 ?_
   refine hK.out _ _ HC2.out (fun hHeld => ?_)
   clear hK K
   try simp only [qq]
   rw [← HCC.out.e2]
   have g1 : ¬ 9223372036854775807 < a1.length + c2.length := by have h1 := HCC.out.l1; have h2 := HCC.out.m2; omega
   refine tk 14 ?vn012314 ?hyn012314 ?rsn012314 (hQ := fun _ _ _ h => HPQ.out _ _ _ _ _ h)
   case hyn012314 => (intro w9 hSw; go_simp; try with_reducible rfl)
   try simp only [qq]
   rw [str2, ← HCC.out.f2]
   have z := st2_0123.out w2 X0 X1 X2 X3 HC2 HX2 HX3
   rw [← HLIT.out, hA.out] at z
   try simp only [qq]
   exact wpAnyH_act (by kernel_rfl) z)
set_option maxHeartbeats 4000000 in
set_option maxRecDepth 100000 in
theorem lins1_012 (C : LinC r s0 a1 c2 a2 c3 a3 c4 a4) (hO : Hid (LinO O)) (HPQ : Hid (∀ c a d x w, Q0 (.panic c) (a.put d x) w → Q0 (.panic c) a w)) (hA : Hid (A0 = LinA M r s0 y)) (st2_012 : Hid (LinS2_012 w1 r O Q0 A0 s0 a1 c2 a2 c3 a3 c4 a4)) (st1_0123 : Hid (LinS1_0123 w1 r O Q0 A0 s0 a1 c2 a2 c3 a3 c4 a4)) : Hid (LinS1_012 w1 r O Q0 A0 s0 a1 c2 a2 c3 a3 c4 a4) := hd (by
 have HCC := hd C
 clear C
 unfold LinS1_012
 have hlit := hO.out
 unfold LinO at hlit
 simp only [Tryd.f49, findR, Option.getD, if_true, if_false, Nat.reduceEqDiff] at hlit
 injection hlit with hlit
 have HLIT := hd hlit
 clear hlit hO
 intro w2 X0 X1 X2 HC2 HX1 HX2
 rw [← HLIT.out, hA.out]
 unfold LinA
 try simp only [qq]
 refine rd2 13 22 (fun K hK => ?_) (fun K hK => ?_)
 · go_simp
   refine words8_r Pr.tSeats (by decide) [r.f] 1 ⟨rfl, by decide⟩ HCC.out.k2 HX1 ?_
   refine hK.out _ _ HC2.out (fun hHeld => ?_)
   clear hK K
   try simp only [qq]
   rw [← HCC.out.e2]
   have g1 : ¬ 9223372036854775807 < a1.length + c2.length := by have h1 := HCC.out.l1; have h2 := HCC.out.m2; omega
   refine tk 14 ?vn01214 ?hyn01214 ?rsn01214 (hQ := fun _ _ _ h => HPQ.out _ _ _ _ _ h)
   case hyn01214 => (intro w9 hSw; go_simp; try with_reducible rfl)
   try simp only [qq]
   rw [str2, ← HCC.out.f2]
   have z := st2_012.out w2 X0 X1 X2 HC2 HX2
   rw [← HLIT.out, hA.out] at z
   try simp only [qq]
   exact wpAnyH_act (by kernel_rfl) z
 · go_simp
   obtain ⟨w3, hw3⟩ : ∃ W, W = w2.alloc (.cells #[.int .i64 r.step] 3) := ⟨_, rfl⟩
   rw [← hw3]
   obtain ⟨Y, hY⟩ : ∃ X, X = w2.heap.size := ⟨_, rfl⟩
   rw [← hY]
   have HY : Hid (Blk w3 Y [.int .i64 r.step] 3) := hd (by rw [hw3, hY]; exact Blk.new w2 [.int .i64 r.step] _)
   have C3 : Hid (Chg [] w2 w3) := hd (by rw [hw3]; exact (Chg.refl _ _).alloc _)
   have HC3 : Hid (Chg [] w1 w3) := hd (HC2.out.trans C3.out (by simp))
   refine hK.out _ _ HC3.out (fun hHeld => ?_)
   clear hK K hw3 hY
   have z := st1_0123.out w3 X0 X1 X2 Y HC3 (hd (C3.out.blk HX1.out (by simp))) (hd (C3.out.blk HX2.out (by simp))) HY
   rw [← HLIT.out, hA.out] at z
   try simp only [qq]
   exact wpAnyH_act (by kernel_rfl) z)
set_option maxHeartbeats 4000000 in
set_option maxRecDepth 100000 in
theorem lins1_013 (C : LinC r s0 a1 c2 a2 c3 a3 c4 a4) (hO : Hid (LinO O)) (HPQ : Hid (∀ c a d x w, Q0 (.panic c) (a.put d x) w → Q0 (.panic c) a w)) (hA : Hid (A0 = LinA M r s0 y)) (st2_013 : Hid (LinS2_013 w1 r O Q0 A0 s0 a1 c2 a2 c3 a3 c4 a4)) (st1_0123 : Hid (LinS1_0123 w1 r O Q0 A0 s0 a1 c2 a2 c3 a3 c4 a4)) : Hid (LinS1_013 w1 r O Q0 A0 s0 a1 c2 a2 c3 a3 c4 a4) := hd (by
 have HCC := hd C
 clear C
 unfold LinS1_013
 have hlit := hO.out
 unfold LinO at hlit
 simp only [Tryd.f49, findR, Option.getD, if_true, if_false, Nat.reduceEqDiff] at hlit
 injection hlit with hlit
 have HLIT := hd hlit
 clear hlit hO
 intro w2 X0 X1 X3 HC2 HX1 HX3
 rw [← HLIT.out, hA.out]
 unfold LinA
 try simp only [qq]
 refine rd2 13 17 (fun K hK => ?_) (fun K hK => ?_)
 · go_simp
   refine words8_r Pr.tSeats (by decide) [r.f] 1 ⟨rfl, by decide⟩ HCC.out.k2 HX1 ?_
   refine hK.out _ _ HC2.out (fun hHeld => ?_)
   clear hK K
   try simp only [qq]
   rw [← HCC.out.e2]
   have g1 : ¬ 9223372036854775807 < a1.length + c2.length := by have h1 := HCC.out.l1; have h2 := HCC.out.m2; omega
   refine tk 14 ?vn01314 ?hyn01314 ?rsn01314 (hQ := fun _ _ _ h => HPQ.out _ _ _ _ _ h)
   case hyn01314 => (intro w9 hSw; go_simp; try with_reducible rfl)
   try simp only [qq]
   rw [str2, ← HCC.out.f2]
   have z := st2_013.out w2 X0 X1 X3 HC2 HX3
   rw [← HLIT.out, hA.out] at z
   try simp only [qq]
   exact wpAnyH_act (by kernel_rfl) z
 · go_simp
   obtain ⟨w3, hw3⟩ : ∃ W, W = w2.alloc (.cells #[.int .i64 r.t] 3) := ⟨_, rfl⟩
   rw [← hw3]
   obtain ⟨Y, hY⟩ : ∃ X, X = w2.heap.size := ⟨_, rfl⟩
   rw [← hY]
   have HY : Hid (Blk w3 Y [.int .i64 r.t] 3) := hd (by rw [hw3, hY]; exact Blk.new w2 [.int .i64 r.t] _)
   have C3 : Hid (Chg [] w2 w3) := hd (by rw [hw3]; exact (Chg.refl _ _).alloc _)
   have HC3 : Hid (Chg [] w1 w3) := hd (HC2.out.trans C3.out (by simp))
   refine hK.out _ _ HC3.out (fun hHeld => ?_)
   clear hK K hw3 hY
   have z := st1_0123.out w3 X0 X1 Y X3 HC3 (hd (C3.out.blk HX1.out (by simp))) HY (hd (C3.out.blk HX3.out (by simp)))
   rw [← HLIT.out, hA.out] at z
   try simp only [qq]
   exact wpAnyH_act (by kernel_rfl) z)
set_option maxHeartbeats 4000000 in
set_option maxRecDepth 100000 in
theorem lins1_023 (C : LinC r s0 a1 c2 a2 c3 a3 c4 a4) (hO : Hid (LinO O)) (HPQ : Hid (∀ c a d x w, Q0 (.panic c) (a.put d x) w → Q0 (.panic c) a w)) (hA : Hid (A0 = LinA M r s0 y)) (st1_0123 : Hid (LinS1_0123 w1 r O Q0 A0 s0 a1 c2 a2 c3 a3 c4 a4)) : Hid (LinS1_023 w1 r O Q0 A0 s0 a1 c2 a2 c3 a3 c4 a4) := hd (by
 have HCC := hd C
 clear C
 unfold LinS1_023
 have hlit := hO.out
 unfold LinO at hlit
 simp only [Tryd.f49, findR, Option.getD, if_true, if_false, Nat.reduceEqDiff] at hlit
 injection hlit with hlit
 have HLIT := hd hlit
 clear hlit hO
 intro w2 X0 X2 X3 HC2 HX2 HX3
 rw [← HLIT.out, hA.out]
 unfold LinA
 try simp only [qq]
 refine rd1 12 (fun K hK => ?_)
 · go_simp
   obtain ⟨w3, hw3⟩ : ∃ W, W = w2.alloc (.cells #[.int .i64 r.f] 3) := ⟨_, rfl⟩
   rw [← hw3]
   obtain ⟨Y, hY⟩ : ∃ X, X = w2.heap.size := ⟨_, rfl⟩
   rw [← hY]
   have HY : Hid (Blk w3 Y [.int .i64 r.f] 3) := hd (by rw [hw3, hY]; exact Blk.new w2 [.int .i64 r.f] _)
   have C3 : Hid (Chg [] w2 w3) := hd (by rw [hw3]; exact (Chg.refl _ _).alloc _)
   have HC3 : Hid (Chg [] w1 w3) := hd (HC2.out.trans C3.out (by simp))
   refine hK.out _ _ HC3.out (fun hHeld => ?_)
   clear hK K hw3 hY
   have z := st1_0123.out w3 X0 Y X2 X3 HC3 HY (hd (C3.out.blk HX2.out (by simp))) (hd (C3.out.blk HX3.out (by simp)))
   rw [← HLIT.out, hA.out] at z
   try simp only [qq]
   exact wpAnyH_act (by kernel_rfl) z)
set_option maxHeartbeats 4000000 in
set_option maxRecDepth 100000 in
theorem lins1_01 (C : LinC r s0 a1 c2 a2 c3 a3 c4 a4) (hO : Hid (LinO O)) (HPQ : Hid (∀ c a d x w, Q0 (.panic c) (a.put d x) w → Q0 (.panic c) a w)) (hA : Hid (A0 = LinA M r s0 y)) (st2_01 : Hid (LinS2_01 w1 r O Q0 A0 s0 a1 c2 a2 c3 a3 c4 a4)) (st1_012 : Hid (LinS1_012 w1 r O Q0 A0 s0 a1 c2 a2 c3 a3 c4 a4)) (st1_013 : Hid (LinS1_013 w1 r O Q0 A0 s0 a1 c2 a2 c3 a3 c4 a4)) : Hid (LinS1_01 w1 r O Q0 A0 s0 a1 c2 a2 c3 a3 c4 a4) := hd (by
 have HCC := hd C
 clear C
 unfold LinS1_01
 have hlit := hO.out
 unfold LinO at hlit
 simp only [Tryd.f49, findR, Option.getD, if_true, if_false, Nat.reduceEqDiff] at hlit
 injection hlit with hlit
 have HLIT := hd hlit
 clear hlit hO
 intro w2 X0 X1 HC2 HX1
 rw [← HLIT.out, hA.out]
 unfold LinA
 try simp only [qq]
 refine rd3 13 17 22 (fun K hK => ?_) (fun K hK => ?_) (fun K hK => ?_)
 · go_simp
   refine words8_r Pr.tSeats (by decide) [r.f] 1 ⟨rfl, by decide⟩ HCC.out.k2 HX1 ?_
   refine hK.out _ _ HC2.out (fun hHeld => ?_)
   clear hK K
   try simp only [qq]
   rw [← HCC.out.e2]
   have g1 : ¬ 9223372036854775807 < a1.length + c2.length := by have h1 := HCC.out.l1; have h2 := HCC.out.m2; omega
   refine tk 14 ?vn0114 ?hyn0114 ?rsn0114 (hQ := fun _ _ _ h => HPQ.out _ _ _ _ _ h)
   case hyn0114 => (intro w9 hSw; go_simp; try with_reducible rfl)
   try simp only [qq]
   rw [str2, ← HCC.out.f2]
   have z := st2_01.out w2 X0 X1 HC2
   rw [← HLIT.out, hA.out] at z
   try simp only [qq]
   exact wpAnyH_act (by kernel_rfl) z
 · go_simp
   obtain ⟨w3, hw3⟩ : ∃ W, W = w2.alloc (.cells #[.int .i64 r.t] 3) := ⟨_, rfl⟩
   rw [← hw3]
   obtain ⟨Y, hY⟩ : ∃ X, X = w2.heap.size := ⟨_, rfl⟩
   rw [← hY]
   have HY : Hid (Blk w3 Y [.int .i64 r.t] 3) := hd (by rw [hw3, hY]; exact Blk.new w2 [.int .i64 r.t] _)
   have C3 : Hid (Chg [] w2 w3) := hd (by rw [hw3]; exact (Chg.refl _ _).alloc _)
   have HC3 : Hid (Chg [] w1 w3) := hd (HC2.out.trans C3.out (by simp))
   refine hK.out _ _ HC3.out (fun hHeld => ?_)
   clear hK K hw3 hY
   have z := st1_012.out w3 X0 X1 Y HC3 (hd (C3.out.blk HX1.out (by simp))) HY
   rw [← HLIT.out, hA.out] at z
   try simp only [qq]
   exact wpAnyH_act (by kernel_rfl) z
 · go_simp
   obtain ⟨w3, hw3⟩ : ∃ W, W = w2.alloc (.cells #[.int .i64 r.step] 3) := ⟨_, rfl⟩
   rw [← hw3]
   obtain ⟨Y, hY⟩ : ∃ X, X = w2.heap.size := ⟨_, rfl⟩
   rw [← hY]
   have HY : Hid (Blk w3 Y [.int .i64 r.step] 3) := hd (by rw [hw3, hY]; exact Blk.new w2 [.int .i64 r.step] _)
   have C3 : Hid (Chg [] w2 w3) := hd (by rw [hw3]; exact (Chg.refl _ _).alloc _)
   have HC3 : Hid (Chg [] w1 w3) := hd (HC2.out.trans C3.out (by simp))
   refine hK.out _ _ HC3.out (fun hHeld => ?_)
   clear hK K hw3 hY
   have z := st1_013.out w3 X0 X1 Y HC3 (hd (C3.out.blk HX1.out (by simp))) HY
   rw [← HLIT.out, hA.out] at z
   try simp only [qq]
   exact wpAnyH_act (by kernel_rfl) z)
set_option maxHeartbeats 4000000 in
set_option maxRecDepth 100000 in
theorem lins1_02 (C : LinC r s0 a1 c2 a2 c3 a3 c4 a4) (hO : Hid (LinO O)) (HPQ : Hid (∀ c a d x w, Q0 (.panic c) (a.put d x) w → Q0 (.panic c) a w)) (hA : Hid (A0 = LinA M r s0 y)) (st1_012 : Hid (LinS1_012 w1 r O Q0 A0 s0 a1 c2 a2 c3 a3 c4 a4)) (st1_023 : Hid (LinS1_023 w1 r O Q0 A0 s0 a1 c2 a2 c3 a3 c4 a4)) : Hid (LinS1_02 w1 r O Q0 A0 s0 a1 c2 a2 c3 a3 c4 a4) := hd (by
 have HCC := hd C
 clear C
 unfold LinS1_02
 have hlit := hO.out
 unfold LinO at hlit
 simp only [Tryd.f49, findR, Option.getD, if_true, if_false, Nat.reduceEqDiff] at hlit
 injection hlit with hlit
 have HLIT := hd hlit
 clear hlit hO
 intro w2 X0 X2 HC2 HX2
 rw [← HLIT.out, hA.out]
 unfold LinA
 try simp only [qq]
 refine rd2 12 22 (fun K hK => ?_) (fun K hK => ?_)
 · go_simp
   obtain ⟨w3, hw3⟩ : ∃ W, W = w2.alloc (.cells #[.int .i64 r.f] 3) := ⟨_, rfl⟩
   rw [← hw3]
   obtain ⟨Y, hY⟩ : ∃ X, X = w2.heap.size := ⟨_, rfl⟩
   rw [← hY]
   have HY : Hid (Blk w3 Y [.int .i64 r.f] 3) := hd (by rw [hw3, hY]; exact Blk.new w2 [.int .i64 r.f] _)
   have C3 : Hid (Chg [] w2 w3) := hd (by rw [hw3]; exact (Chg.refl _ _).alloc _)
   have HC3 : Hid (Chg [] w1 w3) := hd (HC2.out.trans C3.out (by simp))
   refine hK.out _ _ HC3.out (fun hHeld => ?_)
   clear hK K hw3 hY
   have z := st1_012.out w3 X0 Y X2 HC3 HY (hd (C3.out.blk HX2.out (by simp)))
   rw [← HLIT.out, hA.out] at z
   try simp only [qq]
   exact wpAnyH_act (by kernel_rfl) z
 · go_simp
   obtain ⟨w3, hw3⟩ : ∃ W, W = w2.alloc (.cells #[.int .i64 r.step] 3) := ⟨_, rfl⟩
   rw [← hw3]
   obtain ⟨Y, hY⟩ : ∃ X, X = w2.heap.size := ⟨_, rfl⟩
   rw [← hY]
   have HY : Hid (Blk w3 Y [.int .i64 r.step] 3) := hd (by rw [hw3, hY]; exact Blk.new w2 [.int .i64 r.step] _)
   have C3 : Hid (Chg [] w2 w3) := hd (by rw [hw3]; exact (Chg.refl _ _).alloc _)
   have HC3 : Hid (Chg [] w1 w3) := hd (HC2.out.trans C3.out (by simp))
   refine hK.out _ _ HC3.out (fun hHeld => ?_)
   clear hK K hw3 hY
   have z := st1_023.out w3 X0 X2 Y HC3 (hd (C3.out.blk HX2.out (by simp))) HY
   rw [← HLIT.out, hA.out] at z
   try simp only [qq]
   exact wpAnyH_act (by kernel_rfl) z)
set_option maxHeartbeats 4000000 in
set_option maxRecDepth 100000 in
theorem lins1_03 (C : LinC r s0 a1 c2 a2 c3 a3 c4 a4) (hO : Hid (LinO O)) (HPQ : Hid (∀ c a d x w, Q0 (.panic c) (a.put d x) w → Q0 (.panic c) a w)) (hA : Hid (A0 = LinA M r s0 y)) (st1_013 : Hid (LinS1_013 w1 r O Q0 A0 s0 a1 c2 a2 c3 a3 c4 a4)) (st1_023 : Hid (LinS1_023 w1 r O Q0 A0 s0 a1 c2 a2 c3 a3 c4 a4)) : Hid (LinS1_03 w1 r O Q0 A0 s0 a1 c2 a2 c3 a3 c4 a4) := hd (by
 have HCC := hd C
 clear C
 unfold LinS1_03
 have hlit := hO.out
 unfold LinO at hlit
 simp only [Tryd.f49, findR, Option.getD, if_true, if_false, Nat.reduceEqDiff] at hlit
 injection hlit with hlit
 have HLIT := hd hlit
 clear hlit hO
 intro w2 X0 X3 HC2 HX3
 rw [← HLIT.out, hA.out]
 unfold LinA
 try simp only [qq]
 refine rd2 12 17 (fun K hK => ?_) (fun K hK => ?_)
 · go_simp
   obtain ⟨w3, hw3⟩ : ∃ W, W = w2.alloc (.cells #[.int .i64 r.f] 3) := ⟨_, rfl⟩
   rw [← hw3]
   obtain ⟨Y, hY⟩ : ∃ X, X = w2.heap.size := ⟨_, rfl⟩
   rw [← hY]
   have HY : Hid (Blk w3 Y [.int .i64 r.f] 3) := hd (by rw [hw3, hY]; exact Blk.new w2 [.int .i64 r.f] _)
   have C3 : Hid (Chg [] w2 w3) := hd (by rw [hw3]; exact (Chg.refl _ _).alloc _)
   have HC3 : Hid (Chg [] w1 w3) := hd (HC2.out.trans C3.out (by simp))
   refine hK.out _ _ HC3.out (fun hHeld => ?_)
   clear hK K hw3 hY
   have z := st1_013.out w3 X0 Y X3 HC3 HY (hd (C3.out.blk HX3.out (by simp)))
   rw [← HLIT.out, hA.out] at z
   try simp only [qq]
   exact wpAnyH_act (by kernel_rfl) z
 · go_simp
   obtain ⟨w3, hw3⟩ : ∃ W, W = w2.alloc (.cells #[.int .i64 r.t] 3) := ⟨_, rfl⟩
   rw [← hw3]
   obtain ⟨Y, hY⟩ : ∃ X, X = w2.heap.size := ⟨_, rfl⟩
   rw [← hY]
   have HY : Hid (Blk w3 Y [.int .i64 r.t] 3) := hd (by rw [hw3, hY]; exact Blk.new w2 [.int .i64 r.t] _)
   have C3 : Hid (Chg [] w2 w3) := hd (by rw [hw3]; exact (Chg.refl _ _).alloc _)
   have HC3 : Hid (Chg [] w1 w3) := hd (HC2.out.trans C3.out (by simp))
   refine hK.out _ _ HC3.out (fun hHeld => ?_)
   clear hK K hw3 hY
   have z := st1_023.out w3 X0 Y X3 HC3 HY (hd (C3.out.blk HX3.out (by simp)))
   rw [← HLIT.out, hA.out] at z
   try simp only [qq]
   exact wpAnyH_act (by kernel_rfl) z)
set_option maxHeartbeats 4000000 in
set_option maxRecDepth 100000 in
theorem lins1_0 (C : LinC r s0 a1 c2 a2 c3 a3 c4 a4) (hO : Hid (LinO O)) (HPQ : Hid (∀ c a d x w, Q0 (.panic c) (a.put d x) w → Q0 (.panic c) a w)) (hA : Hid (A0 = LinA M r s0 y)) (st1_01 : Hid (LinS1_01 w1 r O Q0 A0 s0 a1 c2 a2 c3 a3 c4 a4)) (st1_02 : Hid (LinS1_02 w1 r O Q0 A0 s0 a1 c2 a2 c3 a3 c4 a4)) (st1_03 : Hid (LinS1_03 w1 r O Q0 A0 s0 a1 c2 a2 c3 a3 c4 a4)) : Hid (LinS1_0 w1 r O Q0 A0 s0 a1 c2 a2 c3 a3 c4 a4) := hd (by
 have HCC := hd C
 clear C
 unfold LinS1_0
 have hlit := hO.out
 unfold LinO at hlit
 simp only [Tryd.f49, findR, Option.getD, if_true, if_false, Nat.reduceEqDiff] at hlit
 injection hlit with hlit
 have HLIT := hd hlit
 clear hlit hO
 intro w2 X0 HC2
 rw [← HLIT.out, hA.out]
 unfold LinA
 try simp only [qq]
 refine rd3 12 17 22 (fun K hK => ?_) (fun K hK => ?_) (fun K hK => ?_)
 · go_simp
   obtain ⟨w3, hw3⟩ : ∃ W, W = w2.alloc (.cells #[.int .i64 r.f] 3) := ⟨_, rfl⟩
   rw [← hw3]
   obtain ⟨Y, hY⟩ : ∃ X, X = w2.heap.size := ⟨_, rfl⟩
   rw [← hY]
   have HY : Hid (Blk w3 Y [.int .i64 r.f] 3) := hd (by rw [hw3, hY]; exact Blk.new w2 [.int .i64 r.f] _)
   have C3 : Hid (Chg [] w2 w3) := hd (by rw [hw3]; exact (Chg.refl _ _).alloc _)
   have HC3 : Hid (Chg [] w1 w3) := hd (HC2.out.trans C3.out (by simp))
   refine hK.out _ _ HC3.out (fun hHeld => ?_)
   clear hK K hw3 hY
   have z := st1_01.out w3 X0 Y HC3 HY
   rw [← HLIT.out, hA.out] at z
   try simp only [qq]
   exact wpAnyH_act (by kernel_rfl) z
 · go_simp
   obtain ⟨w3, hw3⟩ : ∃ W, W = w2.alloc (.cells #[.int .i64 r.t] 3) := ⟨_, rfl⟩
   rw [← hw3]
   obtain ⟨Y, hY⟩ : ∃ X, X = w2.heap.size := ⟨_, rfl⟩
   rw [← hY]
   have HY : Hid (Blk w3 Y [.int .i64 r.t] 3) := hd (by rw [hw3, hY]; exact Blk.new w2 [.int .i64 r.t] _)
   have C3 : Hid (Chg [] w2 w3) := hd (by rw [hw3]; exact (Chg.refl _ _).alloc _)
   have HC3 : Hid (Chg [] w1 w3) := hd (HC2.out.trans C3.out (by simp))
   refine hK.out _ _ HC3.out (fun hHeld => ?_)
   clear hK K hw3 hY
   have z := st1_02.out w3 X0 Y HC3 HY
   rw [← HLIT.out, hA.out] at z
   try simp only [qq]
   exact wpAnyH_act (by kernel_rfl) z
 · go_simp
   obtain ⟨w3, hw3⟩ : ∃ W, W = w2.alloc (.cells #[.int .i64 r.step] 3) := ⟨_, rfl⟩
   rw [← hw3]
   obtain ⟨Y, hY⟩ : ∃ X, X = w2.heap.size := ⟨_, rfl⟩
   rw [← hY]
   have HY : Hid (Blk w3 Y [.int .i64 r.step] 3) := hd (by rw [hw3, hY]; exact Blk.new w2 [.int .i64 r.step] _)
   have C3 : Hid (Chg [] w2 w3) := hd (by rw [hw3]; exact (Chg.refl _ _).alloc _)
   have HC3 : Hid (Chg [] w1 w3) := hd (HC2.out.trans C3.out (by simp))
   refine hK.out _ _ HC3.out (fun hHeld => ?_)
   clear hK K hw3 hY
   have z := st1_03.out w3 X0 Y HC3 HY
   rw [← HLIT.out, hA.out] at z
   try simp only [qq]
   exact wpAnyH_act (by kernel_rfl) z)
set_option maxHeartbeats 4000000 in
set_option maxRecDepth 100000 in
theorem lins0_0123 (C : LinC r s0 a1 c2 a2 c3 a3 c4 a4) (hO : Hid (LinO O)) (HPQ : Hid (∀ c a d x w, Q0 (.panic c) (a.put d x) w → Q0 (.panic c) a w)) (hA : Hid (A0 = LinA M r s0 y)) (st1_0123 : Hid (LinS1_0123 w1 r O Q0 A0 s0 a1 c2 a2 c3 a3 c4 a4)) : Hid (LinS0_0123 w1 r O Q0 A0 s0 a1 c2 a2 c3 a3 c4 a4) := hd (by
 have HCC := hd C
 clear C
 unfold LinS0_0123
 have hlit := hO.out
 unfold LinO at hlit
 simp only [Tryd.f49, findR, Option.getD, if_true, if_false, Nat.reduceEqDiff] at hlit
 injection hlit with hlit
 have HLIT := hd hlit
 clear hlit hO
 intro w2 X0 X1 X2 X3 HC2 HX0 HX1 HX2 HX3
 rw [← HLIT.out, hA.out]
 unfold LinA
 try simp only [qq]
 refine rd1 9 (fun K hK => ?_)
 · go_simp
   refine words8_r s0 (by have := HCC.out.l0; omega) [r.x, r.y] 2 ⟨rfl, by decide⟩ HCC.out.k1 HX0 ?_
   refine hK.out _ _ HC2.out (fun hHeld => ?_)
   clear hK K
   try simp only [qq]
   rw [← HCC.out.e1]
   have z := st1_0123.out w2 X0 X1 X2 X3 HC2 HX1 HX2 HX3
   rw [← HLIT.out, hA.out] at z
   try simp only [qq]
   exact wpAnyH_act (by kernel_rfl) z)
set_option maxHeartbeats 4000000 in
set_option maxRecDepth 100000 in
theorem lins0_012 (C : LinC r s0 a1 c2 a2 c3 a3 c4 a4) (hO : Hid (LinO O)) (HPQ : Hid (∀ c a d x w, Q0 (.panic c) (a.put d x) w → Q0 (.panic c) a w)) (hA : Hid (A0 = LinA M r s0 y)) (st1_012 : Hid (LinS1_012 w1 r O Q0 A0 s0 a1 c2 a2 c3 a3 c4 a4)) (st0_0123 : Hid (LinS0_0123 w1 r O Q0 A0 s0 a1 c2 a2 c3 a3 c4 a4)) : Hid (LinS0_012 w1 r O Q0 A0 s0 a1 c2 a2 c3 a3 c4 a4) := hd (by
 have HCC := hd C
 clear C
 unfold LinS0_012
 have hlit := hO.out
 unfold LinO at hlit
 simp only [Tryd.f49, findR, Option.getD, if_true, if_false, Nat.reduceEqDiff] at hlit
 injection hlit with hlit
 have HLIT := hd hlit
 clear hlit hO
 intro w2 X0 X1 X2 HC2 HX0 HX1 HX2
 rw [← HLIT.out, hA.out]
 unfold LinA
 try simp only [qq]
 refine rd2 9 22 (fun K hK => ?_) (fun K hK => ?_)
 · go_simp
   refine words8_r s0 (by have := HCC.out.l0; omega) [r.x, r.y] 2 ⟨rfl, by decide⟩ HCC.out.k1 HX0 ?_
   refine hK.out _ _ HC2.out (fun hHeld => ?_)
   clear hK K
   try simp only [qq]
   rw [← HCC.out.e1]
   have z := st1_012.out w2 X0 X1 X2 HC2 HX1 HX2
   rw [← HLIT.out, hA.out] at z
   try simp only [qq]
   exact wpAnyH_act (by kernel_rfl) z
 · go_simp
   obtain ⟨w3, hw3⟩ : ∃ W, W = w2.alloc (.cells #[.int .i64 r.step] 3) := ⟨_, rfl⟩
   rw [← hw3]
   obtain ⟨Y, hY⟩ : ∃ X, X = w2.heap.size := ⟨_, rfl⟩
   rw [← hY]
   have HY : Hid (Blk w3 Y [.int .i64 r.step] 3) := hd (by rw [hw3, hY]; exact Blk.new w2 [.int .i64 r.step] _)
   have C3 : Hid (Chg [] w2 w3) := hd (by rw [hw3]; exact (Chg.refl _ _).alloc _)
   have HC3 : Hid (Chg [] w1 w3) := hd (HC2.out.trans C3.out (by simp))
   refine hK.out _ _ HC3.out (fun hHeld => ?_)
   clear hK K hw3 hY
   have z := st0_0123.out w3 X0 X1 X2 Y HC3 (hd (C3.out.blk HX0.out (by simp))) (hd (C3.out.blk HX1.out (by simp))) (hd (C3.out.blk HX2.out (by simp))) HY
   rw [← HLIT.out, hA.out] at z
   try simp only [qq]
   exact wpAnyH_act (by kernel_rfl) z)
set_option maxHeartbeats 4000000 in
set_option maxRecDepth 100000 in
theorem lins0_013 (C : LinC r s0 a1 c2 a2 c3 a3 c4 a4) (hO : Hid (LinO O)) (HPQ : Hid (∀ c a d x w, Q0 (.panic c) (a.put d x) w → Q0 (.panic c) a w)) (hA : Hid (A0 = LinA M r s0 y)) (st1_013 : Hid (LinS1_013 w1 r O Q0 A0 s0 a1 c2 a2 c3 a3 c4 a4)) (st0_0123 : Hid (LinS0_0123 w1 r O Q0 A0 s0 a1 c2 a2 c3 a3 c4 a4)) : Hid (LinS0_013 w1 r O Q0 A0 s0 a1 c2 a2 c3 a3 c4 a4) := hd (by
 have HCC := hd C
 clear C
 unfold LinS0_013
 have hlit := hO.out
 unfold LinO at hlit
 simp only [Tryd.f49, findR, Option.getD, if_true, if_false, Nat.reduceEqDiff] at hlit
 injection hlit with hlit
 have HLIT := hd hlit
 clear hlit hO
 intro w2 X0 X1 X3 HC2 HX0 HX1 HX3
 rw [← HLIT.out, hA.out]
 unfold LinA
 try simp only [qq]
 refine rd2 9 17 (fun K hK => ?_) (fun K hK => ?_)
 · go_simp
   refine words8_r s0 (by have := HCC.out.l0; omega) [r.x, r.y] 2 ⟨rfl, by decide⟩ HCC.out.k1 HX0 ?_
   refine hK.out _ _ HC2.out (fun hHeld => ?_)
   clear hK K
   try simp only [qq]
   rw [← HCC.out.e1]
   have z := st1_013.out w2 X0 X1 X3 HC2 HX1 HX3
   rw [← HLIT.out, hA.out] at z
   try simp only [qq]
   exact wpAnyH_act (by kernel_rfl) z
 · go_simp
   obtain ⟨w3, hw3⟩ : ∃ W, W = w2.alloc (.cells #[.int .i64 r.t] 3) := ⟨_, rfl⟩
   rw [← hw3]
   obtain ⟨Y, hY⟩ : ∃ X, X = w2.heap.size := ⟨_, rfl⟩
   rw [← hY]
   have HY : Hid (Blk w3 Y [.int .i64 r.t] 3) := hd (by rw [hw3, hY]; exact Blk.new w2 [.int .i64 r.t] _)
   have C3 : Hid (Chg [] w2 w3) := hd (by rw [hw3]; exact (Chg.refl _ _).alloc _)
   have HC3 : Hid (Chg [] w1 w3) := hd (HC2.out.trans C3.out (by simp))
   refine hK.out _ _ HC3.out (fun hHeld => ?_)
   clear hK K hw3 hY
   have z := st0_0123.out w3 X0 X1 Y X3 HC3 (hd (C3.out.blk HX0.out (by simp))) (hd (C3.out.blk HX1.out (by simp))) HY (hd (C3.out.blk HX3.out (by simp)))
   rw [← HLIT.out, hA.out] at z
   try simp only [qq]
   exact wpAnyH_act (by kernel_rfl) z)
set_option maxHeartbeats 4000000 in
set_option maxRecDepth 100000 in
theorem lins0_023 (C : LinC r s0 a1 c2 a2 c3 a3 c4 a4) (hO : Hid (LinO O)) (HPQ : Hid (∀ c a d x w, Q0 (.panic c) (a.put d x) w → Q0 (.panic c) a w)) (hA : Hid (A0 = LinA M r s0 y)) (st1_023 : Hid (LinS1_023 w1 r O Q0 A0 s0 a1 c2 a2 c3 a3 c4 a4)) (st0_0123 : Hid (LinS0_0123 w1 r O Q0 A0 s0 a1 c2 a2 c3 a3 c4 a4)) : Hid (LinS0_023 w1 r O Q0 A0 s0 a1 c2 a2 c3 a3 c4 a4) := hd (by
 have HCC := hd C
 clear C
 unfold LinS0_023
 have hlit := hO.out
 unfold LinO at hlit
 simp only [Tryd.f49, findR, Option.getD, if_true, if_false, Nat.reduceEqDiff] at hlit
 injection hlit with hlit
 have HLIT := hd hlit
 clear hlit hO
 intro w2 X0 X2 X3 HC2 HX0 HX2 HX3
 rw [← HLIT.out, hA.out]
 unfold LinA
 try simp only [qq]
 refine rd2 9 12 (fun K hK => ?_) (fun K hK => ?_)
 · go_simp
   refine words8_r s0 (by have := HCC.out.l0; omega) [r.x, r.y] 2 ⟨rfl, by decide⟩ HCC.out.k1 HX0 ?_
   refine hK.out _ _ HC2.out (fun hHeld => ?_)
   clear hK K
   try simp only [qq]
   rw [← HCC.out.e1]
   have z := st1_023.out w2 X0 X2 X3 HC2 HX2 HX3
   rw [← HLIT.out, hA.out] at z
   try simp only [qq]
   exact wpAnyH_act (by kernel_rfl) z
 · go_simp
   obtain ⟨w3, hw3⟩ : ∃ W, W = w2.alloc (.cells #[.int .i64 r.f] 3) := ⟨_, rfl⟩
   rw [← hw3]
   obtain ⟨Y, hY⟩ : ∃ X, X = w2.heap.size := ⟨_, rfl⟩
   rw [← hY]
   have HY : Hid (Blk w3 Y [.int .i64 r.f] 3) := hd (by rw [hw3, hY]; exact Blk.new w2 [.int .i64 r.f] _)
   have C3 : Hid (Chg [] w2 w3) := hd (by rw [hw3]; exact (Chg.refl _ _).alloc _)
   have HC3 : Hid (Chg [] w1 w3) := hd (HC2.out.trans C3.out (by simp))
   refine hK.out _ _ HC3.out (fun hHeld => ?_)
   clear hK K hw3 hY
   have z := st0_0123.out w3 X0 Y X2 X3 HC3 (hd (C3.out.blk HX0.out (by simp))) HY (hd (C3.out.blk HX2.out (by simp))) (hd (C3.out.blk HX3.out (by simp)))
   rw [← HLIT.out, hA.out] at z
   try simp only [qq]
   exact wpAnyH_act (by kernel_rfl) z)
set_option maxHeartbeats 4000000 in
set_option maxRecDepth 100000 in
theorem lins0_123 (C : LinC r s0 a1 c2 a2 c3 a3 c4 a4) (hO : Hid (LinO O)) (HPQ : Hid (∀ c a d x w, Q0 (.panic c) (a.put d x) w → Q0 (.panic c) a w)) (hA : Hid (A0 = LinA M r s0 y)) (st0_0123 : Hid (LinS0_0123 w1 r O Q0 A0 s0 a1 c2 a2 c3 a3 c4 a4)) : Hid (LinS0_123 w1 r O Q0 A0 s0 a1 c2 a2 c3 a3 c4 a4) := hd (by
 have HCC := hd C
 clear C
 unfold LinS0_123
 have hlit := hO.out
 unfold LinO at hlit
 simp only [Tryd.f49, findR, Option.getD, if_true, if_false, Nat.reduceEqDiff] at hlit
 injection hlit with hlit
 have HLIT := hd hlit
 clear hlit hO
 intro w2 X1 X2 X3 HC2 HX1 HX2 HX3
 rw [← HLIT.out, hA.out]
 unfold LinA
 try simp only [qq]
 refine rd1 8 (fun K hK => ?_)
 · go_simp
   obtain ⟨w3, hw3⟩ : ∃ W, W = w2.alloc (.cells #[.int .i64 r.x, .int .i64 r.y] 3) := ⟨_, rfl⟩
   rw [← hw3]
   obtain ⟨Y, hY⟩ : ∃ X, X = w2.heap.size := ⟨_, rfl⟩
   rw [← hY]
   have HY : Hid (Blk w3 Y [.int .i64 r.x, .int .i64 r.y] 3) := hd (by rw [hw3, hY]; exact Blk.new w2 [.int .i64 r.x, .int .i64 r.y] _)
   have C3 : Hid (Chg [] w2 w3) := hd (by rw [hw3]; exact (Chg.refl _ _).alloc _)
   have HC3 : Hid (Chg [] w1 w3) := hd (HC2.out.trans C3.out (by simp))
   refine hK.out _ _ HC3.out (fun hHeld => ?_)
   clear hK K hw3 hY
   have z := st0_0123.out w3 Y X1 X2 X3 HC3 HY (hd (C3.out.blk HX1.out (by simp))) (hd (C3.out.blk HX2.out (by simp))) (hd (C3.out.blk HX3.out (by simp)))
   rw [← HLIT.out, hA.out] at z
   try simp only [qq]
   exact wpAnyH_act (by kernel_rfl) z)
set_option maxHeartbeats 4000000 in
set_option maxRecDepth 100000 in
theorem lins0_01 (C : LinC r s0 a1 c2 a2 c3 a3 c4 a4) (hO : Hid (LinO O)) (HPQ : Hid (∀ c a d x w, Q0 (.panic c) (a.put d x) w → Q0 (.panic c) a w)) (hA : Hid (A0 = LinA M r s0 y)) (st1_01 : Hid (LinS1_01 w1 r O Q0 A0 s0 a1 c2 a2 c3 a3 c4 a4)) (st0_012 : Hid (LinS0_012 w1 r O Q0 A0 s0 a1 c2 a2 c3 a3 c4 a4)) (st0_013 : Hid (LinS0_013 w1 r O Q0 A0 s0 a1 c2 a2 c3 a3 c4 a4)) : Hid (LinS0_01 w1 r O Q0 A0 s0 a1 c2 a2 c3 a3 c4 a4) := hd (by
 have HCC := hd C
 clear C
 unfold LinS0_01
 have hlit := hO.out
 unfold LinO at hlit
 simp only [Tryd.f49, findR, Option.getD, if_true, if_false, Nat.reduceEqDiff] at hlit
 injection hlit with hlit
 have HLIT := hd hlit
 clear hlit hO
 intro w2 X0 X1 HC2 HX0 HX1
 rw [← HLIT.out, hA.out]
 unfold LinA
 try simp only [qq]
 refine rd3 9 17 22 (fun K hK => ?_) (fun K hK => ?_) (fun K hK => ?_)
 · go_simp
   refine words8_r s0 (by have := HCC.out.l0; omega) [r.x, r.y] 2 ⟨rfl, by decide⟩ HCC.out.k1 HX0 ?_
   refine hK.out _ _ HC2.out (fun hHeld => ?_)
   clear hK K
   try simp only [qq]
   rw [← HCC.out.e1]
   have z := st1_01.out w2 X0 X1 HC2 HX1
   rw [← HLIT.out, hA.out] at z
   try simp only [qq]
   exact wpAnyH_act (by kernel_rfl) z
 · go_simp
   obtain ⟨w3, hw3⟩ : ∃ W, W = w2.alloc (.cells #[.int .i64 r.t] 3) := ⟨_, rfl⟩
   rw [← hw3]
   obtain ⟨Y, hY⟩ : ∃ X, X = w2.heap.size := ⟨_, rfl⟩
   rw [← hY]
   have HY : Hid (Blk w3 Y [.int .i64 r.t] 3) := hd (by rw [hw3, hY]; exact Blk.new w2 [.int .i64 r.t] _)
   have C3 : Hid (Chg [] w2 w3) := hd (by rw [hw3]; exact (Chg.refl _ _).alloc _)
   have HC3 : Hid (Chg [] w1 w3) := hd (HC2.out.trans C3.out (by simp))
   refine hK.out _ _ HC3.out (fun hHeld => ?_)
   clear hK K hw3 hY
   have z := st0_012.out w3 X0 X1 Y HC3 (hd (C3.out.blk HX0.out (by simp))) (hd (C3.out.blk HX1.out (by simp))) HY
   rw [← HLIT.out, hA.out] at z
   try simp only [qq]
   exact wpAnyH_act (by kernel_rfl) z
 · go_simp
   obtain ⟨w3, hw3⟩ : ∃ W, W = w2.alloc (.cells #[.int .i64 r.step] 3) := ⟨_, rfl⟩
   rw [← hw3]
   obtain ⟨Y, hY⟩ : ∃ X, X = w2.heap.size := ⟨_, rfl⟩
   rw [← hY]
   have HY : Hid (Blk w3 Y [.int .i64 r.step] 3) := hd (by rw [hw3, hY]; exact Blk.new w2 [.int .i64 r.step] _)
   have C3 : Hid (Chg [] w2 w3) := hd (by rw [hw3]; exact (Chg.refl _ _).alloc _)
   have HC3 : Hid (Chg [] w1 w3) := hd (HC2.out.trans C3.out (by simp))
   refine hK.out _ _ HC3.out (fun hHeld => ?_)
   clear hK K hw3 hY
   have z := st0_013.out w3 X0 X1 Y HC3 (hd (C3.out.blk HX0.out (by simp))) (hd (C3.out.blk HX1.out (by simp))) HY
   rw [← HLIT.out, hA.out] at z
   try simp only [qq]
   exact wpAnyH_act (by kernel_rfl) z)
set_option maxHeartbeats 4000000 in
set_option maxRecDepth 100000 in
theorem lins0_02 (C : LinC r s0 a1 c2 a2 c3 a3 c4 a4) (hO : Hid (LinO O)) (HPQ : Hid (∀ c a d x w, Q0 (.panic c) (a.put d x) w → Q0 (.panic c) a w)) (hA : Hid (A0 = LinA M r s0 y)) (st1_02 : Hid (LinS1_02 w1 r O Q0 A0 s0 a1 c2 a2 c3 a3 c4 a4)) (st0_012 : Hid (LinS0_012 w1 r O Q0 A0 s0 a1 c2 a2 c3 a3 c4 a4)) (st0_023 : Hid (LinS0_023 w1 r O Q0 A0 s0 a1 c2 a2 c3 a3 c4 a4)) : Hid (LinS0_02 w1 r O Q0 A0 s0 a1 c2 a2 c3 a3 c4 a4) := hd (by
 have HCC := hd C
 clear C
 unfold LinS0_02
 have hlit := hO.out
 unfold LinO at hlit
 simp only [Tryd.f49, findR, Option.getD, if_true, if_false, Nat.reduceEqDiff] at hlit
 injection hlit with hlit
 have HLIT := hd hlit
 clear hlit hO
 intro w2 X0 X2 HC2 HX0 HX2
 rw [← HLIT.out, hA.out]
 unfold LinA
 try simp only [qq]
 refine rd3 9 12 22 (fun K hK => ?_) (fun K hK => ?_) (fun K hK => ?_)
 · go_simp
   refine words8_r s0 (by have := HCC.out.l0; omega) [r.x, r.y] 2 ⟨rfl, by decide⟩ HCC.out.k1 HX0 ?_
   refine hK.out _ _ HC2.out (fun hHeld => ?_)
   clear hK K
   try simp only [qq]
   rw [← HCC.out.e1]
   have z := st1_02.out w2 X0 X2 HC2 HX2
   rw [← HLIT.out, hA.out] at z
   try simp only [qq]
   exact wpAnyH_act (by kernel_rfl) z
 · go_simp
   obtain ⟨w3, hw3⟩ : ∃ W, W = w2.alloc (.cells #[.int .i64 r.f] 3) := ⟨_, rfl⟩
   rw [← hw3]
   obtain ⟨Y, hY⟩ : ∃ X, X = w2.heap.size := ⟨_, rfl⟩
   rw [← hY]
   have HY : Hid (Blk w3 Y [.int .i64 r.f] 3) := hd (by rw [hw3, hY]; exact Blk.new w2 [.int .i64 r.f] _)
   have C3 : Hid (Chg [] w2 w3) := hd (by rw [hw3]; exact (Chg.refl _ _).alloc _)
   have HC3 : Hid (Chg [] w1 w3) := hd (HC2.out.trans C3.out (by simp))
   refine hK.out _ _ HC3.out (fun hHeld => ?_)
   clear hK K hw3 hY
   have z := st0_012.out w3 X0 Y X2 HC3 (hd (C3.out.blk HX0.out (by simp))) HY (hd (C3.out.blk HX2.out (by simp)))
   rw [← HLIT.out, hA.out] at z
   try simp only [qq]
   exact wpAnyH_act (by kernel_rfl) z
 · go_simp
   obtain ⟨w3, hw3⟩ : ∃ W, W = w2.alloc (.cells #[.int .i64 r.step] 3) := ⟨_, rfl⟩
   rw [← hw3]
   obtain ⟨Y, hY⟩ : ∃ X, X = w2.heap.size := ⟨_, rfl⟩
   rw [← hY]
   have HY : Hid (Blk w3 Y [.int .i64 r.step] 3) := hd (by rw [hw3, hY]; exact Blk.new w2 [.int .i64 r.step] _)
   have C3 : Hid (Chg [] w2 w3) := hd (by rw [hw3]; exact (Chg.refl _ _).alloc _)
   have HC3 : Hid (Chg [] w1 w3) := hd (HC2.out.trans C3.out (by simp))
   refine hK.out _ _ HC3.out (fun hHeld => ?_)
   clear hK K hw3 hY
   have z := st0_023.out w3 X0 X2 Y HC3 (hd (C3.out.blk HX0.out (by simp))) (hd (C3.out.blk HX2.out (by simp))) HY
   rw [← HLIT.out, hA.out] at z
   try simp only [qq]
   exact wpAnyH_act (by kernel_rfl) z)
set_option maxHeartbeats 4000000 in
set_option maxRecDepth 100000 in
theorem lins0_03 (C : LinC r s0 a1 c2 a2 c3 a3 c4 a4) (hO : Hid (LinO O)) (HPQ : Hid (∀ c a d x w, Q0 (.panic c) (a.put d x) w → Q0 (.panic c) a w)) (hA : Hid (A0 = LinA M r s0 y)) (st1_03 : Hid (LinS1_03 w1 r O Q0 A0 s0 a1 c2 a2 c3 a3 c4 a4)) (st0_013 : Hid (LinS0_013 w1 r O Q0 A0 s0 a1 c2 a2 c3 a3 c4 a4)) (st0_023 : Hid (LinS0_023 w1 r O Q0 A0 s0 a1 c2 a2 c3 a3 c4 a4)) : Hid (LinS0_03 w1 r O Q0 A0 s0 a1 c2 a2 c3 a3 c4 a4) := hd (by
 have HCC := hd C
 clear C
 unfold LinS0_03
 have hlit := hO.out
 unfold LinO at hlit
 simp only [Tryd.f49, findR, Option.getD, if_true, if_false, Nat.reduceEqDiff] at hlit
 injection hlit with hlit
 have HLIT := hd hlit
 clear hlit hO
 intro w2 X0 X3 HC2 HX0 HX3
 rw [← HLIT.out, hA.out]
 unfold LinA
 try simp only [qq]
 refine rd3 9 12 17 (fun K hK => ?_) (fun K hK => ?_) (fun K hK => ?_)
 · go_simp
   refine words8_r s0 (by have := HCC.out.l0; omega) [r.x, r.y] 2 ⟨rfl, by decide⟩ HCC.out.k1 HX0 ?_
   refine hK.out _ _ HC2.out (fun hHeld => ?_)
   clear hK K
   try simp only [qq]
   rw [← HCC.out.e1]
   have z := st1_03.out w2 X0 X3 HC2 HX3
   rw [← HLIT.out, hA.out] at z
   try simp only [qq]
   exact wpAnyH_act (by kernel_rfl) z
 · go_simp
   obtain ⟨w3, hw3⟩ : ∃ W, W = w2.alloc (.cells #[.int .i64 r.f] 3) := ⟨_, rfl⟩
   rw [← hw3]
   obtain ⟨Y, hY⟩ : ∃ X, X = w2.heap.size := ⟨_, rfl⟩
   rw [← hY]
   have HY : Hid (Blk w3 Y [.int .i64 r.f] 3) := hd (by rw [hw3, hY]; exact Blk.new w2 [.int .i64 r.f] _)
   have C3 : Hid (Chg [] w2 w3) := hd (by rw [hw3]; exact (Chg.refl _ _).alloc _)
   have HC3 : Hid (Chg [] w1 w3) := hd (HC2.out.trans C3.out (by simp))
   refine hK.out _ _ HC3.out (fun hHeld => ?_)
   clear hK K hw3 hY
   have z := st0_013.out w3 X0 Y X3 HC3 (hd (C3.out.blk HX0.out (by simp))) HY (hd (C3.out.blk HX3.out (by simp)))
   rw [← HLIT.out, hA.out] at z
   try simp only [qq]
   exact wpAnyH_act (by kernel_rfl) z
 · go_simp
   obtain ⟨w3, hw3⟩ : ∃ W, W = w2.alloc (.cells #[.int .i64 r.t] 3) := ⟨_, rfl⟩
   rw [← hw3]
   obtain ⟨Y, hY⟩ : ∃ X, X = w2.heap.size := ⟨_, rfl⟩
   rw [← hY]
   have HY : Hid (Blk w3 Y [.int .i64 r.t] 3) := hd (by rw [hw3, hY]; exact Blk.new w2 [.int .i64 r.t] _)
   have C3 : Hid (Chg [] w2 w3) := hd (by rw [hw3]; exact (Chg.refl _ _).alloc _)
   have HC3 : Hid (Chg [] w1 w3) := hd (HC2.out.trans C3.out (by simp))
   refine hK.out _ _ HC3.out (fun hHeld => ?_)
   clear hK K hw3 hY
   have z := st0_023.out w3 X0 Y X3 HC3 (hd (C3.out.blk HX0.out (by simp))) HY (hd (C3.out.blk HX3.out (by simp)))
   rw [← HLIT.out, hA.out] at z
   try simp only [qq]
   exact wpAnyH_act (by kernel_rfl) z)
set_option maxHeartbeats 4000000 in
set_option maxRecDepth 100000 in
theorem lins0_12 (C : LinC r s0 a1 c2 a2 c3 a3 c4 a4) (hO : Hid (LinO O)) (HPQ : Hid (∀ c a d x w, Q0 (.panic c) (a.put d x) w → Q0 (.panic c) a w)) (hA : Hid (A0 = LinA M r s0 y)) (st0_012 : Hid (LinS0_012 w1 r O Q0 A0 s0 a1 c2 a2 c3 a3 c4 a4)) (st0_123 : Hid (LinS0_123 w1 r O Q0 A0 s0 a1 c2 a2 c3 a3 c4 a4)) : Hid (LinS0_12 w1 r O Q0 A0 s0 a1 c2 a2 c3 a3 c4 a4) := hd (by
 have HCC := hd C
 clear C
 unfold LinS0_12
 have hlit := hO.out
 unfold LinO at hlit
 simp only [Tryd.f49, findR, Option.getD, if_true, if_false, Nat.reduceEqDiff] at hlit
 injection hlit with hlit
 have HLIT := hd hlit
 clear hlit hO
 intro w2 X1 X2 HC2 HX1 HX2
 rw [← HLIT.out, hA.out]
 unfold LinA
 try simp only [qq]
 refine rd2 8 22 (fun K hK => ?_) (fun K hK => ?_)
 · go_simp
   obtain ⟨w3, hw3⟩ : ∃ W, W = w2.alloc (.cells #[.int .i64 r.x, .int .i64 r.y] 3) := ⟨_, rfl⟩
   rw [← hw3]
   obtain ⟨Y, hY⟩ : ∃ X, X = w2.heap.size := ⟨_, rfl⟩
   rw [← hY]
   have HY : Hid (Blk w3 Y [.int .i64 r.x, .int .i64 r.y] 3) := hd (by rw [hw3, hY]; exact Blk.new w2 [.int .i64 r.x, .int .i64 r.y] _)
   have C3 : Hid (Chg [] w2 w3) := hd (by rw [hw3]; exact (Chg.refl _ _).alloc _)
   have HC3 : Hid (Chg [] w1 w3) := hd (HC2.out.trans C3.out (by simp))
   refine hK.out _ _ HC3.out (fun hHeld => ?_)
   clear hK K hw3 hY
   have z := st0_012.out w3 Y X1 X2 HC3 HY (hd (C3.out.blk HX1.out (by simp))) (hd (C3.out.blk HX2.out (by simp)))
   rw [← HLIT.out, hA.out] at z
   try simp only [qq]
   exact wpAnyH_act (by kernel_rfl) z
 · go_simp
   obtain ⟨w3, hw3⟩ : ∃ W, W = w2.alloc (.cells #[.int .i64 r.step] 3) := ⟨_, rfl⟩
   rw [← hw3]
   obtain ⟨Y, hY⟩ : ∃ X, X = w2.heap.size := ⟨_, rfl⟩
   rw [← hY]
   have HY : Hid (Blk w3 Y [.int .i64 r.step] 3) := hd (by rw [hw3, hY]; exact Blk.new w2 [.int .i64 r.step] _)
   have C3 : Hid (Chg [] w2 w3) := hd (by rw [hw3]; exact (Chg.refl _ _).alloc _)
   have HC3 : Hid (Chg [] w1 w3) := hd (HC2.out.trans C3.out (by simp))
   refine hK.out _ _ HC3.out (fun hHeld => ?_)
   clear hK K hw3 hY
   have z := st0_123.out w3 X1 X2 Y HC3 (hd (C3.out.blk HX1.out (by simp))) (hd (C3.out.blk HX2.out (by simp))) HY
   rw [← HLIT.out, hA.out] at z
   try simp only [qq]
   exact wpAnyH_act (by kernel_rfl) z)
set_option maxHeartbeats 4000000 in
set_option maxRecDepth 100000 in
theorem lins0_13 (C : LinC r s0 a1 c2 a2 c3 a3 c4 a4) (hO : Hid (LinO O)) (HPQ : Hid (∀ c a d x w, Q0 (.panic c) (a.put d x) w → Q0 (.panic c) a w)) (hA : Hid (A0 = LinA M r s0 y)) (st0_013 : Hid (LinS0_013 w1 r O Q0 A0 s0 a1 c2 a2 c3 a3 c4 a4)) (st0_123 : Hid (LinS0_123 w1 r O Q0 A0 s0 a1 c2 a2 c3 a3 c4 a4)) : Hid (LinS0_13 w1 r O Q0 A0 s0 a1 c2 a2 c3 a3 c4 a4) := hd (by
 have HCC := hd C
 clear C
 unfold LinS0_13
 have hlit := hO.out
 unfold LinO at hlit
 simp only [Tryd.f49, findR, Option.getD, if_true, if_false, Nat.reduceEqDiff] at hlit
 injection hlit with hlit
 have HLIT := hd hlit
 clear hlit hO
 intro w2 X1 X3 HC2 HX1 HX3
 rw [← HLIT.out, hA.out]
 unfold LinA
 try simp only [qq]
 refine rd2 8 17 (fun K hK => ?_) (fun K hK => ?_)
 · go_simp
   obtain ⟨w3, hw3⟩ : ∃ W, W = w2.alloc (.cells #[.int .i64 r.x, .int .i64 r.y] 3) := ⟨_, rfl⟩
   rw [← hw3]
   obtain ⟨Y, hY⟩ : ∃ X, X = w2.heap.size := ⟨_, rfl⟩
   rw [← hY]
   have HY : Hid (Blk w3 Y [.int .i64 r.x, .int .i64 r.y] 3) := hd (by rw [hw3, hY]; exact Blk.new w2 [.int .i64 r.x, .int .i64 r.y] _)
   have C3 : Hid (Chg [] w2 w3) := hd (by rw [hw3]; exact (Chg.refl _ _).alloc _)
   have HC3 : Hid (Chg [] w1 w3) := hd (HC2.out.trans C3.out (by simp))
   refine hK.out _ _ HC3.out (fun hHeld => ?_)
   clear hK K hw3 hY
   have z := st0_013.out w3 Y X1 X3 HC3 HY (hd (C3.out.blk HX1.out (by simp))) (hd (C3.out.blk HX3.out (by simp)))
   rw [← HLIT.out, hA.out] at z
   try simp only [qq]
   exact wpAnyH_act (by kernel_rfl) z
 · go_simp
   obtain ⟨w3, hw3⟩ : ∃ W, W = w2.alloc (.cells #[.int .i64 r.t] 3) := ⟨_, rfl⟩
   rw [← hw3]
   obtain ⟨Y, hY⟩ : ∃ X, X = w2.heap.size := ⟨_, rfl⟩
   rw [← hY]
   have HY : Hid (Blk w3 Y [.int .i64 r.t] 3) := hd (by rw [hw3, hY]; exact Blk.new w2 [.int .i64 r.t] _)
   have C3 : Hid (Chg [] w2 w3) := hd (by rw [hw3]; exact (Chg.refl _ _).alloc _)
   have HC3 : Hid (Chg [] w1 w3) := hd (HC2.out.trans C3.out (by simp))
   refine hK.out _ _ HC3.out (fun hHeld => ?_)
   clear hK K hw3 hY
   have z := st0_123.out w3 X1 Y X3 HC3 (hd (C3.out.blk HX1.out (by simp))) HY (hd (C3.out.blk HX3.out (by simp)))
   rw [← HLIT.out, hA.out] at z
   try simp only [qq]
   exact wpAnyH_act (by kernel_rfl) z)
set_option maxHeartbeats 4000000 in
set_option maxRecDepth 100000 in
theorem lins0_23 (C : LinC r s0 a1 c2 a2 c3 a3 c4 a4) (hO : Hid (LinO O)) (HPQ : Hid (∀ c a d x w, Q0 (.panic c) (a.put d x) w → Q0 (.panic c) a w)) (hA : Hid (A0 = LinA M r s0 y)) (st0_023 : Hid (LinS0_023 w1 r O Q0 A0 s0 a1 c2 a2 c3 a3 c4 a4)) (st0_123 : Hid (LinS0_123 w1 r O Q0 A0 s0 a1 c2 a2 c3 a3 c4 a4)) : Hid (LinS0_23 w1 r O Q0 A0 s0 a1 c2 a2 c3 a3 c4 a4) := hd (by
 have HCC := hd C
 clear C
 unfold LinS0_23
 have hlit := hO.out
 unfold LinO at hlit
 simp only [Tryd.f49, findR, Option.getD, if_true, if_false, Nat.reduceEqDiff] at hlit
 injection hlit with hlit
 have HLIT := hd hlit
 clear hlit hO
 intro w2 X2 X3 HC2 HX2 HX3
 rw [← HLIT.out, hA.out]
 unfold LinA
 try simp only [qq]
 refine rd2 8 12 (fun K hK => ?_) (fun K hK => ?_)
 · go_simp
   obtain ⟨w3, hw3⟩ : ∃ W, W = w2.alloc (.cells #[.int .i64 r.x, .int .i64 r.y] 3) := ⟨_, rfl⟩
   rw [← hw3]
   obtain ⟨Y, hY⟩ : ∃ X, X = w2.heap.size := ⟨_, rfl⟩
   rw [← hY]
   have HY : Hid (Blk w3 Y [.int .i64 r.x, .int .i64 r.y] 3) := hd (by rw [hw3, hY]; exact Blk.new w2 [.int .i64 r.x, .int .i64 r.y] _)
   have C3 : Hid (Chg [] w2 w3) := hd (by rw [hw3]; exact (Chg.refl _ _).alloc _)
   have HC3 : Hid (Chg [] w1 w3) := hd (HC2.out.trans C3.out (by simp))
   refine hK.out _ _ HC3.out (fun hHeld => ?_)
   clear hK K hw3 hY
   have z := st0_023.out w3 Y X2 X3 HC3 HY (hd (C3.out.blk HX2.out (by simp))) (hd (C3.out.blk HX3.out (by simp)))
   rw [← HLIT.out, hA.out] at z
   try simp only [qq]
   exact wpAnyH_act (by kernel_rfl) z
 · go_simp
   obtain ⟨w3, hw3⟩ : ∃ W, W = w2.alloc (.cells #[.int .i64 r.f] 3) := ⟨_, rfl⟩
   rw [← hw3]
   obtain ⟨Y, hY⟩ : ∃ X, X = w2.heap.size := ⟨_, rfl⟩
   rw [← hY]
   have HY : Hid (Blk w3 Y [.int .i64 r.f] 3) := hd (by rw [hw3, hY]; exact Blk.new w2 [.int .i64 r.f] _)
   have C3 : Hid (Chg [] w2 w3) := hd (by rw [hw3]; exact (Chg.refl _ _).alloc _)
   have HC3 : Hid (Chg [] w1 w3) := hd (HC2.out.trans C3.out (by simp))
   refine hK.out _ _ HC3.out (fun hHeld => ?_)
   clear hK K hw3 hY
   have z := st0_123.out w3 Y X2 X3 HC3 HY (hd (C3.out.blk HX2.out (by simp))) (hd (C3.out.blk HX3.out (by simp)))
   rw [← HLIT.out, hA.out] at z
   try simp only [qq]
   exact wpAnyH_act (by kernel_rfl) z)
set_option maxHeartbeats 4000000 in
set_option maxRecDepth 100000 in
theorem lins0_0 (C : LinC r s0 a1 c2 a2 c3 a3 c4 a4) (hO : Hid (LinO O)) (HPQ : Hid (∀ c a d x w, Q0 (.panic c) (a.put d x) w → Q0 (.panic c) a w)) (hA : Hid (A0 = LinA M r s0 y)) (st1_0 : Hid (LinS1_0 w1 r O Q0 A0 s0 a1 c2 a2 c3 a3 c4 a4)) (st0_01 : Hid (LinS0_01 w1 r O Q0 A0 s0 a1 c2 a2 c3 a3 c4 a4)) (st0_02 : Hid (LinS0_02 w1 r O Q0 A0 s0 a1 c2 a2 c3 a3 c4 a4)) (st0_03 : Hid (LinS0_03 w1 r O Q0 A0 s0 a1 c2 a2 c3 a3 c4 a4)) : Hid (LinS0_0 w1 r O Q0 A0 s0 a1 c2 a2 c3 a3 c4 a4) := hd (by
 have HCC := hd C
 clear C
 unfold LinS0_0
 have hlit := hO.out
 unfold LinO at hlit
 simp only [Tryd.f49, findR, Option.getD, if_true, if_false, Nat.reduceEqDiff] at hlit
 injection hlit with hlit
 have HLIT := hd hlit
 clear hlit hO
 intro w2 X0 HC2 HX0
 rw [← HLIT.out, hA.out]
 unfold LinA
 try simp only [qq]
 refine rd4 9 12 17 22 (fun K hK => ?_) (fun K hK => ?_) (fun K hK => ?_) (fun K hK => ?_)
 · go_simp
   refine words8_r s0 (by have := HCC.out.l0; omega) [r.x, r.y] 2 ⟨rfl, by decide⟩ HCC.out.k1 HX0 ?_
   refine hK.out _ _ HC2.out (fun hHeld => ?_)
   clear hK K
   try simp only [qq]
   rw [← HCC.out.e1]
   have z := st1_0.out w2 X0 HC2
   rw [← HLIT.out, hA.out] at z
   try simp only [qq]
   exact wpAnyH_act (by kernel_rfl) z
 · go_simp
   obtain ⟨w3, hw3⟩ : ∃ W, W = w2.alloc (.cells #[.int .i64 r.f] 3) := ⟨_, rfl⟩
   rw [← hw3]
   obtain ⟨Y, hY⟩ : ∃ X, X = w2.heap.size := ⟨_, rfl⟩
   rw [← hY]
   have HY : Hid (Blk w3 Y [.int .i64 r.f] 3) := hd (by rw [hw3, hY]; exact Blk.new w2 [.int .i64 r.f] _)
   have C3 : Hid (Chg [] w2 w3) := hd (by rw [hw3]; exact (Chg.refl _ _).alloc _)
   have HC3 : Hid (Chg [] w1 w3) := hd (HC2.out.trans C3.out (by simp))
   refine hK.out _ _ HC3.out (fun hHeld => ?_)
   clear hK K hw3 hY
   have z := st0_01.out w3 X0 Y HC3 (hd (C3.out.blk HX0.out (by simp))) HY
   rw [← HLIT.out, hA.out] at z
   try simp only [qq]
   exact wpAnyH_act (by kernel_rfl) z
 · go_simp
   obtain ⟨w3, hw3⟩ : ∃ W, W = w2.alloc (.cells #[.int .i64 r.t] 3) := ⟨_, rfl⟩
   rw [← hw3]
   obtain ⟨Y, hY⟩ : ∃ X, X = w2.heap.size := ⟨_, rfl⟩
   rw [← hY]
   have HY : Hid (Blk w3 Y [.int .i64 r.t] 3) := hd (by rw [hw3, hY]; exact Blk.new w2 [.int .i64 r.t] _)
   have C3 : Hid (Chg [] w2 w3) := hd (by rw [hw3]; exact (Chg.refl _ _).alloc _)
   have HC3 : Hid (Chg [] w1 w3) := hd (HC2.out.trans C3.out (by simp))
   refine hK.out _ _ HC3.out (fun hHeld => ?_)
   clear hK K hw3 hY
   have z := st0_02.out w3 X0 Y HC3 (hd (C3.out.blk HX0.out (by simp))) HY
   rw [← HLIT.out, hA.out] at z
   try simp only [qq]
   exact wpAnyH_act (by kernel_rfl) z
 · go_simp
   obtain ⟨w3, hw3⟩ : ∃ W, W = w2.alloc (.cells #[.int .i64 r.step] 3) := ⟨_, rfl⟩
   rw [← hw3]
   obtain ⟨Y, hY⟩ : ∃ X, X = w2.heap.size := ⟨_, rfl⟩
   rw [← hY]
   have HY : Hid (Blk w3 Y [.int .i64 r.step] 3) := hd (by rw [hw3, hY]; exact Blk.new w2 [.int .i64 r.step] _)
   have C3 : Hid (Chg [] w2 w3) := hd (by rw [hw3]; exact (Chg.refl _ _).alloc _)
   have HC3 : Hid (Chg [] w1 w3) := hd (HC2.out.trans C3.out (by simp))
   refine hK.out _ _ HC3.out (fun hHeld => ?_)
   clear hK K hw3 hY
   have z := st0_03.out w3 X0 Y HC3 (hd (C3.out.blk HX0.out (by simp))) HY
   rw [← HLIT.out, hA.out] at z
   try simp only [qq]
   exact wpAnyH_act (by kernel_rfl) z)
set_option maxHeartbeats 4000000 in
set_option maxRecDepth 100000 in
theorem lins0_1 (C : LinC r s0 a1 c2 a2 c3 a3 c4 a4) (hO : Hid (LinO O)) (HPQ : Hid (∀ c a d x w, Q0 (.panic c) (a.put d x) w → Q0 (.panic c) a w)) (hA : Hid (A0 = LinA M r s0 y)) (st0_01 : Hid (LinS0_01 w1 r O Q0 A0 s0 a1 c2 a2 c3 a3 c4 a4)) (st0_12 : Hid (LinS0_12 w1 r O Q0 A0 s0 a1 c2 a2 c3 a3 c4 a4)) (st0_13 : Hid (LinS0_13 w1 r O Q0 A0 s0 a1 c2 a2 c3 a3 c4 a4)) : Hid (LinS0_1 w1 r O Q0 A0 s0 a1 c2 a2 c3 a3 c4 a4) := hd (by
 have HCC := hd C
 clear C
 unfold LinS0_1
 have hlit := hO.out
 unfold LinO at hlit
 simp only [Tryd.f49, findR, Option.getD, if_true, if_false, Nat.reduceEqDiff] at hlit
 injection hlit with hlit
 have HLIT := hd hlit
 clear hlit hO
 intro w2 X1 HC2 HX1
 rw [← HLIT.out, hA.out]
 unfold LinA
 try simp only [qq]
 refine rd3 8 17 22 (fun K hK => ?_) (fun K hK => ?_) (fun K hK => ?_)
 · go_simp
   obtain ⟨w3, hw3⟩ : ∃ W, W = w2.alloc (.cells #[.int .i64 r.x, .int .i64 r.y] 3) := ⟨_, rfl⟩
   rw [← hw3]
   obtain ⟨Y, hY⟩ : ∃ X, X = w2.heap.size := ⟨_, rfl⟩
   rw [← hY]
   have HY : Hid (Blk w3 Y [.int .i64 r.x, .int .i64 r.y] 3) := hd (by rw [hw3, hY]; exact Blk.new w2 [.int .i64 r.x, .int .i64 r.y] _)
   have C3 : Hid (Chg [] w2 w3) := hd (by rw [hw3]; exact (Chg.refl _ _).alloc _)
   have HC3 : Hid (Chg [] w1 w3) := hd (HC2.out.trans C3.out (by simp))
   refine hK.out _ _ HC3.out (fun hHeld => ?_)
   clear hK K hw3 hY
   have z := st0_01.out w3 Y X1 HC3 HY (hd (C3.out.blk HX1.out (by simp)))
   rw [← HLIT.out, hA.out] at z
   try simp only [qq]
   exact wpAnyH_act (by kernel_rfl) z
 · go_simp
   obtain ⟨w3, hw3⟩ : ∃ W, W = w2.alloc (.cells #[.int .i64 r.t] 3) := ⟨_, rfl⟩
   rw [← hw3]
   obtain ⟨Y, hY⟩ : ∃ X, X = w2.heap.size := ⟨_, rfl⟩
   rw [← hY]
   have HY : Hid (Blk w3 Y [.int .i64 r.t] 3) := hd (by rw [hw3, hY]; exact Blk.new w2 [.int .i64 r.t] _)
   have C3 : Hid (Chg [] w2 w3) := hd (by rw [hw3]; exact (Chg.refl _ _).alloc _)
   have HC3 : Hid (Chg [] w1 w3) := hd (HC2.out.trans C3.out (by simp))
   refine hK.out _ _ HC3.out (fun hHeld => ?_)
   clear hK K hw3 hY
   have z := st0_12.out w3 X1 Y HC3 (hd (C3.out.blk HX1.out (by simp))) HY
   rw [← HLIT.out, hA.out] at z
   try simp only [qq]
   exact wpAnyH_act (by kernel_rfl) z
 · go_simp
   obtain ⟨w3, hw3⟩ : ∃ W, W = w2.alloc (.cells #[.int .i64 r.step] 3) := ⟨_, rfl⟩
   rw [← hw3]
   obtain ⟨Y, hY⟩ : ∃ X, X = w2.heap.size := ⟨_, rfl⟩
   rw [← hY]
   have HY : Hid (Blk w3 Y [.int .i64 r.step] 3) := hd (by rw [hw3, hY]; exact Blk.new w2 [.int .i64 r.step] _)
   have C3 : Hid (Chg [] w2 w3) := hd (by rw [hw3]; exact (Chg.refl _ _).alloc _)
   have HC3 : Hid (Chg [] w1 w3) := hd (HC2.out.trans C3.out (by simp))
   refine hK.out _ _ HC3.out (fun hHeld => ?_)
   clear hK K hw3 hY
   have z := st0_13.out w3 X1 Y HC3 (hd (C3.out.blk HX1.out (by simp))) HY
   rw [← HLIT.out, hA.out] at z
   try simp only [qq]
   exact wpAnyH_act (by kernel_rfl) z)
set_option maxHeartbeats 4000000 in
set_option maxRecDepth 100000 in
theorem lins0_2 (C : LinC r s0 a1 c2 a2 c3 a3 c4 a4) (hO : Hid (LinO O)) (HPQ : Hid (∀ c a d x w, Q0 (.panic c) (a.put d x) w → Q0 (.panic c) a w)) (hA : Hid (A0 = LinA M r s0 y)) (st0_02 : Hid (LinS0_02 w1 r O Q0 A0 s0 a1 c2 a2 c3 a3 c4 a4)) (st0_12 : Hid (LinS0_12 w1 r O Q0 A0 s0 a1 c2 a2 c3 a3 c4 a4)) (st0_23 : Hid (LinS0_23 w1 r O Q0 A0 s0 a1 c2 a2 c3 a3 c4 a4)) : Hid (LinS0_2 w1 r O Q0 A0 s0 a1 c2 a2 c3 a3 c4 a4) := hd (by
 have HCC := hd C
 clear C
 unfold LinS0_2
 have hlit := hO.out
 unfold LinO at hlit
 simp only [Tryd.f49, findR, Option.getD, if_true, if_false, Nat.reduceEqDiff] at hlit
 injection hlit with hlit
 have HLIT := hd hlit
 clear hlit hO
 intro w2 X2 HC2 HX2
 rw [← HLIT.out, hA.out]
 unfold LinA
 try simp only [qq]
 refine rd3 8 12 22 (fun K hK => ?_) (fun K hK => ?_) (fun K hK => ?_)
 · go_simp
   obtain ⟨w3, hw3⟩ : ∃ W, W = w2.alloc (.cells #[.int .i64 r.x, .int .i64 r.y] 3) := ⟨_, rfl⟩
   rw [← hw3]
   obtain ⟨Y, hY⟩ : ∃ X, X = w2.heap.size := ⟨_, rfl⟩
   rw [← hY]
   have HY : Hid (Blk w3 Y [.int .i64 r.x, .int .i64 r.y] 3) := hd (by rw [hw3, hY]; exact Blk.new w2 [.int .i64 r.x, .int .i64 r.y] _)
   have C3 : Hid (Chg [] w2 w3) := hd (by rw [hw3]; exact (Chg.refl _ _).alloc _)
   have HC3 : Hid (Chg [] w1 w3) := hd (HC2.out.trans C3.out (by simp))
   refine hK.out _ _ HC3.out (fun hHeld => ?_)
   clear hK K hw3 hY
   have z := st0_02.out w3 Y X2 HC3 HY (hd (C3.out.blk HX2.out (by simp)))
   rw [← HLIT.out, hA.out] at z
   try simp only [qq]
   exact wpAnyH_act (by kernel_rfl) z
 · go_simp
   obtain ⟨w3, hw3⟩ : ∃ W, W = w2.alloc (.cells #[.int .i64 r.f] 3) := ⟨_, rfl⟩
   rw [← hw3]
   obtain ⟨Y, hY⟩ : ∃ X, X = w2.heap.size := ⟨_, rfl⟩
   rw [← hY]
   have HY : Hid (Blk w3 Y [.int .i64 r.f] 3) := hd (by rw [hw3, hY]; exact Blk.new w2 [.int .i64 r.f] _)
   have C3 : Hid (Chg [] w2 w3) := hd (by rw [hw3]; exact (Chg.refl _ _).alloc _)
   have HC3 : Hid (Chg [] w1 w3) := hd (HC2.out.trans C3.out (by simp))
   refine hK.out _ _ HC3.out (fun hHeld => ?_)
   clear hK K hw3 hY
   have z := st0_12.out w3 Y X2 HC3 HY (hd (C3.out.blk HX2.out (by simp)))
   rw [← HLIT.out, hA.out] at z
   try simp only [qq]
   exact wpAnyH_act (by kernel_rfl) z
 · go_simp
   obtain ⟨w3, hw3⟩ : ∃ W, W = w2.alloc (.cells #[.int .i64 r.step] 3) := ⟨_, rfl⟩
   rw [← hw3]
   obtain ⟨Y, hY⟩ : ∃ X, X = w2.heap.size := ⟨_, rfl⟩
   rw [← hY]
   have HY : Hid (Blk w3 Y [.int .i64 r.step] 3) := hd (by rw [hw3, hY]; exact Blk.new w2 [.int .i64 r.step] _)
   have C3 : Hid (Chg [] w2 w3) := hd (by rw [hw3]; exact (Chg.refl _ _).alloc _)
   have HC3 : Hid (Chg [] w1 w3) := hd (HC2.out.trans C3.out (by simp))
   refine hK.out _ _ HC3.out (fun hHeld => ?_)
   clear hK K hw3 hY
   have z := st0_23.out w3 X2 Y HC3 (hd (C3.out.blk HX2.out (by simp))) HY
   rw [← HLIT.out, hA.out] at z
   try simp only [qq]
   exact wpAnyH_act (by kernel_rfl) z)
set_option maxHeartbeats 4000000 in
set_option maxRecDepth 100000 in
theorem lins0_3 (C : LinC r s0 a1 c2 a2 c3 a3 c4 a4) (hO : Hid (LinO O)) (HPQ : Hid (∀ c a d x w, Q0 (.panic c) (a.put d x) w → Q0 (.panic c) a w)) (hA : Hid (A0 = LinA M r s0 y)) (st0_03 : Hid (LinS0_03 w1 r O Q0 A0 s0 a1 c2 a2 c3 a3 c4 a4)) (st0_13 : Hid (LinS0_13 w1 r O Q0 A0 s0 a1 c2 a2 c3 a3 c4 a4)) (st0_23 : Hid (LinS0_23 w1 r O Q0 A0 s0 a1 c2 a2 c3 a3 c4 a4)) : Hid (LinS0_3 w1 r O Q0 A0 s0 a1 c2 a2 c3 a3 c4 a4) := hd (by
 have HCC := hd C
 clear C
 unfold LinS0_3
 have hlit := hO.out
 unfold LinO at hlit
 simp only [Tryd.f49, findR, Option.getD, if_true, if_false, Nat.reduceEqDiff] at hlit
 injection hlit with hlit
 have HLIT := hd hlit
 clear hlit hO
 intro w2 X3 HC2 HX3
 rw [← HLIT.out, hA.out]
 unfold LinA
 try simp only [qq]
 refine rd3 8 12 17 (fun K hK => ?_) (fun K hK => ?_) (fun K hK => ?_)
 · go_simp
   obtain ⟨w3, hw3⟩ : ∃ W, W = w2.alloc (.cells #[.int .i64 r.x, .int .i64 r.y] 3) := ⟨_, rfl⟩
   rw [← hw3]
   obtain ⟨Y, hY⟩ : ∃ X, X = w2.heap.size := ⟨_, rfl⟩
   rw [← hY]
   have HY : Hid (Blk w3 Y [.int .i64 r.x, .int .i64 r.y] 3) := hd (by rw [hw3, hY]; exact Blk.new w2 [.int .i64 r.x, .int .i64 r.y] _)
   have C3 : Hid (Chg [] w2 w3) := hd (by rw [hw3]; exact (Chg.refl _ _).alloc _)
   have HC3 : Hid (Chg [] w1 w3) := hd (HC2.out.trans C3.out (by simp))
   refine hK.out _ _ HC3.out (fun hHeld => ?_)
   clear hK K hw3 hY
   have z := st0_03.out w3 Y X3 HC3 HY (hd (C3.out.blk HX3.out (by simp)))
   rw [← HLIT.out, hA.out] at z
   try simp only [qq]
   exact wpAnyH_act (by kernel_rfl) z
 · go_simp
   obtain ⟨w3, hw3⟩ : ∃ W, W = w2.alloc (.cells #[.int .i64 r.f] 3) := ⟨_, rfl⟩
   rw [← hw3]
   obtain ⟨Y, hY⟩ : ∃ X, X = w2.heap.size := ⟨_, rfl⟩
   rw [← hY]
   have HY : Hid (Blk w3 Y [.int .i64 r.f] 3) := hd (by rw [hw3, hY]; exact Blk.new w2 [.int .i64 r.f] _)
   have C3 : Hid (Chg [] w2 w3) := hd (by rw [hw3]; exact (Chg.refl _ _).alloc _)
   have HC3 : Hid (Chg [] w1 w3) := hd (HC2.out.trans C3.out (by simp))
   refine hK.out _ _ HC3.out (fun hHeld => ?_)
   clear hK K hw3 hY
   have z := st0_13.out w3 Y X3 HC3 HY (hd (C3.out.blk HX3.out (by simp)))
   rw [← HLIT.out, hA.out] at z
   try simp only [qq]
   exact wpAnyH_act (by kernel_rfl) z
 · go_simp
   obtain ⟨w3, hw3⟩ : ∃ W, W = w2.alloc (.cells #[.int .i64 r.t] 3) := ⟨_, rfl⟩
   rw [← hw3]
   obtain ⟨Y, hY⟩ : ∃ X, X = w2.heap.size := ⟨_, rfl⟩
   rw [← hY]
   have HY : Hid (Blk w3 Y [.int .i64 r.t] 3) := hd (by rw [hw3, hY]; exact Blk.new w2 [.int .i64 r.t] _)
   have C3 : Hid (Chg [] w2 w3) := hd (by rw [hw3]; exact (Chg.refl _ _).alloc _)
   have HC3 : Hid (Chg [] w1 w3) := hd (HC2.out.trans C3.out (by simp))
   refine hK.out _ _ HC3.out (fun hHeld => ?_)
   clear hK K hw3 hY
   have z := st0_23.out w3 Y X3 HC3 HY (hd (C3.out.blk HX3.out (by simp)))
   rw [← HLIT.out, hA.out] at z
   try simp only [qq]
   exact wpAnyH_act (by kernel_rfl) z)
set_option maxHeartbeats 4000000 in
set_option maxRecDepth 100000 in
theorem lins0_ (C : LinC r s0 a1 c2 a2 c3 a3 c4 a4) (hO : Hid (LinO O)) (HPQ : Hid (∀ c a d x w, Q0 (.panic c) (a.put d x) w → Q0 (.panic c) a w)) (hA : Hid (A0 = LinA M r s0 y)) (st0_0 : Hid (LinS0_0 w1 r O Q0 A0 s0 a1 c2 a2 c3 a3 c4 a4)) (st0_1 : Hid (LinS0_1 w1 r O Q0 A0 s0 a1 c2 a2 c3 a3 c4 a4)) (st0_2 : Hid (LinS0_2 w1 r O Q0 A0 s0 a1 c2 a2 c3 a3 c4 a4)) (st0_3 : Hid (LinS0_3 w1 r O Q0 A0 s0 a1 c2 a2 c3 a3 c4 a4)) : Hid (LinS0_ w1 r O Q0 A0 s0 a1 c2 a2 c3 a3 c4 a4) := hd (by
 have HCC := hd C
 clear C
 unfold LinS0_
 have hlit := hO.out
 unfold LinO at hlit
 simp only [Tryd.f49, findR, Option.getD, if_true, if_false, Nat.reduceEqDiff] at hlit
 injection hlit with hlit
 have HLIT := hd hlit
 clear hlit hO
 intro w2 HC2
 rw [← HLIT.out, hA.out]
 unfold LinA
 try simp only [qq]
 refine rd4 8 12 17 22 (fun K hK => ?_) (fun K hK => ?_) (fun K hK => ?_) (fun K hK => ?_)
 · go_simp
   obtain ⟨w3, hw3⟩ : ∃ W, W = w2.alloc (.cells #[.int .i64 r.x, .int .i64 r.y] 3) := ⟨_, rfl⟩
   rw [← hw3]
   obtain ⟨Y, hY⟩ : ∃ X, X = w2.heap.size := ⟨_, rfl⟩
   rw [← hY]
   have HY : Hid (Blk w3 Y [.int .i64 r.x, .int .i64 r.y] 3) := hd (by rw [hw3, hY]; exact Blk.new w2 [.int .i64 r.x, .int .i64 r.y] _)
   have C3 : Hid (Chg [] w2 w3) := hd (by rw [hw3]; exact (Chg.refl _ _).alloc _)
   have HC3 : Hid (Chg [] w1 w3) := hd (HC2.out.trans C3.out (by simp))
   refine hK.out _ _ HC3.out (fun hHeld => ?_)
   clear hK K hw3 hY
   have z := st0_0.out w3 Y HC3 HY
   rw [← HLIT.out, hA.out] at z
   try simp only [qq]
   exact wpAnyH_act (by kernel_rfl) z
 · go_simp
   obtain ⟨w3, hw3⟩ : ∃ W, W = w2.alloc (.cells #[.int .i64 r.f] 3) := ⟨_, rfl⟩
   rw [← hw3]
   obtain ⟨Y, hY⟩ : ∃ X, X = w2.heap.size := ⟨_, rfl⟩
   rw [← hY]
   have HY : Hid (Blk w3 Y [.int .i64 r.f] 3) := hd (by rw [hw3, hY]; exact Blk.new w2 [.int .i64 r.f] _)
   have C3 : Hid (Chg [] w2 w3) := hd (by rw [hw3]; exact (Chg.refl _ _).alloc _)
   have HC3 : Hid (Chg [] w1 w3) := hd (HC2.out.trans C3.out (by simp))
   refine hK.out _ _ HC3.out (fun hHeld => ?_)
   clear hK K hw3 hY
   have z := st0_1.out w3 Y HC3 HY
   rw [← HLIT.out, hA.out] at z
   try simp only [qq]
   exact wpAnyH_act (by kernel_rfl) z
 · go_simp
   obtain ⟨w3, hw3⟩ : ∃ W, W = w2.alloc (.cells #[.int .i64 r.t] 3) := ⟨_, rfl⟩
   rw [← hw3]
   obtain ⟨Y, hY⟩ : ∃ X, X = w2.heap.size := ⟨_, rfl⟩
   rw [← hY]
   have HY : Hid (Blk w3 Y [.int .i64 r.t] 3) := hd (by rw [hw3, hY]; exact Blk.new w2 [.int .i64 r.t] _)
   have C3 : Hid (Chg [] w2 w3) := hd (by rw [hw3]; exact (Chg.refl _ _).alloc _)
   have HC3 : Hid (Chg [] w1 w3) := hd (HC2.out.trans C3.out (by simp))
   refine hK.out _ _ HC3.out (fun hHeld => ?_)
   clear hK K hw3 hY
   have z := st0_2.out w3 Y HC3 HY
   rw [← HLIT.out, hA.out] at z
   try simp only [qq]
   exact wpAnyH_act (by kernel_rfl) z
 · go_simp
   obtain ⟨w3, hw3⟩ : ∃ W, W = w2.alloc (.cells #[.int .i64 r.step] 3) := ⟨_, rfl⟩
   rw [← hw3]
   obtain ⟨Y, hY⟩ : ∃ X, X = w2.heap.size := ⟨_, rfl⟩
   rw [← hY]
   have HY : Hid (Blk w3 Y [.int .i64 r.step] 3) := hd (by rw [hw3, hY]; exact Blk.new w2 [.int .i64 r.step] _)
   have C3 : Hid (Chg [] w2 w3) := hd (by rw [hw3]; exact (Chg.refl _ _).alloc _)
   have HC3 : Hid (Chg [] w1 w3) := hd (HC2.out.trans C3.out (by simp))
   refine hK.out _ _ HC3.out (fun hHeld => ?_)
   clear hK K hw3 hY
   have z := st0_3.out w3 Y HC3 HY
   rw [← HLIT.out, hA.out] at z
   try simp only [qq]
   exact wpAnyH_act (by kernel_rfl) z)
end Go.Proofs.YtgbooiaedbpenaaDoor
