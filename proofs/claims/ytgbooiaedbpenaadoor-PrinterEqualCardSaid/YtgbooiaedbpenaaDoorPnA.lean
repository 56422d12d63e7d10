/-
  Plan, layer 1: the parser of halls as a plain function on lists of tokens.
-/
import Derived.Test.YtgbooiaedbpenaaDoorRlA
namespace Go.Proofs.YtgbooiaedbpenaaDoor
set_option linter.unusedVariables false
set_option linter.unusedSimpArgs false
open Go Go.RowKit

namespace Pn
open Lx (Tk)
open Rl (Out nxt code place)
structure Mk where
  kind : Nat
  seat : Nat
  w : Nat
deriving DecidableEq
structure Rw where
  name : Bytes
  x : Nat
  y : Nat
  f : Nat
  t : Nat
  step : Nat
  marks : List Mk
  at_ : Nat
deriving DecidableEq
structure Bl where
  name : Bytes
  rows : List Rw
  at_ : Nat
deriving DecidableEq
structure Bx where
  x : Nat
  y : Nat
  x2 : Nat
  y2 : Nat
deriving DecidableEq
structure Ar where
  name : Bytes
  box : Bx
  holds : Nat
  at_ : Nat
deriving DecidableEq
structure Lv where
  name : Bytes
  height : Nat
  blocks : List Bl
  areas : List Ar
  aisles : List Bx
  pillars : List Bx
  doors : List (Nat × Nat)
  at_ : Nat
deriving DecidableEq
structure Hl where
  name : Bytes
  sx : Nat
  sy : Nat
  levels : List Lv
deriving DecidableEq
def wGap : Bytes := [103, 97, 112]
def wWheel : Bytes := [119, 104, 101, 101, 108]
def wHidden : Bytes := [104, 105, 100, 100, 101, 110]
def wBeside : Bytes := [98, 101, 115, 105, 100, 101]
def wOf : Bytes := [111, 102]
def wRow : Bytes := [114, 111, 119]
def wAt : Bytes := [97, 116]
def wSeats : Bytes := [115, 101, 97, 116, 115]
def wTo : Bytes := [116, 111]
def wStep : Bytes := [115, 116, 101, 112]
def wBlock : Bytes := [98, 108, 111, 99, 107]
def wArea : Bytes := [97, 114, 101, 97]
def wAisle : Bytes := [97, 105, 115, 108, 101]
def wPillar : Bytes := [112, 105, 108, 108, 97, 114]
def wDoor : Bytes := [100, 111, 111, 114]
def wHolds : Bytes := [104, 111, 108, 100, 115]
def wLevel : Bytes := [108, 101, 118, 101, 108]
def wHeight : Bytes := [104, 101, 105, 103, 104, 116]
def wHall : Bytes := [104, 97, 108, 108]
def wStage : Bytes := [115, 116, 97, 103, 101]
def cOpen : Bytes := [123]
def cClose : Bytes := [125]
def cSemi : Bytes := [59]
/-- Whether the next token is a word or a symbol with a text. -/
def isw (x : Bytes) : List Tk → Bool
  | [] => false
  | t :: _ => decide (t.kind ≠ 2) && decide (t.text = x)
def must (x : Bytes) (l : List Tk) : Out Unit := if isw x l = true then .ok () l.tail else .bad 4 l
def num (l : List Tk) : Out Nat := (nxt 2 none l).bind fun t r => .ok t.n r
def name (l : List Tk) : Out Bytes := (nxt 1 none l).bind fun t r => .ok t.text r
def atO : List Tk → Out Nat
  | [] => .bad 4 []
  | t :: r => .ok t.at_ (t :: r)
def num2 (l : List Tk) : Out (Nat × Nat) := (num l).bind fun x l1 => (num l1).bind fun y l2 => .ok (x, y) l2
def box (l : List Tk) : Out Bx := (num l).bind fun x l1 => (num l1).bind fun y l2 => (num l2).bind fun z l3 => (num l3).bind fun u l4 => .ok ⟨x, y, z, u⟩ l4
def marksL : List Bytes := [[103, 97, 112], [119, 104, 101, 101, 108], [104, 105, 100, 100, 101, 110], [98, 101, 115, 105, 100, 101]]
def headText : List Tk → Bytes
  | [] => []
  | t :: _ => t.text
/-- The kind of the mark that begins here; 0 if there is none. -/
def mkc (l : List Tk) : Nat := if Rl.is 1 none l = true then Rl.codeIn marksL 1 (headText l) else 0
def mark (l : List Tk) : Out Mk := (num l.tail).bind fun n l1 => if mkc l = 4 then (must wOf l1).bind fun _ l2 => (num l2).bind fun w l3 => .ok ⟨mkc l, n, w⟩ l3 else .ok ⟨mkc l, n, 0⟩ l1
/-- Things up to where they end; the fuel is more than the tokens. -/
def loopG {α : Type} (stop : List Tk → Bool) (one : List Tk → Out α) : Nat → List α → List Tk → Out (List α)
  | 0, acc, l => .ok acc l
  | f + 1, acc, l => if stop l = true then .ok acc l else (one l).bind fun a r => loopG stop one f (acc ++ [a]) r
def loop {α : Type} (stop : List Tk → Bool) (one : List Tk → Out α) (l : List Tk) : Out (List α) := loopG stop one (l.length + 1) [] l
def marks : List Tk → Out (List Mk) := loop (fun l => decide (mkc l = 0)) mark
def row (l : List Tk) : Out Rw :=
  (atO l).bind fun at_ l0 => (must wRow l0).bind fun _ l1 => (name l1).bind fun nm l2 => (must wAt l2).bind fun _ l3 => (num2 l3).bind fun xy l4 => (must wSeats l4).bind fun _ l5 =>
    (num l5).bind fun f l6 => (must wTo l6).bind fun _ l7 => (num l7).bind fun t l8 => (must wStep l8).bind fun _ l9 => (num l9).bind fun st l10 => (marks l10).bind fun ms l11 =>
      (must cSemi l11).bind fun _ l12 => .ok ⟨nm, xy.1, xy.2, f, t, st, ms, at_⟩ l12
/-- Things between braces, behind the first one. -/
def braced {α : Type} (one : List Tk → Out α) (l : List Tk) : Out (List α) := (loop (isw cClose) one l).bind fun as r => .ok as r.tail
def block (at_ : Nat) (l : List Tk) : Out Bl := (name l).bind fun nm l1 => (must cOpen l1).bind fun _ l2 => (braced row l2).bind fun rs l3 => .ok ⟨nm, rs, at_⟩ l3
inductive It where
  | block (b : Bl)
  | area (a : Ar)
  | aisle (b : Bx)
  | pillar (b : Bx)
  | door (p : Nat × Nat)
def sortsL : List Bytes := [[98, 108, 111, 99, 107], [97, 114, 101, 97], [97, 105, 115, 108, 101], [112, 105, 108, 108, 97, 114], [100, 111, 111, 114]]
def area (at_ : Nat) (l : List Tk) : Out Ar :=
  (name l).bind fun nm l1 => (box l1).bind fun b l2 => (must wHolds l2).bind fun _ l3 => (num l3).bind fun h l4 => (must cSemi l4).bind fun _ l5 => .ok ⟨nm, b, h, at_⟩ l5
def boxS (l : List Tk) : Out Bx := (box l).bind fun b l1 => (must cSemi l1).bind fun _ l2 => .ok b l2
def door (l : List Tk) : Out (Nat × Nat) := (num2 l).bind fun p l1 => (must cSemi l1).bind fun _ l2 => .ok p l2
def itemK (k at_ : Nat) (l : List Tk) : Out It :=
  if k = 1 then (block at_ l).bind fun b r => .ok (.block b) r
  else if k = 2 then (area at_ l).bind fun b r => .ok (.area b) r
  else if k = 3 then (boxS l).bind fun b r => .ok (.aisle b) r
  else if k = 4 then (boxS l).bind fun b r => .ok (.pillar b) r
  else (door l).bind fun b r => .ok (.door b) r
def item (l : List Tk) : Out It := (atO l).bind fun at_ l0 => if Rl.codeIn sortsL 1 (headText l0) = 0 then .bad 4 l0 else itemK (Rl.codeIn sortsL 1 (headText l0)) at_ l0.tail
def It.block? : It → Option Bl
  | .block b => some b
  | _ => none
def It.area? : It → Option Ar
  | .area b => some b
  | _ => none
def It.aisle? : It → Option Bx
  | .aisle b => some b
  | _ => none
def It.pillar? : It → Option Bx
  | .pillar b => some b
  | _ => none
def It.door? : It → Option (Nat × Nat)
  | .door b => some b
  | _ => none
/-- The level that items make. -/
def lev (nm : Bytes) (h : Nat) (its : List It) (at_ : Nat) : Lv := ⟨nm, h, its.filterMap It.block?, its.filterMap It.area?, its.filterMap It.aisle?, its.filterMap It.pillar?, its.filterMap It.door?, at_⟩
def level (l : List Tk) : Out Lv :=
  (atO l).bind fun at_ l0 => (must wLevel l0).bind fun _ l1 => (name l1).bind fun nm l2 => (must wHeight l2).bind fun _ l3 => (num l3).bind fun h l4 => (must cOpen l4).bind fun _ l5 =>
    (braced item l5).bind fun its l6 => .ok (lev nm h its at_) l6
def hall (l : List Tk) : Out Hl :=
  (must wHall l).bind fun _ l1 => (name l1).bind fun nm l2 => (must wStage l2).bind fun _ l3 => (num2 l3).bind fun xy l4 => (must cOpen l4).bind fun _ l5 => (braced level l5).bind fun ls l6 =>
    if l6 = [] then .ok ⟨nm, xy.1, xy.2, ls⟩ l6 else .bad 4 l6
def hl0 : Hl := ⟨[], 0, 0, []⟩
def fin (en : Nat) : Out Hl → Hl × Nat × Int
  | .ok x _ => (x, 0, 0)
  | .bad e r => (hl0, code e r, (place en r : Int))
def parse (s : Bytes) : Hl × Nat × Int :=
  if (Lx.lex s).2.1 ≠ 0 then (hl0, (Lx.lex s).2.1, (Lx.lex s).2.2) else fin s.length (hall (Lx.lex s).1)
end Pn
end Go.Proofs.YtgbooiaedbpenaaDoor
