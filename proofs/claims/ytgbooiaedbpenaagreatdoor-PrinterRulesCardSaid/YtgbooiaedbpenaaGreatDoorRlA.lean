/-
 Rule, layer 1: the parser of rules as a plain function on lists of tokens.
-/
import Derived.Test.YtgbooiaedbpenaaGreatDoorLxA
namespace Go.Proofs.YtgbooiaedbpenaaGreatDoor
set_option linter.unusedVariables false
set_option linter.unusedSimpArgs false
open Go Go.RowKit

namespace Rl
open Lx (Tk)
structure Tst where
 attr : Bytes
 op : Nat
 name : Bytes
 n : Nat
 at_ : Nat
deriving DecidableEq
structure Itm where
 kind : Nat
 name : Bytes
 whn : List (List Tst)
 n : Nat
 r : Nat × Nat
 s : Nat × Nat
 at_ : Nat
deriving DecidableEq
/-- What a part of the parser comes to: a value and the tokens that are left, or an error before a token. -/
inductive Out (α : Type) where
 | ok (a : α) (r : List Tk)
 | bad (e : Nat) (r : List Tk)
def Out.bind {α β : Type} : Out α → (α → List Tk → Out β) → Out β
 | .ok a r, k => k a r
 | .bad e r, _ => .bad e r
/-- Whether the next token has a kind, and a text if one is asked. -/
def is (k : Nat) (x : Option Bytes) : List Tk → Bool
 | [] => false
 | t :: _ => decide (t.kind = k) && (match x with
  | none => true
  | some s => decide (t.text = s))
def nxt (k : Nat) (x : Option Bytes) (l : List Tk) : Out Tk :=
 match l with
 | [] => .bad 4 []
 | t :: r => if is k x (t :: r) = true then .ok t r else .bad 4 (t :: r)
def wAnd : Bytes := [97, 110, 100]
def wOr : Bytes := [111, 114]
def wWhen : Bytes := [119, 104, 101, 110]
def wLimit : Bytes := [108, 105, 109, 105, 116]
def wFee : Bytes := [102, 101, 101]
def wTax : Bytes := [116, 97, 120]
def wCap : Bytes := [99, 97, 112]
def wShare : Bytes := [115, 104, 97, 114, 101]
/-- The number of a word in a list, from 1 on; 0 if it is not there. -/
def codeIn : List Bytes → Nat → Bytes → Nat
 | [], _, _ => 0
 | x :: r, k, t => if t = x then k else codeIn r (k + 1) t
def opsL : List Bytes := [[61], [33, 61], [60], [60, 61], [62], [62, 61]]
def kindsL : List Bytes := [[97, 108, 108, 111, 119], [100, 101, 110, 121], [112, 114, 105, 99, 101], [114, 101, 115, 97, 108, 101], [114, 101, 102, 117, 110, 100], [116, 111, 103, 101, 116, 104, 101, 114], [115, 105, 110, 103, 108, 101]]
def opc (t : Bytes) : Nat := codeIn opsL 1 t
def kindc (t : Bytes) : Nat := codeIn kindsL 1 t
def headText : List Tk → Bytes
 | [] => []
 | t :: _ => t.text
def test (l : List Tk) : Out Tst :=
 (nxt 1 none l).bind fun a l1 =>
  if is 3 none l1 = true ∧ opc (headText l1) ≠ 0 then
   (nxt 3 none l1).bind fun o l2 =>
    if is 2 none l2 = true then (nxt 2 none l2).bind fun n l3 => .ok ⟨a.text, opc o.text, [], n.n, a.at_⟩ l3
    else (nxt 1 none l2).bind fun b l3 =>
     if is 3 (some [46]) l3 = true then (nxt 3 none l3).bind fun _ l4 => (nxt 1 none l4).bind fun c l5 => .ok ⟨a.text, opc o.text, b.text ++ ([46] ++ c.text), 0, a.at_⟩ l5
     else .ok ⟨a.text, opc o.text, b.text, 0, a.at_⟩ l3
  else .bad 4 l1
/-- Further things that are joined by a word; k more fit. -/
def sevG {α : Type} (one : List Tk → Out α) (x : Bytes) : Nat → List α → List Tk → Out (List α)
 | 0, acc, l => if is 1 (some x) l = true then .bad 3 l.tail else .ok acc l
 | k + 1, acc, l => if is 1 (some x) l = true then (one l.tail).bind fun a r => sevG one x k (acc ++ [a]) r else .ok acc l
def sev {α : Type} (one : List Tk → Out α) (x : Bytes) (l : List Tk) : Out (List α) := (one l).bind fun a r => sevG one x 11 [a] r
def tests : List Tk → Out (List Tst) := sev test wAnd
def ratio (l : List Tk) : Out (Nat × Nat) :=
 (nxt 2 none l).bind fun a l1 => (nxt 3 (some [47]) l1).bind fun _ l2 => (nxt 2 none l2).bind fun b l3 => .ok (a.n, b.n) l3
def after (x : Bytes) (l : List Tk) : Out (Nat × Nat) := (nxt 1 (some x) l).bind fun _ l1 => ratio l1
def opt (x : Bytes) (l : List Tk) : Out (Nat × Nat) := if is 1 (some x) l = true then ratio l.tail else .ok (0, 1) l
abbrev Rest := Nat × (Nat × Nat) × (Nat × Nat)
def allow (l : List Tk) : Out Rest := if is 1 (some wLimit) l = true then (nxt 2 none l.tail).bind fun n r => .ok (n.n, (0, 0), (0, 0)) r else .ok (0, (0, 0), (0, 0)) l
def price (l : List Tk) : Out Rest := (nxt 2 none l).bind fun n l1 => (opt wFee l1).bind fun r l2 => (opt wTax l2).bind fun s l3 => .ok (n.n, r, s) l3
def resale (l : List Tk) : Out Rest := (after wCap l).bind fun r l1 => (after wShare l1).bind fun s l2 => .ok (0, r, s) l2
def refund (l : List Tk) : Out Rest := (ratio l).bind fun r l1 => .ok (0, r, (0, 0)) l1
def rest (k : Nat) (l : List Tk) : Out Rest :=
 if k = 1 then allow l else if k = 3 then price l else if k = 4 then resale l else if k = 5 then refund l else .ok (0, (0, 0), (0, 0)) l
def whn (l : List Tk) : Out (List (List Tst)) := if is 1 (some wWhen) l = true then sev tests wOr l.tail else .ok [] l
def item (l : List Tk) : Out Itm :=
 if is 1 none l = true ∧ kindc (headText l) ≠ 0 then
  (nxt 1 none l).bind fun t l1 => (nxt 1 none l1).bind fun n l2 => (rest (kindc t.text) l2).bind fun b l3 => (whn l3).bind fun c l4 =>
   (nxt 3 (some [59]) l4).bind fun _ l5 => .ok ⟨kindc t.text, n.text, c, b.1, b.2.1, b.2.2, t.at_⟩ l5
 else .bad 4 l
/-- Rules up to the end; k more fit. -/
def items : Nat → List Itm → List Tk → Out (List Itm)
 | _, acc, [] => .ok acc []
 | 0, _, t :: r => .bad 3 (t :: r)
 | k + 1, acc, t :: r => (item (t :: r)).bind fun x q => items k (acc ++ [x]) q
def code (e : Nat) (r : List Tk) : Nat := if r = [] then 7 else e
def place (en : Nat) : List Tk → Nat
 | [] => en
 | t :: _ => t.at_
def fin (en : Nat) : Out (List Itm) → List Itm × Nat × Int
 | .ok x _ => (x, 0, 0)
 | .bad e r => ([], code e r, (place en r : Int))
def parse (s : Bytes) : List Itm × Nat × Int :=
 if (Lx.lex s).2.1 ≠ 0 then ([], (Lx.lex s).2.1, (Lx.lex s).2.2) else fin s.length (items 200 [] (Lx.lex s).1)
end Rl
end Go.Proofs.YtgbooiaedbpenaaGreatDoor
