/-
  Rule: the reference parser as plain functions on a state that keeps its first error.
-/
import Derived.Test.YtmfjebpefneboaaDoorRlA
namespace Go.Proofs.YtmfjebpefneboaaDoor
set_option linter.unusedVariables false
set_option linter.unusedSimpArgs false
namespace Rl
open Lx (Tk)
/-- Where the reference parser is: the tokens that are left, the first error and its place. -/
structure RSt where
  l : List Tk
  err : Nat
  at_ : Nat
def tk0 : Tk := ⟨0, [], 0, 0⟩
def RSt.fail (en : Nat) (s : RSt) (e : Nat) : RSt := if s.err = 0 then ⟨s.l, code e s.l, place en s.l⟩ else s
def RSt.is (s : RSt) (k : Nat) (x : Bytes) : Bool := decide (s.err = 0) && (match s.l with
  | [] => false
  | t :: _ => decide (t.kind = k) && (decide (x = []) || decide (t.text = x)))
def RSt.key (s : RSt) (x : Bytes) : Bool := s.is 1 x || s.is 3 x
def RSt.tl (s : RSt) : RSt := ⟨s.l.tail, s.err, s.at_⟩
def RSt.hd (s : RSt) : Tk := s.l.headD tk0
def RSt.take (en : Nat) (s : RSt) (k : Nat) : Tk × RSt := if s.is k [] = true then (s.hd, s.tl) else (tk0, s.fail en 4)
def RSt.word (en : Nat) (s : RSt) (x : Bytes) : RSt := if s.key x = true then s.tl else s.fail en 4
def RSt.ratio (en : Nat) (s : RSt) : (Nat × Nat) × RSt :=
  (((s.take en 2).1.n, ((((s.take en 2).2.word en [47]).take en 2)).1.n), ((((s.take en 2).2.word en [47]).take en 2)).2)
def RSt.lim (en : Nat) (s : RSt) (n m : Nat) : RSt := if n = m ∧ s.l ≠ [] then s.fail en 3 else s
/-- The number of the last word that the next token is. -/
def RSt.lastIs (s : RSt) (k : Nat) : List Bytes → Nat → Nat → Nat
  | [], _, o => o
  | x :: r, i, o => s.lastIs k r (i + 1) (if s.is k x = true then i else o)
/-- A test behind its attribute and its operator. -/
def RSt.rhs (en : Nat) (s : RSt) : (Bytes × Nat) × RSt :=
  if s.is 2 [] = true then (([], (s.take en 2).1.n), (s.take en 2).2)
  else if (s.take en 1).2.is 3 [46] = true then (((s.take en 1).1.text ++ ([46] ++ ((((s.take en 1).2.word en [46]).take en 1)).1.text), 0), ((((s.take en 1).2.word en [46]).take en 1)).2)
  else (((s.take en 1).1.text, 0), (s.take en 1).2)
def RSt.test (en : Nat) (s : RSt) : Tst × RSt :=
  if (s.take en 1).2.lastIs 3 opsL 1 0 = 0 then (⟨(s.take en 1).1.text, 0, [], 0, (s.take en 1).1.at_⟩, (s.take en 1).2.fail en 4)
  else (⟨(s.take en 1).1.text, (s.take en 1).2.lastIs 3 opsL 1 0, ((s.take en 1).2.tl.rhs en).1.1, ((s.take en 1).2.tl.rhs en).1.2, (s.take en 1).1.at_⟩, ((s.take en 1).2.tl.rhs en).2)
/-- A list that is joined by a word, up to k of its things. -/
def RSt.lst {α : Type} (en : Nat) (f : RSt → α × RSt) (x : Bytes) : Nat → RSt → List α → List α × RSt
  | 0, s, l => (l, s)
  | k + 1, s, l => if s.err = 0 then
      if (f (s.lim en l.length 12)).2.key x = true then lst en f x k ((f (s.lim en l.length 12)).2.word en x) (l ++ [(f (s.lim en l.length 12)).1]) else (l ++ [(f (s.lim en l.length 12)).1], (f (s.lim en l.length 12)).2)
    else (l, s)
def RSt.tests (en : Nat) (s : RSt) : List Tst × RSt := RSt.lst en (RSt.test en) wAnd (s.l.length + 1) s []
def RSt.when (en : Nat) (s : RSt) : List (List Tst) × RSt := RSt.lst en (RSt.tests en) wOr (s.l.length + 1) s []
def RSt.opt (en : Nat) (s : RSt) (x : Bytes) : (Nat × Nat) × RSt := if s.is 1 x = true then (s.word en x).ratio en else ((0, 1), s)
/-- What follows the name, by the kind of the rule. -/
def RSt.rest (en : Nat) (s : RSt) (k : Nat) : Rest × RSt :=
  if k = 1 then if s.is 1 wLimit = true then ((((s.word en wLimit).take en 2).1.n, (0, 0), (0, 0)), ((s.word en wLimit).take en 2).2) else ((0, (0, 0), (0, 0)), s)
  else if k = 3 then (((s.take en 2).1.n, ((s.take en 2).2.opt en wFee).1, (((s.take en 2).2.opt en wFee).2.opt en wTax).1), (((s.take en 2).2.opt en wFee).2.opt en wTax).2)
  else if k = 4 then ((0, ((s.word en wCap).ratio en).1, (((s.word en wCap).ratio en).2.word en wShare |>.ratio en).1), (((s.word en wCap).ratio en).2.word en wShare |>.ratio en).2)
  else if k = 5 then ((0, (s.ratio en).1, (0, 0)), (s.ratio en).2)
  else ((0, (0, 0), (0, 0)), s)
def RSt.whn (en : Nat) (s : RSt) : List (List Tst) × RSt := if s.is 1 wWhen = true then (s.word en wWhen).when en else ([], s)
def RSt.item (en : Nat) (s : RSt) : Itm × RSt :=
  if s.lastIs 1 kindsL 1 0 = 0 then (⟨0, [], [], 0, (0, 0), (0, 0), 0⟩, s.fail en 4)
  else
    let k := s.lastIs 1 kindsL 1 0
    let n := s.tl.take en 1
    let r := n.2.rest en k
    let c := r.2.whn en
    (⟨k, n.1.text, c.1, r.1.1, r.1.2.1, r.1.2.2, s.hd.at_⟩, c.2.word en [59])
/-- Rules, up to k of them. -/
def RSt.items (en : Nat) : Nat → RSt → List Itm → List Itm × RSt
  | 0, s, l => (l, s)
  | k + 1, s, l => if s.err = 0 ∧ s.l ≠ [] then RSt.items en k ((s.lim en l.length 200).item en).2 (l ++ [((s.lim en l.length 200).item en).1]) else (l, s)
def RSt.parse (s : Bytes) : List Itm × Nat × Int :=
  if (Lx.lex s).2.1 ≠ 0 then ([], (Lx.lex s).2.1, (Lx.lex s).2.2)
  else
    let p := RSt.items s.length ((Lx.lex s).1.length + 2) ⟨(Lx.lex s).1, 0, 0⟩ []
    if p.2.err ≠ 0 then ([], p.2.err, (p.2.at_ : Int)) else (p.1, 0, 0)
end Rl
end Go.Proofs.YtmfjebpefneboaaDoor
