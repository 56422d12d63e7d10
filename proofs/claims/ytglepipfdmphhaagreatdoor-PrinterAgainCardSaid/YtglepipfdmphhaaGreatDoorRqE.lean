/-
  RlA, RqE in one text.
-/
import Derived.Test.YtglepipfdmphhaaGreatDoorLxA
namespace Go.Proofs.YtglepipfdmphhaaGreatDoor
set_option linter.unusedVariables false
set_option linter.unusedSimpArgs false
open Go Go.RowKit
namespace Rl
open Lx (Tk)
structure Tst where
 attr:Bytes
 op:Nat
 name:Bytes
 n:Nat
 at_:Nat
deriving DecidableEq
structure Itm where
 kind:Nat
 name:Bytes
 whn:List (List Tst)
 n:Nat
 r:Nat × Nat
 s:Nat × Nat
 at_:Nat
deriving DecidableEq
inductive Out (α:Type) where
 | ok (a:α) (r:List Tk)
 | bad (e:Nat) (r:List Tk)
def Out.bind {α β:Type}:Out α→(α→List Tk→Out β)→Out β
 | .ok a r,k=>k a r
 | .bad e r,_=>.bad e r
def is (k:Nat) (x:Option Bytes):List Tk→Bool
 | []=>false
 | t :: _=>decide (t.kind=k) && (match x with
  | none=>true
  | some s=>decide (t.text=s))
def nxt (k:Nat) (x:Option Bytes) (l:List Tk):Out Tk :=
 match l with
 | []=>.bad 4 []
 | t :: r=>if is k x (t :: r)=true then .ok t r else .bad 4 (t :: r)
def wAnd:Bytes:=[97,110,100]
def wOr:Bytes:=[111,114]
def wWhen:Bytes:=[119,104,101,110]
def wLimit:Bytes:=[108,105,109,105,116]
def wFee:Bytes:=[102,101,101]
def wTax:Bytes:=[116,97,120]
def wCap:Bytes:=[99,97,112]
def wShare:Bytes:=[115,104,97,114,101]
def codeIn:List Bytes→Nat→Bytes→Nat
 | [],_,_=>0
 | x :: r,k,t=>if t=x then k else codeIn r (k+1) t
def opsL:List Bytes:=[[61],[33,61],[60],[60,61],[62],[62,61]]
def kindsL:List Bytes:=[[97,108,108,111,119],[100,101,110,121],[112,114,105,99,101],[114,101,115,97,108,101],[114,101,102,117,110,100],[116,111,103,101,116,104,101,114],[115,105,110,103,108,101]]
def opc (t:Bytes):Nat:=codeIn opsL 1 t
def kindc (t:Bytes):Nat:=codeIn kindsL 1 t
def headText:List Tk→Bytes
 | []=>[]
 | t :: _=>t.text
def test (l:List Tk):Out Tst :=
 (nxt 1 none l).bind fun a l1 =>
  if is 3 none l1=true∧opc (headText l1)≠0 then
   (nxt 3 none l1).bind fun o l2 =>
    if is 2 none l2=true then (nxt 2 none l2).bind fun n l3=>.ok ⟨a.text,opc o.text,[],n.n,a.at_⟩ l3
    else (nxt 1 none l2).bind fun b l3 =>
     if is 3 (some [46]) l3=true then (nxt 3 none l3).bind fun _ l4=>(nxt 1 none l4).bind fun c l5=>.ok ⟨a.text,opc o.text,b.text++([46]++c.text),0,a.at_⟩ l5
     else .ok ⟨a.text,opc o.text,b.text,0,a.at_⟩ l3
  else .bad 4 l1
def sevG {α:Type} (one:List Tk→Out α) (x:Bytes):Nat→List α→List Tk→Out (List α)
 | 0,acc,l=>if is 1 (some x) l=true then .bad 3 l.tail else .ok acc l
 | k+1,acc,l=>if is 1 (some x) l=true then (one l.tail).bind fun a r=>sevG one x k (acc++[a]) r else .ok acc l
def sev {α:Type} (one:List Tk→Out α) (x:Bytes) (l:List Tk):Out (List α):=(one l).bind fun a r=>sevG one x 11 [a] r
def tests:List Tk→Out (List Tst):=sev test wAnd
def ratio (l:List Tk):Out (Nat × Nat) :=
 (nxt 2 none l).bind fun a l1=>(nxt 3 (some [47]) l1).bind fun _ l2=>(nxt 2 none l2).bind fun b l3=>.ok (a.n,b.n) l3
def after (x:Bytes) (l:List Tk):Out (Nat × Nat):=(nxt 1 (some x) l).bind fun _ l1=>ratio l1
def opt (x:Bytes) (l:List Tk):Out (Nat × Nat):=if is 1 (some x) l=true then ratio l.tail else .ok (0,1) l
abbrev Rest:=Nat × (Nat × Nat) × (Nat × Nat)
def allow (l:List Tk):Out Rest:=if is 1 (some wLimit) l=true then (nxt 2 none l.tail).bind fun n r=>.ok (n.n,(0,0),(0,0)) r else .ok (0,(0,0),(0,0)) l
def price (l:List Tk):Out Rest:=(nxt 2 none l).bind fun n l1=>(opt wFee l1).bind fun r l2=>(opt wTax l2).bind fun s l3=>.ok (n.n,r,s) l3
def resale (l:List Tk):Out Rest:=(after wCap l).bind fun r l1=>(after wShare l1).bind fun s l2=>.ok (0,r,s) l2
def refund (l:List Tk):Out Rest:=(ratio l).bind fun r l1=>.ok (0,r,(0,0)) l1
def rest (k:Nat) (l:List Tk):Out Rest :=
 if k=1 then allow l else if k=3 then price l else if k=4 then resale l else if k=5 then refund l else .ok (0,(0,0),(0,0)) l
def whn (l:List Tk):Out (List (List Tst)):=if is 1 (some wWhen) l=true then sev tests wOr l.tail else .ok [] l
def item (l:List Tk):Out Itm :=
 if is 1 none l=true∧kindc (headText l)≠0 then
  (nxt 1 none l).bind fun t l1=>(nxt 1 none l1).bind fun n l2=>(rest (kindc t.text) l2).bind fun b l3=>(whn l3).bind fun c l4 =>
   (nxt 3 (some [59]) l4).bind fun _ l5=>.ok ⟨kindc t.text,n.text,c,b.1,b.2.1,b.2.2,t.at_⟩ l5
 else .bad 4 l
def items:Nat→List Itm→List Tk→Out (List Itm)
 | _,acc,[]=>.ok acc []
 | 0,_,t :: r=>.bad 3 (t :: r)
 | k+1,acc,t :: r=>(item (t :: r)).bind fun x q=>items k (acc++[x]) q
def code (e:Nat) (r:List Tk):Nat:=if r=[] then 7 else e
def place (en:Nat):List Tk→Nat
 | []=>en
 | t :: _=>t.at_
def fin (en:Nat):Out (List Itm)→List Itm × Nat × Int
 | .ok x _=>(x,0,0)
 | .bad e r=>([],code e r,(place en r:Int))
def parse (s:Bytes):List Itm × Nat × Int :=
 if (Lx.lex s).2.1≠0 then ([],(Lx.lex s).2.1,(Lx.lex s).2.2) else fin s.length (items 200 [] (Lx.lex s).1)
end Rl
end Go.Proofs.YtglepipfdmphhaaGreatDoor
namespace Go.Proofs.YtglepipfdmphhaaGreatDoor
set_option linter.unusedVariables false
set_option linter.unusedSimpArgs false
open Go Go.RowKit
namespace Rl
open Lx (Tk)
theorem nxt_cons (k:Nat) (x:Option Bytes) (t:Tk) (r:List Tk):nxt k x (t :: r)=if is k x (t :: r)=true then .ok t r else .bad 4 (t :: r):=rfl
def renT (f:Nat→Nat) (t:Tk):Tk:={ t with at_:=f t.at_ }
def renS (f:Nat→Nat) (t:Tst):Tst:={ t with at_:=f t.at_ }
def renI (f:Nat→Nat) (x:Itm):Itm:={ x with at_:=f x.at_,whn:=x.whn.map (·.map (renS f)) }
def Out.ren {α:Type} (f:Nat→Nat) (v:α→α):Out α→Out α
 | .ok a r=>.ok (v a) (r.map (renT f))
 | .bad e r=>.bad e (r.map (renT f))
def Eqv {α:Type} (f:Nat→Nat) (v:α→α) (p p':List Tk→Out α):Prop:=∀ l,p' (l.map (renT f))=(p l).ren f v
theorem Eqv.pure {α:Type} {f:Nat→Nat} {v:α→α} {a b:α} (h:b=v a):Eqv f v (fun l=>Out.ok a l) (fun l=>Out.ok b l):=fun l=>by
 subst h
 rfl
theorem Eqv.fail {α:Type} {f:Nat→Nat} {v:α→α} (e:Nat):Eqv f v (fun l=>(Out.bad e l:Out α)) (fun l=>Out.bad e l):=fun l=>rfl
theorem Eqv.bind {α β:Type} {f:Nat→Nat} {v:α→α} {u:β→β} {p p':List Tk→Out α} {k k':α→List Tk→Out β} (hp:Eqv f v p p') (hk:∀ a,Eqv f u (k a) (k' (v a))) :
 Eqv f u (fun l=>(p l).bind (k · ·)) (fun l=>(p' l).bind (k' · ·)):=fun l=>by
 show (p' (l.map (renT f))).bind (k' · ·)=((p l).bind (k · ·)).ren f u
 rw[hp l]
 cases p l with
 | ok a r=>exact hk a r
 | bad e r=>rfl
theorem Eqv.ite {α:Type} {f:Nat→Nat} {v:α→α} {c:List Tk→Prop} [DecidablePred c] {p p' q q':List Tk→Out α} (hc:∀ l,c (l.map (renT f))↔c l) (hp:Eqv f v p p') (hq:Eqv f v q q') :
 Eqv f v (fun l=>if c l then p l else q l) (fun l=>if c l then p' l else q' l):=fun l=>by
 by_cases h:c l
 · simp only[if_pos h,if_pos ((hc l).2 h)]
   exact hp l
 simp only[if_neg h,if_neg (fun h9=>h ((hc l).1 h9))]
 exact hq l
theorem Eqv.iteTail {α:Type} {f:Nat→Nat} {v:α→α} {c:List Tk→Prop} [DecidablePred c] {p p' q q':List Tk→Out α} (hc:∀ l,c (l.map (renT f))↔c l) (hp:Eqv f v p p') (hq:Eqv f v q q') :
 Eqv f v (fun l=>if c l then p l.tail else q l) (fun l=>if c l then p' l.tail else q' l):=fun l=>by
 by_cases h:c l
 · simp only[if_pos h,if_pos ((hc l).2 h),← List.map_tail]
   exact hp l.tail
 simp only[if_neg h,if_neg (fun h9=>h ((hc l).1 h9))]
 exact hq l
theorem is_ren (f:Nat→Nat) (k:Nat) (x:Option Bytes) (l:List Tk):is k x (l.map (renT f))=true↔is k x l=true:=by
 cases l with
 | nil=>exact Iff.rfl
 | cons t r=>exact Iff.rfl
theorem headText_ren (f:Nat→Nat) (l:List Tk):headText (l.map (renT f))=headText l:=by
 cases l with
 | nil=>rfl
 | cons t r=>rfl
theorem isAnd_ren (f:Nat→Nat) (k:Nat) (x:Option Bytes) (c:Bytes→Prop) (l:List Tk):(is k x (l.map (renT f))=true∧c (headText (l.map (renT f))))↔(is k x l=true∧c (headText l)):=by
 rw[is_ren,headText_ren]
theorem eqv_nxt (f:Nat→Nat) (k:Nat) (x:Option Bytes):Eqv f (renT f) (nxt k x) (nxt k x):=fun l=>by
 cases l with
 | nil=>rfl
 | cons t r =>
  rw[List.map_cons,nxt_cons,nxt_cons]
  by_cases h:is k x (t :: r)=true
  · rw[if_pos h,if_pos (show is k x (renT f t :: r.map (renT f))=true from h)]
    rfl
  rw[if_neg h,if_neg (show ¬ is k x (renT f t :: r.map (renT f))=true from h)]
  rfl
theorem eqv_test (f:Nat→Nat):Eqv f (renS f) test test :=
 (eqv_nxt f 1 none).bind fun a=>Eqv.ite (isAnd_ren f 3 none (fun t=>opc t≠0))
  ((eqv_nxt f 3 none).bind fun o=>Eqv.ite (is_ren f 2 none) ((eqv_nxt f 2 none).bind fun n=>Eqv.pure rfl)
   ((eqv_nxt f 1 none).bind fun b=>Eqv.ite (is_ren f 3 (some [46])) ((eqv_nxt f 3 none).bind fun _=>(eqv_nxt f 1 none).bind fun c=>Eqv.pure rfl) (Eqv.pure rfl)))
  (Eqv.fail 4)
theorem eqv_sevG {α:Type} {f:Nat→Nat} {v:α→α} {one:List Tk→Out α} (h:Eqv f v one one) (x:Bytes):∀ (k:Nat) (acc:List α),Eqv f (List.map v) (sevG one x k acc) (sevG one x k (acc.map v))
 | 0,acc=>Eqv.iteTail (is_ren f 1 (some x)) (Eqv.fail 3) (Eqv.pure rfl)
 | k+1,acc=>Eqv.iteTail (p:=fun l=>(one l).bind fun a r=>sevG one x k (acc++[a]) r) (p':=fun l=>(one l).bind fun a r=>sevG one x k (acc.map v++[a]) r) (is_ren f 1 (some x)) (h.bind fun a=>by
  have:=eqv_sevG h x k (acc++[a])
  rw[List.map_append] at this
  exact this) (Eqv.pure rfl)
theorem eqv_sev {α:Type} {f:Nat→Nat} {v:α→α} {one:List Tk→Out α} (h:Eqv f v one one) (x:Bytes):Eqv f (List.map v) (sev one x) (sev one x):=h.bind fun a=>eqv_sevG h x 11 [a]
theorem eqv_tests (f:Nat→Nat):Eqv f (List.map (renS f)) tests tests:=eqv_sev (eqv_test f) wAnd
theorem eqv_ratio (f:Nat→Nat):Eqv f id ratio ratio:=(eqv_nxt f 2 none).bind fun a=>(eqv_nxt f 3 (some [47])).bind fun _=>(eqv_nxt f 2 none).bind fun b=>Eqv.pure rfl
theorem eqv_after (f:Nat→Nat) (x:Bytes):Eqv f id (after x) (after x):=(eqv_nxt f 1 (some x)).bind fun _=>eqv_ratio f
theorem eqv_opt (f:Nat→Nat) (x:Bytes):Eqv f id (opt x) (opt x):=Eqv.iteTail (is_ren f 1 (some x)) (eqv_ratio f) (Eqv.pure rfl)
theorem eqv_allow (f:Nat→Nat):Eqv f id allow allow:=Eqv.iteTail (p:=fun l=>(nxt 2 none l).bind fun n r=>.ok (n.n,(0,0),(0,0)) r) (p':=fun l=>(nxt 2 none l).bind fun n r=>.ok (n.n,(0,0),(0,0)) r) (is_ren f 1 (some wLimit)) ((eqv_nxt f 2 none).bind fun n=>Eqv.pure rfl) (Eqv.pure rfl)
theorem eqv_price (f:Nat→Nat):Eqv f id price price:=(eqv_nxt f 2 none).bind fun n=>(eqv_opt f wFee).bind fun r=>(eqv_opt f wTax).bind fun s=>Eqv.pure rfl
theorem eqv_resale (f:Nat→Nat):Eqv f id resale resale:=(eqv_after f wCap).bind fun r=>(eqv_after f wShare).bind fun s=>Eqv.pure rfl
theorem eqv_refund (f:Nat→Nat):Eqv f id refund refund:=(eqv_ratio f).bind fun r=>Eqv.pure rfl
theorem eqv_rest (f:Nat→Nat) (k:Nat):Eqv f id (rest k) (rest k):=by
 unfold rest
 by_cases h1:k=1
 · simp only[if_pos h1];exact eqv_allow f
 simp only[if_neg h1]
 by_cases h3:k=3
 · simp only[if_pos h3];exact eqv_price f
 simp only[if_neg h3]
 by_cases h4:k=4
 · simp only[if_pos h4];exact eqv_resale f
 simp only[if_neg h4]
 by_cases h5:k=5
 · simp only[if_pos h5];exact eqv_refund f
 simp only[if_neg h5];exact Eqv.pure rfl
theorem eqv_whn (f:Nat→Nat):Eqv f (List.map (List.map (renS f))) whn whn:=Eqv.iteTail (is_ren f 1 (some wWhen)) (eqv_sev (eqv_tests f) wOr) (Eqv.pure rfl)
theorem eqv_item (f:Nat→Nat):Eqv f (renI f) item item :=
 Eqv.ite (isAnd_ren f 1 none (fun t=>kindc t≠0))
  ((eqv_nxt f 1 none).bind fun t=>(eqv_nxt f 1 none).bind fun n=>(eqv_rest f (kindc t.text)).bind fun b=>(eqv_whn f).bind fun c=>(eqv_nxt f 3 (some [59])).bind fun _=>Eqv.pure rfl)
  (Eqv.fail 4)
theorem eqv_items (f:Nat→Nat):∀ (k:Nat) (acc:List Itm),Eqv f (List.map (renI f)) (items k acc) (items k (acc.map (renI f)))
 | 0,acc=>fun l=>by cases l <;> rfl
 | k+1,acc=>fun l=>by
  cases l with
  | nil=>rfl
  | cons t r =>
   have h:Eqv f (List.map (renI f)) (fun l=>(item l).bind fun x q=>items k (acc++[x]) q) (fun l=>(item l).bind fun x q=>items k (acc.map (renI f)++[x]) q):=(eqv_item f).bind fun a=>by
    have:=eqv_items f k (acc++[a])
    rw[List.map_append] at this
    exact this
   exact h (t :: r)
end Rl
end Go.Proofs.YtglepipfdmphhaaGreatDoor
