/-
  PnA, PoC in one text.
-/
import Derived.Test.YtglepipfdmphhaaGreatDoorRqE
namespace Go.Proofs.YtglepipfdmphhaaGreatDoor
set_option linter.unusedVariables false
set_option linter.unusedSimpArgs false
open Go Go.RowKit
namespace Pn
open Lx (Tk)
open Rl (Out nxt code place)
structure Mk where
  kind:Nat
  seat:Nat
  w:Nat
deriving DecidableEq
structure Rw where
  name:Bytes
  x:Nat
  y:Nat
  f:Nat
  t:Nat
  step:Nat
  marks:List Mk
  at_:Nat
deriving DecidableEq
structure Bl where
  name:Bytes
  rows:List Rw
  at_:Nat
deriving DecidableEq
structure Bx where
  x:Nat
  y:Nat
  x2:Nat
  y2:Nat
deriving DecidableEq
structure Ar where
  name:Bytes
  box:Bx
  holds:Nat
  at_:Nat
deriving DecidableEq
structure Lv where
  name:Bytes
  height:Nat
  blocks:List Bl
  areas:List Ar
  aisles:List Bx
  pillars:List Bx
  doors:List (Nat × Nat)
  at_:Nat
deriving DecidableEq
structure Hl where
  name:Bytes
  sx:Nat
  sy:Nat
  levels:List Lv
deriving DecidableEq
def wGap:Bytes:=[103,97,112]
def wWheel:Bytes:=[119,104,101,101,108]
def wHidden:Bytes:=[104,105,100,100,101,110]
def wBeside:Bytes:=[98,101,115,105,100,101]
def wOf:Bytes:=[111,102]
def wRow:Bytes:=[114,111,119]
def wAt:Bytes:=[97,116]
def wSeats:Bytes:=[115,101,97,116,115]
def wTo:Bytes:=[116,111]
def wStep:Bytes:=[115,116,101,112]
def wBlock:Bytes:=[98,108,111,99,107]
def wArea:Bytes:=[97,114,101,97]
def wAisle:Bytes:=[97,105,115,108,101]
def wPillar:Bytes:=[112,105,108,108,97,114]
def wDoor:Bytes:=[100,111,111,114]
def wHolds:Bytes:=[104,111,108,100,115]
def wLevel:Bytes:=[108,101,118,101,108]
def wHeight:Bytes:=[104,101,105,103,104,116]
def wHall:Bytes:=[104,97,108,108]
def wStage:Bytes:=[115,116,97,103,101]
def cOpen:Bytes:=[123]
def cClose:Bytes:=[125]
def cSemi:Bytes:=[59]
def isw (x:Bytes):List Tk→Bool
  | []=>false
  | t :: _=>decide (t.kind≠2) && decide (t.text=x)
def must (x:Bytes) (l:List Tk):Out Unit:=if isw x l=true then .ok () l.tail else .bad 4 l
def num (l:List Tk):Out Nat:=(nxt 2 none l).bind fun t r=>.ok t.n r
def name (l:List Tk):Out Bytes:=(nxt 1 none l).bind fun t r=>.ok t.text r
def atO:List Tk→Out Nat
  | []=>.bad 4 []
  | t :: r=>.ok t.at_ (t :: r)
def num2 (l:List Tk):Out (Nat × Nat):=(num l).bind fun x l1=>(num l1).bind fun y l2=>.ok (x,y) l2
def box (l:List Tk):Out Bx:=(num l).bind fun x l1=>(num l1).bind fun y l2=>(num l2).bind fun z l3=>(num l3).bind fun u l4=>.ok ⟨x,y,z,u⟩ l4
def marksL:List Bytes:=[[103,97,112],[119,104,101,101,108],[104,105,100,100,101,110],[98,101,115,105,100,101]]
def headText:List Tk→Bytes
  | []=>[]
  | t :: _=>t.text
def mkc (l:List Tk):Nat:=if Rl.is 1 none l=true then Rl.codeIn marksL 1 (headText l) else 0
def mark (l:List Tk):Out Mk:=(num l.tail).bind fun n l1=>if mkc l=4 then (must wOf l1).bind fun _ l2=>(num l2).bind fun w l3=>.ok ⟨mkc l,n,w⟩ l3 else .ok ⟨mkc l,n,0⟩ l1
def loopG {α:Type} (stop:List Tk→Bool) (one:List Tk→Out α):Nat→List α→List Tk→Out (List α)
  | 0,acc,l=>.ok acc l
  | f+1,acc,l=>if stop l=true then .ok acc l else (one l).bind fun a r=>loopG stop one f (acc++[a]) r
def loop {α:Type} (stop:List Tk→Bool) (one:List Tk→Out α) (l:List Tk):Out (List α):=loopG stop one (l.length+1) [] l
def marks:List Tk→Out (List Mk):=loop (fun l=>decide (mkc l=0)) mark
def row (l:List Tk):Out Rw :=
  (atO l).bind fun at_ l0=>(must wRow l0).bind fun _ l1=>(name l1).bind fun nm l2=>(must wAt l2).bind fun _ l3=>(num2 l3).bind fun xy l4=>(must wSeats l4).bind fun _ l5 =>
    (num l5).bind fun f l6=>(must wTo l6).bind fun _ l7=>(num l7).bind fun t l8=>(must wStep l8).bind fun _ l9=>(num l9).bind fun st l10=>(marks l10).bind fun ms l11 =>
      (must cSemi l11).bind fun _ l12=>.ok ⟨nm,xy.1,xy.2,f,t,st,ms,at_⟩ l12
def braced {α:Type} (one:List Tk→Out α) (l:List Tk):Out (List α):=(loop (isw cClose) one l).bind fun as r=>.ok as r.tail
def block (at_:Nat) (l:List Tk):Out Bl:=(name l).bind fun nm l1=>(must cOpen l1).bind fun _ l2=>(braced row l2).bind fun rs l3=>.ok ⟨nm,rs,at_⟩ l3
inductive It where
  | block (b:Bl)
  | area (a:Ar)
  | aisle (b:Bx)
  | pillar (b:Bx)
  | door (p:Nat × Nat)
def sortsL:List Bytes:=[[98,108,111,99,107],[97,114,101,97],[97,105,115,108,101],[112,105,108,108,97,114],[100,111,111,114]]
def area (at_:Nat) (l:List Tk):Out Ar :=
  (name l).bind fun nm l1=>(box l1).bind fun b l2=>(must wHolds l2).bind fun _ l3=>(num l3).bind fun h l4=>(must cSemi l4).bind fun _ l5=>.ok ⟨nm,b,h,at_⟩ l5
def boxS (l:List Tk):Out Bx:=(box l).bind fun b l1=>(must cSemi l1).bind fun _ l2=>.ok b l2
def door (l:List Tk):Out (Nat × Nat):=(num2 l).bind fun p l1=>(must cSemi l1).bind fun _ l2=>.ok p l2
def itemK (k at_:Nat) (l:List Tk):Out It :=
  if k=1 then (block at_ l).bind fun b r=>.ok (.block b) r
  else if k=2 then (area at_ l).bind fun b r=>.ok (.area b) r
  else if k=3 then (boxS l).bind fun b r=>.ok (.aisle b) r
  else if k=4 then (boxS l).bind fun b r=>.ok (.pillar b) r
  else (door l).bind fun b r=>.ok (.door b) r
def item (l:List Tk):Out It:=(atO l).bind fun at_ l0=>if Rl.codeIn sortsL 1 (headText l0)=0 then .bad 4 l0 else itemK (Rl.codeIn sortsL 1 (headText l0)) at_ l0.tail
def It.block?:It→Option Bl
  | .block b=>some b
  | _=>none
def It.area?:It→Option Ar
  | .area b=>some b
  | _=>none
def It.aisle?:It→Option Bx
  | .aisle b=>some b
  | _=>none
def It.pillar?:It→Option Bx
  | .pillar b=>some b
  | _=>none
def It.door?:It→Option (Nat × Nat)
  | .door b=>some b
  | _=>none
def lev (nm:Bytes) (h:Nat) (its:List It) (at_:Nat):Lv:=⟨nm,h,its.filterMap It.block?,its.filterMap It.area?,its.filterMap It.aisle?,its.filterMap It.pillar?,its.filterMap It.door?,at_⟩
def level (l:List Tk):Out Lv :=
  (atO l).bind fun at_ l0=>(must wLevel l0).bind fun _ l1=>(name l1).bind fun nm l2=>(must wHeight l2).bind fun _ l3=>(num l3).bind fun h l4=>(must cOpen l4).bind fun _ l5 =>
    (braced item l5).bind fun its l6=>.ok (lev nm h its at_) l6
def hall (l:List Tk):Out Hl :=
  (must wHall l).bind fun _ l1=>(name l1).bind fun nm l2=>(must wStage l2).bind fun _ l3=>(num2 l3).bind fun xy l4=>(must cOpen l4).bind fun _ l5=>(braced level l5).bind fun ls l6 =>
    if l6=[] then .ok ⟨nm,xy.1,xy.2,ls⟩ l6 else .bad 4 l6
def hl0:Hl:=⟨[],0,0,[]⟩
def fin (en:Nat):Out Hl→Hl × Nat × Int
  | .ok x _=>(x,0,0)
  | .bad e r=>(hl0,code e r,(place en r:Int))
def parse (s:Bytes):Hl × Nat × Int :=
  if (Lx.lex s).2.1≠0 then (hl0,(Lx.lex s).2.1,(Lx.lex s).2.2) else fin s.length (hall (Lx.lex s).1)
end Pn
end Go.Proofs.YtglepipfdmphhaaGreatDoor
namespace Go.Proofs.YtglepipfdmphhaaGreatDoor
set_option linter.unusedVariables false
set_option linter.unusedSimpArgs false
namespace Pn
open Lx (Tk)
open Rl (Out Eqv nxt renT)
def renR (f:Nat→Nat) (x:Rw):Rw:={ x with at_:=f x.at_ }
def renB (f:Nat→Nat) (x:Bl):Bl:={ x with at_:=f x.at_,rows:=x.rows.map (renR f) }
def renA (f:Nat→Nat) (x:Ar):Ar:={ x with at_:=f x.at_ }
def renIt (f:Nat→Nat):It→It
  | .block b=>.block (renB f b)
  | .area a=>.area (renA f a)
  | .aisle b=>.aisle b
  | .pillar b=>.pillar b
  | .door p=>.door p
def renL (f:Nat→Nat) (x:Lv):Lv:={ x with at_:=f x.at_,blocks:=x.blocks.map (renB f),areas:=x.areas.map (renA f) }
def renH (f:Nat→Nat) (x:Hl):Hl:={ x with levels:=x.levels.map (renL f) }
theorem isw_ren (f:Nat→Nat) (x:Bytes) (l:List Tk):isw x (l.map (renT f))=isw x l:=by
  cases l with
  | nil=>rfl
  | cons t r=>rfl
theorem headText_ren (f:Nat→Nat) (l:List Tk):headText (l.map (renT f))=headText l:=by
  cases l with
  | nil=>rfl
  | cons t r=>rfl
theorem mkc_ren (f:Nat→Nat) (l:List Tk):mkc (l.map (renT f))=mkc l:=by
  cases l with
  | nil=>rfl
  | cons t r=>rfl
theorem eqv_must (f:Nat→Nat) (x:Bytes):Eqv f id (must x) (must x):=fun l=>by
  unfold must
  rw[isw_ren]
  by_cases h:isw x l=true
  · rw[if_pos h,if_pos h,← List.map_tail]
    rfl
  rw[if_neg h,if_neg h]
  rfl
theorem eqv_num (f:Nat→Nat):Eqv f id num num:=(Rl.eqv_nxt f 2 none).bind fun t=>Eqv.pure rfl
theorem eqv_name (f:Nat→Nat):Eqv f id name name:=(Rl.eqv_nxt f 1 none).bind fun t=>Eqv.pure rfl
theorem eqv_atO (f:Nat→Nat):Eqv f f atO atO:=fun l=>by
  cases l with
  | nil=>rfl
  | cons t r=>rfl
theorem eqv_num2 (f:Nat→Nat):Eqv f id num2 num2:=(eqv_num f).bind fun x=>(eqv_num f).bind fun y=>Eqv.pure rfl
theorem eqv_box (f:Nat→Nat):Eqv f id box box:=(eqv_num f).bind fun x=>(eqv_num f).bind fun y=>(eqv_num f).bind fun z=>(eqv_num f).bind fun u=>Eqv.pure rfl
theorem eqv_mark (f:Nat→Nat):Eqv f id mark mark:=fun l=>by
  have h:Eqv f id (fun l1=>(num l1).bind fun n l2=>if mkc l=4 then (must wOf l2).bind fun _ l3=>(num l3).bind fun w l4=>.ok (⟨mkc l,n,w⟩:Mk) l4 else .ok ⟨mkc l,n,0⟩ l2) (fun l1=>(num l1).bind fun n l2=>if mkc l=4 then (must wOf l2).bind fun _ l3=>(num l3).bind fun w l4=>.ok (⟨mkc l,n,w⟩:Mk) l4 else .ok ⟨mkc l,n,0⟩ l2):=(eqv_num f).bind fun n=>by
    by_cases h4:mkc l=4
    · simp only[h4,if_true]
      exact (eqv_must f wOf).bind fun _=>(eqv_num f).bind fun w=>Eqv.pure rfl
    simp only[h4,if_false]
    exact Eqv.pure rfl
  have h1:=h l.tail
  unfold mark
  rw[mkc_ren,← List.map_tail]
  exact h1
theorem eqv_loopG {α:Type} {f:Nat→Nat} {v:α→α} {stop:List Tk→Bool} {one:List Tk→Out α} (hs:∀ l,stop (l.map (renT f))=stop l) (h:Eqv f v one one):∀ (k:Nat) (acc:List α),Eqv f (List.map v) (loopG stop one k acc) (loopG stop one k (acc.map v))
  | 0,acc=>Eqv.pure rfl
  | k+1,acc=>fun l=>by
    unfold loopG
    rw[hs]
    by_cases h0:stop l=true
    · rw[if_pos h0,if_pos h0]
      rfl
    rw[if_neg h0,if_neg h0]
    have hk:∀ a,Eqv f (List.map v) (loopG stop one k (acc++[a])) (loopG stop one k (acc.map v++[v a])):=fun a=>by
      have h2:=eqv_loopG hs h k (acc++[a])
      rw[List.map_append] at h2
      exact h2
    exact (Eqv.bind (k:=fun a=>loopG stop one k (acc++[a])) (k':=fun a=>loopG stop one k (acc.map v++[a])) h hk) l
theorem eqv_loop {α:Type} {f:Nat→Nat} {v:α→α} {stop:List Tk→Bool} {one:List Tk→Out α} (hs:∀ l,stop (l.map (renT f))=stop l) (h:Eqv f v one one):Eqv f (List.map v) (loop stop one) (loop stop one):=fun l=>by
  unfold loop
  rw[List.length_map]
  exact eqv_loopG hs h (l.length+1) [] l
theorem eqv_marks (f:Nat→Nat):Eqv f (List.map id) marks marks:=eqv_loop (fun l=>by rw[mkc_ren]) (eqv_mark f)
theorem eqv_row (f:Nat→Nat):Eqv f (renR f) row row :=
  (eqv_atO f).bind fun at_=>(eqv_must f wRow).bind fun _=>(eqv_name f).bind fun nm=>(eqv_must f wAt).bind fun _=>(eqv_num2 f).bind fun xy=>(eqv_must f wSeats).bind fun _=>(eqv_num f).bind fun a=>(eqv_must f wTo).bind fun _=>(eqv_num f).bind fun t=>(eqv_must f wStep).bind fun _=>(eqv_num f).bind fun st=>(eqv_marks f).bind fun ms=>(eqv_must f cSemi).bind fun _=>Eqv.pure (by simp[renR])
theorem eqv_braced {α:Type} {f:Nat→Nat} {v:α→α} {one:List Tk→Out α} (h:Eqv f v one one):Eqv f (List.map v) (braced one) (braced one) :=
  (eqv_loop (fun l=>isw_ren f cClose l) h).bind fun bs=>fun l=>by
    rw[← List.map_tail]
    rfl
theorem eqv_block (f:Nat→Nat) (at_:Nat):Eqv f (renB f) (block at_) (block (f at_)):=(eqv_name f).bind fun nm=>(eqv_must f cOpen).bind fun _=>(eqv_braced (eqv_row f)).bind fun rs=>Eqv.pure rfl
theorem eqv_area (f:Nat→Nat) (at_:Nat):Eqv f (renA f) (area at_) (area (f at_)):=(eqv_name f).bind fun nm=>(eqv_box f).bind fun b=>(eqv_must f wHolds).bind fun _=>(eqv_num f).bind fun h=>(eqv_must f cSemi).bind fun _=>Eqv.pure rfl
theorem eqv_boxS (f:Nat→Nat):Eqv f id boxS boxS:=(eqv_box f).bind fun b=>(eqv_must f cSemi).bind fun _=>Eqv.pure rfl
theorem eqv_door (f:Nat→Nat):Eqv f id door door:=(eqv_num2 f).bind fun b=>(eqv_must f cSemi).bind fun _=>Eqv.pure rfl
theorem eqv_itemK (f:Nat→Nat) (k at_:Nat):Eqv f (renIt f) (itemK k at_) (itemK k (f at_)):=by
  unfold itemK
  by_cases h1:k=1
  · simp only[h1,if_true]
    exact (eqv_block f at_).bind fun b=>Eqv.pure rfl
  simp only[h1,if_false]
  by_cases h2:k=2
  · simp only[h2,if_true]
    exact (eqv_area f at_).bind fun b=>Eqv.pure rfl
  simp only[h2,if_false]
  by_cases h3:k=3
  · simp only[h3,if_true]
    exact (eqv_boxS f).bind fun b=>Eqv.pure rfl
  simp only[h3,if_false]
  by_cases h4:k=4
  · simp only[h4,if_true]
    exact (eqv_boxS f).bind fun b=>Eqv.pure rfl
  simp only[h4,if_false]
  exact (eqv_door f).bind fun b=>Eqv.pure rfl
theorem item_consE (t:Tk) (r:List Tk):item (t :: r)=if Rl.codeIn sortsL 1 t.text=0 then .bad 4 (t :: r) else itemK (Rl.codeIn sortsL 1 t.text) t.at_ r:=rfl
theorem eqv_item (f:Nat→Nat):Eqv f (renIt f) item item:=fun l=>by
  cases l with
  | nil=>rfl
  | cons t r =>
    rw[List.map_cons]
    rw[show renT f t = { t with at_:=f t.at_ } from rfl,item_consE,item_consE]
    by_cases h:Rl.codeIn sortsL 1 t.text=0
    · rw[if_pos h,if_pos h]
      rfl
    rw[if_neg h,if_neg h]
    exact eqv_itemK f _ t.at_ r
theorem lev_ren (f:Nat→Nat) (nm:Bytes) (h:Nat) (its:List It) (a:Nat):lev nm h (its.map (renIt f)) (f a)=renL f (lev nm h its a):=by
  unfold lev renL
  simp only[List.filterMap_map,List.map_filterMap,Lv.mk.injEq,true_and]
  refine ⟨?_,?_,?_,?_,?_,trivial⟩ <;> (congr 1;funext x;cases x <;> rfl)
theorem eqv_level (f:Nat→Nat):Eqv f (renL f) level level:=(eqv_atO f).bind fun at_=>(eqv_must f wLevel).bind fun _=>(eqv_name f).bind fun nm=>(eqv_must f wHeight).bind fun _=>(eqv_num f).bind fun h=>(eqv_must f cOpen).bind fun _=>(eqv_braced (eqv_item f)).bind fun its=>Eqv.pure (lev_ren f nm h its at_)
theorem eqv_hall (f:Nat→Nat):Eqv f (renH f) hall hall:=(eqv_must f wHall).bind fun _=>(eqv_name f).bind fun nm=>(eqv_must f wStage).bind fun _=>(eqv_num2 f).bind fun xy=>(eqv_must f cOpen).bind fun _=>(eqv_braced (eqv_level f)).bind fun ls=>fun l=>by
  cases l with
  | nil=>rfl
  | cons t r=>rfl
end Pn
end Go.Proofs.YtglepipfdmphhaaGreatDoor
