/-
  PrA, PrB in one text.
-/
import Derived.Test.YtglepipfdmphhaaGreatDoorLxA
import Derived.Lib.ItoaLen
import Derived.Lib.Fields
namespace Go.Proofs.YtglepipfdmphhaaGreatDoor
set_option linter.unusedVariables false
set_option linter.unusedSimpArgs false
open Go Go.RowKit
namespace Pr
structure Mk where
 kind:Int
 seat:Int
 w:Int
deriving DecidableEq,Inhabited
structure Rw where
 name:Bytes
 x:Int
 y:Int
 f:Int
 t:Int
 step:Int
 marks:List Mk
 at_:Int
deriving DecidableEq,Inhabited
structure Bl where
 name:Bytes
 rows:List Rw
 at_:Int
deriving DecidableEq,Inhabited
structure Bx where
 x:Int
 y:Int
 x2:Int
 y2:Int
deriving DecidableEq,Inhabited
structure Ar where
 name:Bytes
 box:Bx
 holds:Int
 at_:Int
deriving DecidableEq,Inhabited
structure Lv where
 name:Bytes
 height:Int
 blocks:List Bl
 areas:List Ar
 aisles:List Bx
 pillars:List Bx
 doors:List (Int × Int)
 at_:Int
deriving DecidableEq,Inhabited
structure Hl where
 name:Bytes
 sx:Int
 sy:Int
 levels:List Lv
deriving DecidableEq,Inhabited
def nameOk (s:Bytes):Bool:=decide (0 < s.length) && (decide (s.length≤24) && (s.head?.any (fun c=>decide (Lx.cls c=3)) && s.all Lx.word))
def numOk (n:Int):Bool:=decide (0≤n) && decide (n≤9999999999)
def nums (l:List Int):Bytes:=l.flatMap (fun n=>32 :: Lib.itoa n)
def numsOk (l:List Int):Bool:=l.all numOk
def put (deep:Nat) (out s:Bytes):Bytes:=if out.length≤20000 then out++(List.replicate deep 9++s++[10]) else out
def puts (out:Bytes) (l:List (Nat × Bytes)):Bytes:=l.foldl (fun o x=>put x.1 o x.2) out
def tRow:Bytes:=[114,111,119,32]
def tAt:Bytes:=[32,97,116]
def tSeats:Bytes:=[32,115,101,97,116,115]
def tTo:Bytes:=[32,116,111]
def tStep:Bytes:=[32,115,116,101,112]
def tOf:Bytes:=[32,111,102]
def tBlock:Bytes:=[98,108,111,99,107,32]
def tOpen:Bytes:=[32,123]
def tClose:Bytes:=[125]
def tArea:Bytes:=[97,114,101,97,32]
def tHolds:Bytes:=[32,104,111,108,100,115]
def tAisle:Bytes:=[97,105,115,108,101]
def tPillar:Bytes:=[112,105,108,108,97,114]
def tDoor:Bytes:=[100,111,111,114]
def tSemi:Bytes:=[59]
def tHall:Bytes:=[104,97,108,108,32]
def tStage:Bytes:=[32,115,116,97,103,101]
def tLevel:Bytes:=[108,101,118,101,108,32]
def tHeight:Bytes:=[32,104,101,105,103,104,116]
def tLimit:Bytes:=[32,108,105,109,105,116]
def tFee:Bytes:=[32,102,101,101]
def tTax:Bytes:=[32,116,97,120]
def tCap:Bytes:=[32,99,97,112]
def tShare:Bytes:=[32,115,104,97,114,101]
def tWhen:Bytes:=[32,119,104,101,110,32]
def tOr:Bytes:=[32,111,114,32]
def tAnd:Bytes:=[32,97,110,100,32]
def markW (k:Int):Bytes:=if k=1 then [32,103,97,112] else if k=2 then [32,119,104,101,101,108] else if k=3 then [32,104,105,100,100,101,110] else [32,98,101,115,105,100,101]
def markOk (m:Mk):Bool:=decide (1≤m.kind) && (decide (m.kind≤4) && (decide (m.kind=4∨m.w=0) && (numOk m.seat && numOk m.w)))
def markS (m:Mk):Bytes:=markW m.kind++nums [m.seat]++(if m.kind=4 then tOf++nums [m.w] else [])
def rowOk (r:Rw):Bool:=nameOk r.name && (numsOk [r.x,r.y,r.f,r.t,r.step] && r.marks.all markOk)
def rowH (r:Rw):Bytes:=tRow++r.name++tAt++nums [r.x,r.y]++tSeats++nums [r.f]++tTo++nums [r.t]++tStep++nums [r.step]
def rowS (r:Rw):Bytes:=rowH r++r.marks.flatMap markS++tSemi
def rowL (r:Rw):Nat × Bytes:=(3,rowS r)
def blockOk (b:Bl):Bool:=nameOk b.name && b.rows.all rowOk
def blockL (b:Bl):List (Nat × Bytes):=(2,tBlock++b.name++tOpen) :: (b.rows.map rowL++[(2,tClose)])
def boxN (b:Bx):List Int:=[b.x,b.y,b.x2,b.y2]
def boxOk (b:Bx):Bool:=numsOk (boxN b)
def areaOk (a:Ar):Bool:=nameOk a.name && (boxOk a.box && numOk a.holds)
def areaL (a:Ar):Nat × Bytes:=(2,tArea++a.name++nums (boxN a.box)++tHolds++nums [a.holds]++tSemi)
def aisleL (b:Bx):Nat × Bytes:=(2,tAisle++nums (boxN b)++tSemi)
def pillarL (b:Bx):Nat × Bytes:=(2,tPillar++nums (boxN b)++tSemi)
def doorOk (p:Int × Int):Bool:=numsOk [p.1,p.2]
def doorL (p:Int × Int):Nat × Bytes:=(2,tDoor++nums [p.1,p.2]++tSemi)
def levelOk (l:Lv):Bool:=(nameOk l.name && numOk l.height) && (l.blocks.all blockOk && (l.areas.all areaOk && (l.aisles.all boxOk && (l.pillars.all boxOk && l.doors.all doorOk))))
def innerL (l:Lv):List (Nat × Bytes):=l.blocks.flatMap blockL++(l.areas.map areaL++(l.aisles.map aisleL++(l.pillars.map pillarL++l.doors.map doorL)))
def levelL (l:Lv):List (Nat × Bytes):=(1,tLevel++l.name++tHeight++nums [l.height]++tOpen) :: (innerL l++[(1,tClose)])
def hallOk (h:Hl):Bool:=(nameOk h.name && numsOk [h.sx,h.sy]) && h.levels.all levelOk
def hallL (h:Hl):List (Nat × Bytes):=(0,tHall++h.name++tStage++nums [h.sx,h.sy]++tOpen) :: (h.levels.flatMap levelL++[(0,tClose)])
def tokB (one:Bool) (c:UInt8):Nat:=if c=59 then (if one=true then 0 else 1) else if c=47∨c=46 then 2 else 0
def tokF (f:Bytes):Nat:=1+(f.map (tokB (decide (f.length≤1)))).sum
def tokens (s:Bytes):Nat:=((Lib.fields s).map tokF).sum
def fin (ok:Bool) (s:Bytes):Bytes × Nat:=if ok=false then ([],1) else if 20000 < s.length∨5000 < tokens s then ([],3) else (s,0)
def hallText (h:Hl):Bytes:=puts [] (hallL h)
def hall (h:Hl):Bytes × Nat:=fin (hallOk h) (hallText h)
structure Tst where
 attr:Bytes
 op:Int
 name:Bytes
 n:Int
 at_:Int
deriving DecidableEq,Inhabited
structure Itm where
 kind:Int
 name:Bytes
 whn:List (List Tst)
 n:Int
 r:Int × Int
 s:Int × Int
 at_:Int
deriving DecidableEq
def kindW (k:Int):Bytes:=if k=1 then [97,108,108,111,119,32] else if k=2 then [100,101,110,121,32] else if k=3 then [112,114,105,99,101,32] else if k=4 then [114,101,115,97,108,101,32] else if k=5 then [114,101,102,117,110,100,32] else if k=6 then [116,111,103,101,116,104,101,114,32] else [115,105,110,103,108,101,32]
def opW (k:Int):Bytes:=if k=1 then [32,61] else if k=2 then [32,33,61] else if k=3 then [32,60] else if k=4 then [32,60,61] else if k=5 then [32,62] else [32,62,61]
def ratioS (r:Int × Int):Bytes:=nums [r.1]++[47]++Lib.itoa r.2
def ratioOk (r:Int × Int):Bool:=numsOk [r.1,r.2]
def partS (w:Bytes) (r:Int × Int):Bytes:=if r=(0,1) then [] else w++ratioS r
def partOk (r:Int × Int):Bool:=decide (r=(0,1)) || ratioOk r
def wordsS (x:Itm):Bytes:=kindW x.kind++x.name ++
 (if x.kind=1 then (if x.n=0 then [] else tLimit++nums [x.n])
  else if x.kind=3 then nums [x.n]++partS tFee x.r++partS tTax x.s
  else if x.kind=4 then tCap++ratioS x.r++tShare++ratioS x.s
  else if x.kind=5 then ratioS x.r else [])
def wordsOk (x:Itm):Bool:=nameOk x.name &&
 (if x.kind=1 then numOk x.n && decide (x.r=(0,0)∧x.s=(0,0))
  else if x.kind=3 then numOk x.n && (partOk x.r && partOk x.s)
  else if x.kind=4 then decide (x.n=0) && (ratioOk x.r && ratioOk x.s)
  else if x.kind=5 then decide (x.n=0) && (ratioOk x.r && decide (x.s=(0,0)))
  else decide (x.n=0) && decide (x.r=(0,0)∧x.s=(0,0)))
def cut:Bytes→Bytes × Option Bytes
 | []=>([],none)
 | c :: r=>if c=46 then ([],some r) else (c :: (cut r).1,(cut r).2)
def valueOk (s:Bytes):Bool:=nameOk (cut s).1 && (cut s).2.all nameOk
def testS (t:Tst):Bytes:=t.attr++opW t.op++(if t.name=[] then nums [t.n] else 32 :: t.name)
def testOk (t:Tst):Bool:=(decide (1≤t.op) && decide (t.op≤6)) && (nameOk t.attr && (if t.name=[] then numOk t.n else decide (t.n=0) && valueOk t.name))
def join (sep:Bytes):List Bytes→Bytes
 | []=>[]
 | [x]=>x
 | x :: y :: r=>x++sep++join sep (y :: r)
def listOk (l:List Tst):Bool:=decide (0 < l.length) && (decide (l.length≤12) && l.all testOk)
def whensS:Bytes→List (List Tst)→Bytes
 | _,[]=>[]
 | w,l :: r=>w++join tAnd (l.map testS)++whensS tOr r
def itemOk (x:Itm):Bool:=(decide (1≤x.kind) && (decide (x.kind≤7) && decide (x.whn.length≤12))) && (wordsOk x && x.whn.all listOk)
def itemL (x:Itm):Nat × Bytes:=(0,wordsS x++whensS tWhen x.whn++tSemi)
def rulesOk (l:List Itm):Bool:=decide (l.length≤200) && l.all itemOk
def rulesText (l:List Itm):Bytes:=puts [] (l.map itemL)
def rules (l:List Itm):Bytes × Nat:=fin (rulesOk l) (rulesText l)
end Pr
end Go.Proofs.YtglepipfdmphhaaGreatDoor
namespace Go.Proofs.YtglepipfdmphhaaGreatDoor
set_option linter.unusedVariables false
set_option linter.unusedSimpArgs false
open Go Go.RowKit
namespace Pr
def adds (out:Bytes) (l:List Bytes):Bytes:=l.foldl (fun o x=>if o.length≤20000 then o++x else o) out
theorem adds_cons (out x:Bytes) (l:List Bytes):adds out (x :: l)=adds (if out.length≤20000 then out++x else out) l:=rfl
theorem adds_big {out:Bytes} (h:20000 < out.length):∀ l:List Bytes,adds out l=out
 | []=>rfl
 | x :: l=>by
  rw[adds_cons,if_neg (by omega)]
  exact adds_big h l
theorem adds_append (out:Bytes) (l m:List Bytes):adds out (l++m)=adds (adds out l) m:=by
 unfold adds
 rw[List.foldl_append]
theorem adds_full:∀ (l:List Bytes) (out:Bytes),(out++l.flatten).length≤20000→adds out l=out++l.flatten
 | [],out,_=>by simp[adds]
 | x :: l,out,h=>by
  simp only[List.flatten_cons,List.length_append] at h
  rw[adds_cons,if_pos (by omega),adds_full l _ (by simp only[List.length_append];omega)]
  simp
theorem adds_over:∀ (l:List Bytes) (out:Bytes),20000 < (out++l.flatten).length→20000 < (adds out l).length
 | [],out,h=>by simpa [adds] using h
 | x :: l,out,h=>by
  rw[adds_cons]
  by_cases ho:out.length≤20000
  · rw[if_pos ho]
    exact adds_over l _ (by simpa using h)
  rw[if_neg ho,adds_big (by omega)]
  omega
def lineB (x:Nat × Bytes):Bytes:=List.replicate x.1 9++x.2++[10]
def full (l:List (Nat × Bytes)):Bytes:=l.flatMap lineB
theorem puts_adds (out:Bytes):∀ l:List (Nat × Bytes),puts out l=adds out (l.map lineB):=by
 intro l
 unfold puts adds
 rw[List.foldl_map]
 rfl
theorem puts_append (out:Bytes) (l m:List (Nat × Bytes)):puts out (l++m)=puts (puts out l) m:=by
 unfold puts
 rw[List.foldl_append]
theorem puts_cons (out:Bytes) (x:Nat × Bytes) (l:List (Nat × Bytes)):puts out (x :: l)=puts (put x.1 out x.2) l:=rfl
theorem full_eq (l:List (Nat × Bytes)):(l.map lineB).flatten=full l:=by
 unfold full
 rw[List.flatMap_def]
theorem puts_full {out:Bytes} {l:List (Nat × Bytes)} (h:(out++full l).length≤20000):puts out l=out++full l:=by
 rw[puts_adds,adds_full _ _ (by rw[full_eq];exact h),full_eq]
theorem puts_over {out:Bytes} {l:List (Nat × Bytes)} (h:20000 < (out++full l).length):20000 < (puts out l).length:=by
 rw[puts_adds]
 exact adds_over _ _ (by rw[full_eq];exact h)
theorem fin_full (ok:Bool) (l:List (Nat × Bytes)):fin ok (puts [] l)=if ok=false then ([],1) else if 20000 < (full l).length∨5000 < tokens (full l) then ([],3) else (full l,0):=by
 unfold fin
 by_cases hl:(full l).length≤20000
 · rw[puts_full (out:=[]) (by simpa using hl)]
   simp
 have h1:20000 < (puts [] l).length:=puts_over (out:=[]) (by simp;omega)
 have h2:20000 < (full l).length:=by omega
 cases ok
 · simp
 simp[h1,h2]
theorem put_len (d:Nat) (out s:Bytes) {m:Nat} (h:out.length≤20000+m) (hs:d+s.length+1≤m):(put d out s).length≤20000+m:=by
 unfold put
 split
 · simp only[List.length_append,List.length_replicate,List.length_singleton]
   omega
 exact h
theorem itoa_len (n:Int) (h:-9223372036854775808≤n∧n≤9223372036854775807):(Lib.itoa n).length≤21:=Lib.itoa_length_le n h.1 h.2
def I64 (n:Int):Prop:=-9223372036854775808≤n∧n≤9223372036854775807
theorem nums_nil:nums []=[]:=rfl
theorem nums_append (a b:List Int):nums (a++b)=nums a++nums b:=List.flatMap_append
theorem nums_len:∀ l:List Int,(∀ n ∈ l,I64 n)→(nums l).length≤22*l.length
 | [],_=>by simp[nums]
 | n :: l,h=>by
  have h1:=itoa_len n (h n (by simp))
  have h2:=nums_len l (fun k hk=>h k (by simp[hk]))
  simp only[nums,List.flatMap_cons,List.length_append,List.length_cons] at h2 ⊢
  omega
theorem numsOk_append (a b:List Int):numsOk (a++b)=(numsOk a && numsOk b):=List.all_append
end Pr
end Go.Proofs.YtglepipfdmphhaaGreatDoor
