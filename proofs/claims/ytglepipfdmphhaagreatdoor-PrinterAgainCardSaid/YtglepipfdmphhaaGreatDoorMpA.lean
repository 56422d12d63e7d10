/-
 Maps that are written out in the text: an insert of a new key, a look-up.
-/
import Derived.Test.YtglepipfdmphhaaGreatDoorHeap
import Derived.MapKept
namespace Go.Proofs.YtglepipfdmphhaaGreatDoor
set_option linter.unusedVariables false
set_option linter.unusedSimpArgs false
open Go Go.RowKit Go.MapKept
def MapB (w:World) (b:Nat) (es:List MapEntry) (ck:Nat):Prop:=w.heap[b]? = some (.map es.toArray ck)
theorem MapB.new (w:World):MapB (w.alloc (.map #[] 0)) w.heap.size [] 0:=(MapKept.heap_alloc w _).1
theorem MapB.lt {w:World} {b:Nat} {es:List MapEntry} {ck:Nat} (h:MapB w b es ck):b < w.heap.size:=(Array.getElem?_eq_some_iff.1 h).1
theorem MapB.keep {own:List Nat} {w w':World} {b:Nat} {es:List MapEntry} {ck:Nat} (h:MapB w b es ck) (hc:Chg own w w') (hb:b ∉ own):MapB w' b es ck :=
 (hc.block b h.lt hb).trans h
def lookIn (d:TypeDesc) (key:Value) (es:List MapEntry) (z:Value):Value:=match Instr.findNow d key es 0 with
 | some (some r)=>r.2
 | _=>z
theorem run_insert_new {P:Program} {w:World} {T K E:TypeId} {d:TypeDesc} (hu:P.underlying T=some (.map K E)) (hk:P.underlying K=some d) {b:Nat} {es:List MapEntry} {ck:Nat} (hb:MapB w b es ck)
 {key v:Value} (hkey:IsKey d key) (hf:Instr.findNow d key es 0=some none) :
 (Instr.mapUpdate T (.map (some b)) key v).run P w = .ok () { w with heap:=w.heap.setIfInBounds b (.map (es++[({ key:=key,val:=v,born:=ck }:MapEntry)]).toArray (ck+1)) }:=by
 have hb':w.heap[b]? = some (.map es.toArray ck):=hb
 have h1:=run_checkKey (P:=P) (w:=w) hk hkey false 9999
 have h2:=run_findKey (P:=P) (w:=w) hk hf
 simp only[Instr.mapUpdate,Sem.run_bind,run_underlying hu,Result.andThen,MapKept.run_getObj_map hb',h1,h2,MapKept.run_setObj_map _ hb']
 simp
theorem wpList_insert_new {P:Program} {w:World} {ops:Array Oper} {rest:List Oper} {o:Oper} {a:Act} {Q:Exit→Act→World→Prop} (hgd:o.guard=none) (hdst:o.dst=none) (m x y:Operand) (T:TypeId) (hop:o.op = .insert T m x y)
 (K E:TypeId) (d:TypeDesc) (hu:P.underlying T=some (.map K E)) (hk:P.underlying K=some d) (b:Nat) (hm:a.eval m = .map (some b)) (key v:Value) (hx:a.eval x=key) (hy:a.eval y=v) (hkey:IsKey d key)
 {es:List MapEntry} {ck:Nat} (hb:MapB w b es ck) (hf:Instr.findNow d key es 0=some none)
 (h:∀ w',MapB w' b (es++[({ key:=key,val:=v,born:=ck }:MapEntry)]) (ck+1)→Chg [b] w w'→w'.heap.size=w.heap.size→wpList P ops Q rest a w'):wpList P ops Q (o :: rest) a w:=by
 refine wpList_plain hgd fun K' hK'=>?_
 have hrun:=run_insert_new (v:=v) hu hk hb hkey hf
 unfold Oper.wp
 simp only[execOp,hop,hm,hx,hy]
 simp[hrun,Result.andThen]
 refine hK' _ _ ?_
 rw[hdst]
 refine h _ ?_ ⟨rfl,rfl,rfl,by simp,fun k _ hn=>?_⟩ (by simp)
 · exact (heap_set hb).1
 exact (heap_set hb).2 k (by simpa using hn)
theorem run_look {P:Program} {w:World} {T K E:TypeId} {d:TypeDesc} (hu:P.underlying T=some (.map K E)) (hk:P.underlying K=some d) {z:Value} (hz:(zeroValue E).run P w = .ok z w) {b:Nat} {es:List MapEntry} {ck:Nat} (hb:MapB w b es ck)
 {key:Value} (hkey:IsKey d key) (hes:∀ x ∈ es,IsKey d x.key):(Instr.lookup T (.map (some b)) key false).run P w = .ok (lookIn d key es z) w:=by
 have hb':w.heap[b]? = some (.map es.toArray ck):=hb
 have h1:=run_checkKey (P:=P) (w:=w) hk hkey es.isEmpty 9999
 rcases findNow_spec hkey es 0 hes with ⟨hf,_⟩|⟨j,e,hf,_,_⟩
 · have h2:=run_findKey (P:=P) (w:=w) hk hf
   simp[Instr.lookup,run_underlying hu,Result.andThen,MapKept.run_getObj_map hb',h1,h2,hz,lookIn,hf]
 have h2:=run_findKey (P:=P) (w:=w) hk hf
 simp[Instr.lookup,run_underlying hu,Result.andThen,MapKept.run_getObj_map hb',h1,h2,lookIn,hf]
def entsFrom:List MapEntry→Nat→List (Value × Value)→List MapEntry
 | es,_,[]=>es
 | es,ck,kv :: r=>entsFrom (es++[({ key:=kv.1,val:=kv.2,born:=ck }:MapEntry)]) (ck+1) r
def newKeys (d:TypeDesc):List MapEntry→Nat→List (Value × Value)→Bool
 | _,_,[]=>true
 | es,ck,kv :: r=>(match Instr.findNow d kv.1 es 0 with
  | some none=>true
  | _=>false) && newKeys d (es++[({ key:=kv.1,val:=kv.2,born:=ck }:MapEntry)]) (ck+1) r
def insertOf (o:Oper):Option (Nat × Bool) × Option Tmp × Op:=(o.guard,o.dst,o.op)
theorem wpList_inserts {P:Program} {ops:Array Oper} {rest:List Oper} {a:Act} {Q:Exit→Act→World→Prop} (T:TypeId) (m:Operand) (K E:TypeId) (d:TypeDesc) (hu:P.underlying T=some (.map K E)) (hk:P.underlying K=some d)
 (b:Nat) (hm:a.eval m = .map (some b)):∀ (os:List Oper) (kvs:List (Value × Value)) (w:World) (es:List MapEntry) (ck:Nat),os.map insertOf=kvs.map (fun kv=>(none,none,Op.insert T m (.const kv.1) (.const kv.2)))→MapB w b es ck →
 (∀ kv ∈ kvs,IsKey d kv.1)→newKeys d es ck kvs=true →
 (∀ w',MapB w' b (entsFrom es ck kvs) (ck+kvs.length)→Chg [b] w w'→w'.heap.size=w.heap.size→wpList P ops Q rest a w')→wpList P ops Q (os++rest) a w
 | [],[],w,es,ck,_,hb,_,_,h=>h w hb (Chg.refl _ _) rfl
 | o :: os,[],w,es,ck,hos,_,_,_,_=>by simp at hos
 | [],kv :: kvs,w,es,ck,hos,_,_,_,_=>by simp at hos
 | o :: os,kv :: kvs,w,es,ck,hos,hb,hkeys,hnew,h=>by
  rw[List.map_cons,List.map_cons,List.cons.injEq] at hos
  obtain ⟨ho,hos⟩:=hos
  simp only[insertOf,Prod.mk.injEq] at ho
  rw[newKeys,Bool.and_eq_true] at hnew
  have hf:Instr.findNow d kv.1 es 0=some none:=by
   have h1:=hnew.1
   split at h1
   · assumption
   cases h1
  rw[List.cons_append]
  refine wpList_insert_new ho.1 ho.2.1 m _ _ T ho.2.2 K E d hu hk b hm _ _ rfl rfl (hkeys kv (by simp)) hb hf ?_
  intro w1 hb1 hc1 hs1
  refine wpList_inserts T m K E d hu hk b hm os kvs w1 _ _ hos hb1 (fun x hx=>hkeys x (by simp[hx])) hnew.2 ?_
  intro w2 hb2 hc2 hs2
  refine h w2 ?_ (hc1.trans hc2 (by simp)) (hs2.trans hs1)
  rw[List.length_cons,show ck+(kvs.length+1)=ck+1+kvs.length by omega]
  exact hb2
theorem findNow_append (d:TypeDesc) (key:Value):∀ (a:List MapEntry) (i:Nat) (b:List MapEntry),Instr.findNow d key a i=some none→Instr.findNow d key (a++b) i=Instr.findNow d key b (i+a.length)
 | [],i,b,_=>rfl
 | e :: a,i,b,h=>by
  unfold Instr.findNow at h
  rw[List.cons_append,Instr.findNow]
  split at h
  · cases h
  · rename_i h1
    rw[findNow_append d key a (i+1) b h,List.length_cons,show i+1+a.length=i+(a.length+1) by omega]
  cases h
def entsOf:Nat→List (Value × Value)→List MapEntry
 | _,[]=>[]
 | ck,kv :: r=>({ key:=kv.1,val:=kv.2,born:=ck }:MapEntry) :: entsOf (ck+1) r
theorem entsFrom_eq:∀ (kvs:List (Value × Value)) (es:List MapEntry) (ck:Nat),entsFrom es ck kvs=es++entsOf ck kvs
 | [],es,ck=>by simp[entsFrom,entsOf]
 | kv :: r,es,ck=>by
  rw[entsFrom,entsFrom_eq r,entsOf,List.append_assoc]
  rfl
def kvS:List (List UInt8)→Nat→List (Value × Value)
 | [],_=>[]
 | x :: r,k=>(.string ⟨x.toArray⟩,.int .i64 (k:Nat)) :: kvS r (k+1)
theorem sameNow_str (a b:List UInt8):Instr.sameNow .string (.string ⟨a.toArray⟩) (.string ⟨b.toArray⟩)=some (decide (a=b)):=by
 show some ((⟨a.toArray⟩:ByteArray) == ⟨b.toArray⟩)=_
 congr 1
 rw[Bool.eq_iff_iff,MapKept.bytes_beq,decide_eq_true_iff]
 simp
def numIn:List (List UInt8)→Nat→List UInt8→Nat
 | [],_,_=>0
 | x :: r,k,t=>if t=x then k else numIn r (k+1) t
theorem lookIn_kvS (t:List UInt8):∀ (l:List (List UInt8)) (k ck i:Nat),(match Instr.findNow .string (.string ⟨t.toArray⟩) (entsOf ck (kvS l k)) i with
 | some (some r)=>r.2
 | _=>.int .i64 0) = .int .i64 (numIn l k t:Nat)
 | [],k,ck,i=>rfl
 | x :: l,k,ck,i=>by
  rw[kvS,entsOf,Instr.findNow,sameNow_str,numIn]
  by_cases h:t=x
  · rw[if_pos h,decide_eq_true h]
  rw[if_neg h,decide_eq_false h]
  exact lookIn_kvS t l (k+1) (ck+1) (i+1)
theorem look_kvS (t:List UInt8) (l:List (List UInt8)):lookIn .string (.string ⟨t.toArray⟩) (entsFrom [] 0 (kvS l 1)) (.int .i64 0) = .int .i64 (numIn l 1 t:Nat):=by
 rw[entsFrom_eq]
 exact lookIn_kvS t l 1 0 0
theorem entsOf_key:∀ (l:List (List UInt8)) (k ck:Nat),∀ x ∈ entsOf ck (kvS l k),IsKey .string x.key
 | [],_,_,x,h=>by simp[kvS,entsOf] at h
 | y :: r,k,c,x,h=>by
  rw[kvS,entsOf] at h
  rcases List.mem_cons.1 h with rfl|h
  · exact trivial
  exact entsOf_key r (k+1) (c+1) x h
theorem run_look_kvS {P:Program} {w:World} {T K E:TypeId} (hu:P.underlying T=some (.map K E)) (hk:P.underlying K=some .string) (hz:(zeroValue E).run P w = .ok (.int .i64 0) w) {b ck:Nat} {l:List (List UInt8)} (hb:MapB w b (entsFrom [] 0 (kvS l 1)) ck)
 (t:List UInt8):(Instr.lookup T (.map (some b)) (.string ⟨t.toArray⟩) false).run P w = .ok (.int .i64 (numIn l 1 t:Nat)) w:=by
 rw[← look_kvS t l]
 exact run_look hu hk hz hb (d:=.string) trivial (by rw[entsFrom_eq];exact entsOf_key l 1 0)
end Go.Proofs.YtglepipfdmphhaaGreatDoor
