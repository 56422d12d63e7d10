/-
 Printer: halls and rules that come in, opened to lists that can be read.
-/
import Derived.Test.YtglepipfdmphhaaGreatDoorPrI
import Derived.Test.YtglepipfdmphhaaGreatDoorProg
import Derived.Deep.Slices
import Derived.Deep.Fields
import Derived.ChangeSame
import Derived.ProofKit
import Derived.Below
set_option maxRecDepth 100000
set_option maxHeartbeats 40000000
namespace Go.Proofs.YtglepipfdmphhaaGreatDoor
open Go Go.RowKit Go.ChangeShapes Go.WideShapes Go.Deep
set_option linter.unusedVariables false
set_option linter.unusedSimpArgs false
theorem bd_i64 {n:Int} (h:(Lit.int .i64 n).wf=true):-9223372036854775808≤n∧n≤9223372036854775807:=by
 simpa [Lit.wf,IntKind.min,IntKind.max,IntKind.signed,IntKind.bits] using h
instance:Inhabited Pr.Itm:=⟨⟨0,[],[],0,(0,0),(0,0),0⟩⟩
def Sz {H:Type} (P:Program) (t:TypeId) (d:DataW H):Prop:=∀ n ∈ d.weights P t,n≤reachBytes
theorem wEach_mem {H:Type} {P:Program} {n:Nat}:∀ (ts:List TypeId) (ds:List (DataW H)) (i:Nat) (t:TypeId) (d:DataW H),ts[i]? = some t→ds[i]? = some d→n ∈ d.weights P t→n ∈ DataW.weightsEach P ts ds
 | [],_,i,t,d,h,_,_=>by simp at h
 | _ :: _,[],i,t,d,_,h,_=>by simp at h
 | u :: us,e :: es,0,t,d,h,h1,h2=>by
  simp at h h1
  subst h
  subst h1
  unfold DataW.weightsEach
  exact List.mem_append_left _ h2
 | u :: us,e :: es,i+1,t,d,h,h1,h2=>by
  unfold DataW.weightsEach
  exact List.mem_append_right _ (wEach_mem us es i t d (by simpa using h) (by simpa using h1) h2)
theorem wAll_mem {H:Type} {P:Program} {e:TypeId} {n:Nat}:∀ (ds:List (DataW H)) (d:DataW H),d ∈ ds→n ∈ d.weights P e→n ∈ DataW.weightsAll P e ds
 | [],d,h,_=>by simp at h
 | x :: ds,d,h,h2=>by
  unfold DataW.weightsAll
  rcases List.mem_cons.1 h with rfl|h
  · exact List.mem_append_left _ h2
  exact List.mem_append_right _ (wAll_mem ds d h h2)
theorem Sz.part {H:Type} {P:Program} {t:TypeId} {fs:Array Field} {parts:List (DataW H)} (ht:P.underlying t=some (.struct fs)) (h:Sz P t (.agg parts)) {i:Nat} {f:Field} {d:DataW H} (hf:fs[i]? = some f) (hd:parts[i]? = some d):Sz P f.type d:=fun n hn=>by
 refine h n ?_
 unfold DataW.weights
 rw[ht]
 exact wEach_mem _ _ i f.type d (by simp[hf]) hd hn
theorem Sz.len {H:Type} {P:Program} {t e:TypeId} {l m:List (DataW H)} (ht:P.underlying t=some (.slice e)) (he:0 < P.bytesOf e) (h:Sz P t (.slice l m)):l.length≤reachBytes:=by
 have h1:=h ((l.length+m.length)*P.bytesOf e) (by
  unfold DataW.weights
  rw[ht]
  exact List.mem_cons_self)
 have h2:(l.length+m.length)*1≤(l.length+m.length)*P.bytesOf e:=Nat.mul_le_mul_left _ he
 omega
theorem Sz.elem {H:Type} {P:Program} {t e:TypeId} {l m:List (DataW H)} (ht:P.underlying t=some (.slice e)) (h:Sz P t (.slice l m)) {d:DataW H} (hd:d ∈ l):Sz P e d:=fun n hn=>by
 refine h n ?_
 unfold DataW.weights
 rw[ht]
 exact List.mem_cons_of_mem _ (List.mem_append_left _ (wAll_mem l d hd hn))
section
variable {H:Type} {enc:TypeId × Value→H} {w:World} {base:Nat} {spare:Nat→Bool} {held:Bool}
theorem rd_slice {α:Type} [Inhabited α] {C:Nat} {R:World→List Value→α→Prop} {P:Program} {t e:TypeId} {fuel:Nat} {cs:List Value} {x:DataW H × List MemPlace} (ht:P.underlying t=some (.slice e)) (hC:P.cellsOf e=C) (h0:0 < C)
 (h1:0 < P.bytesOf e) (hz:Sz P t x.1)
 (hR:∀ (n:Nat) (cs:List Value) (x:DataW H × List MemPlace),Sz P e x.1→DataW.trod enc P w base spare held n e cs=some x→cs.length=C→∃ v,R w cs v) (h:DataW.trod enc P w base spare held fuel t cs=some x) :
 ∃ v l,cs=[v]∧RdS C R w v l:=by
 rcases open_slice ht h with ⟨rfl,_⟩|⟨a,len,cap,m,n,D,Pl,rfl,_,hl,hm,hmm,rfl,hi⟩
 · exact ⟨_,[],rfl,RdS.nil C R w none 0⟩
 have hlen:=Sz.len ht h1 hz
 rw[List.length_map,List.length_range] at hlen
 have hsz:∀ i,i < len→Sz P e (D i):=fun i hi=>Sz.elem ht hz (List.mem_map.2 ⟨i,List.mem_range.2 hi,rfl⟩)
 have hlm:len≤m:=by rw[hmm];split <;> omega
 have key:∀ i,i < len→∃ y:α,∃ cs',cs'.length=C∧R w cs' y∧∀ (j:Nat) (c:Value),cs'[j]? = some c→w.cell? ((a.add (i*C)).add j)=some c:=by
  intro i him
  obtain ⟨cs',hc,ht'⟩:=hi i (by omega)
  rw[hC] at hc
  obtain ⟨_,hcl,hat⟩:=World.cells?_some hc
  obtain ⟨y,hy⟩:=hR n cs' _ (hsz i him) ht' hcl
  refine ⟨y,cs',hcl,hy,fun j c hj=>?_⟩
  have hjl:j < C:=by have:=(List.getElem?_eq_some_iff.1 hj).1;omega
  rw[hat j hjl,hj]
 obtain ⟨f,hf⟩:=choose_lt key
 refine ⟨_,(List.range len).map f,rfl,⟨some a,cap,by simp,⟨by simpa using hl,by unfold reachBytes at hlen;unfold Rch;simpa using hlen⟩,fun i x hx=>?_⟩⟩
 rw[List.getElem?_map] at hx
 obtain ⟨i',hi',rfl⟩:=Option.map_eq_some_iff.1 hx
 have hil:i < len:=by
  have:=(List.getElem?_eq_some_iff.1 hi').1
  simpa using this
 rw[List.getElem?_range hil] at hi'
 cases hi'
 obtain ⟨cs',h1,h2,h3⟩:=hf i hil
 obtain ⟨ab,off,sp⟩:=a
 have hc0:=h3 0 (cs'[0]'(by omega)) (List.getElem?_eq_getElem (by omega))
 have hsp:sp=none:=by
  obtain ⟨cs0,g1,_,g3⟩:=hf 0 (by omega)
  have h9:=World.cell?_spot (g3 0 (cs0[0]'(by omega)) (List.getElem?_eq_getElem (by omega)))
  simpa [Addr.add] using h9
 subst hsp
 simp only[addr_add] at h3 hc0
 exact ⟨ab,off,cs',rfl,World.block_lt_of_cell? _ _ hc0,h1,h2,h3⟩
theorem rd_int {n:Nat} {c:Value} {y:DataW H × List MemPlace} (h:DataW.trod enc Tryz.prog w base spare held n 3 [c]=some y):∃ k,c=Pr.iv k∧Pr.I64 k:=by
 obtain ⟨k,e,_,wk⟩:=DataW.trod_int Tryz.underlying3 h
 simp only[List.cons.injEq,and_true] at e
 exact ⟨k,e,bd_i64 wk⟩
theorem rd_str {n:Nat} {c:Value} {y:DataW H × List MemPlace} (hz:Sz Tryz.prog 9 y.1) (h:DataW.trod enc Tryz.prog w base spare held n 9 [c]=some y):∃ s,c=Pr.sv s∧Rch s.length:=by
 obtain ⟨k,e,rfl,_⟩:=DataW.trod_string Tryz.underlying9 h
 simp only[List.cons.injEq,and_true] at e
 refine ⟨k.data.toList,by rw[e];rfl,hz _ ?_⟩
 show _ ∈ DataW.weights _ _ (.lit (.string k.data.toList))
 unfold DataW.weights
 exact List.mem_singleton.2 rfl
theorem k_int:Tryz.prog.cellsOf 3=1:=by kernel_rfl
theorem k_str:Tryz.prog.cellsOf 9=1:=by kernel_rfl
theorem k_mk:Tryz.prog.cellsOf 45=3:=by kernel_rfl
theorem rd_mk {n:Nat} {cs:List Value} {y:DataW H × List MemPlace} (hz:Sz Tryz.prog 45 y.1) (h:DataW.trod enc Tryz.prog w base spare held n 45 cs=some y):∃ v,Pr.RMk w cs v:=by
 obtain ⟨ys,n,_,rfl,hlen,hyl,hf⟩:=DataW.trod_struct Tryz.underlying45 h
 rw[k_mk] at hlen
 match cs,hlen,ys,hyl,hz with
 | [c0,c1,c2],_,[y0,y1,y2],_,hz =>
  have t0:DataW.trod enc Tryz.prog w base spare held n 3 [c0]=some y0:=by simpa [k_int] using hf 0 _ rfl
  obtain ⟨v0,rfl,b0⟩:=rd_int t0
  have t1:DataW.trod enc Tryz.prog w base spare held n 3 [c1]=some y1:=by simpa [k_int] using hf 1 _ rfl
  obtain ⟨v1,rfl,b1⟩:=rd_int t1
  have t2:DataW.trod enc Tryz.prog w base spare held n 3 [c2]=some y2:=by simpa [k_int] using hf 2 _ rfl
  obtain ⟨v2,rfl,b2⟩:=rd_int t2
  exact ⟨⟨v0,v1,v2⟩,rfl,b0,b1,b2⟩
theorem k_mks:Tryz.prog.cellsOf 46=1:=by kernel_rfl
theorem rd_mks {n:Nat} {cs:List Value} {y:DataW H × List MemPlace} (hz:Sz Tryz.prog 46 y.1) (h:DataW.trod enc Tryz.prog w base spare held n 46 cs=some y):∃ v l,cs=[v]∧RdS 3 Pr.RMk w v l :=
 rd_slice Tryz.underlying46 (by kernel_rfl) (by decide) (by decide +kernel) hz (fun _ _ _ z h hl=>rd_mk z h) h
theorem k_rw:Tryz.prog.cellsOf 48=8:=by kernel_rfl
theorem rd_rw {n:Nat} {cs:List Value} {y:DataW H × List MemPlace} (hz:Sz Tryz.prog 48 y.1) (h:DataW.trod enc Tryz.prog w base spare held n 48 cs=some y):∃ v,Pr.RRw w cs v:=by
 obtain ⟨ys,n,_,rfl,hlen,hyl,hf⟩:=DataW.trod_struct Tryz.underlying48 h
 rw[k_rw] at hlen
 match cs,hlen,ys,hyl,hz with
 | [c0,c1,c2,c3,c4,c5,c6,c7],_,[y0,y1,y2,y3,y4,y5,y6,y7],_,hz =>
  have t0:DataW.trod enc Tryz.prog w base spare held n 9 [c0]=some y0:=by simpa [k_str] using hf 0 _ rfl
  have z0:Sz Tryz.prog 9 y0.1:=Sz.part Tryz.underlying48 hz (i:=0) rfl rfl
  obtain ⟨v0,rfl,b0⟩:=rd_str z0 t0
  have t1:DataW.trod enc Tryz.prog w base spare held n 3 [c1]=some y1:=by simpa [k_int] using hf 1 _ rfl
  obtain ⟨v1,rfl,b1⟩:=rd_int t1
  have t2:DataW.trod enc Tryz.prog w base spare held n 3 [c2]=some y2:=by simpa [k_int] using hf 2 _ rfl
  obtain ⟨v2,rfl,b2⟩:=rd_int t2
  have t3:DataW.trod enc Tryz.prog w base spare held n 3 [c3]=some y3:=by simpa [k_int] using hf 3 _ rfl
  obtain ⟨v3,rfl,b3⟩:=rd_int t3
  have t4:DataW.trod enc Tryz.prog w base spare held n 3 [c4]=some y4:=by simpa [k_int] using hf 4 _ rfl
  obtain ⟨v4,rfl,b4⟩:=rd_int t4
  have t5:DataW.trod enc Tryz.prog w base spare held n 3 [c5]=some y5:=by simpa [k_int] using hf 5 _ rfl
  obtain ⟨v5,rfl,b5⟩:=rd_int t5
  have t6:DataW.trod enc Tryz.prog w base spare held n 46 [c6]=some y6:=by simpa [k_mks] using hf 6 _ rfl
  have z6:Sz Tryz.prog 46 y6.1:=Sz.part Tryz.underlying48 hz (i:=6) rfl rfl
  obtain ⟨u6,v6,e6,b6⟩:=rd_mks z6 t6
  simp only[List.cons.injEq,and_true] at e6
  subst e6
  have t7:DataW.trod enc Tryz.prog w base spare held n 3 [c7]=some y7:=by simpa [k_int] using hf 7 _ rfl
  obtain ⟨v7,rfl,b7⟩:=rd_int t7
  exact ⟨⟨v0,v1,v2,v3,v4,v5,v6,v7⟩,_,rfl,b6,b1,b2,b3,b4,b5,b0⟩
theorem k_rws:Tryz.prog.cellsOf 49=1:=by kernel_rfl
theorem rd_rws {n:Nat} {cs:List Value} {y:DataW H × List MemPlace} (hz:Sz Tryz.prog 49 y.1) (h:DataW.trod enc Tryz.prog w base spare held n 49 cs=some y):∃ v l,cs=[v]∧RdS 8 Pr.RRw w v l :=
 rd_slice Tryz.underlying49 (by kernel_rfl) (by decide) (by decide +kernel) hz (fun _ _ _ z h hl=>rd_rw z h) h
theorem k_bl:Tryz.prog.cellsOf 51=3:=by kernel_rfl
theorem rd_bl {n:Nat} {cs:List Value} {y:DataW H × List MemPlace} (hz:Sz Tryz.prog 51 y.1) (h:DataW.trod enc Tryz.prog w base spare held n 51 cs=some y):∃ v,Pr.RBl w cs v:=by
 obtain ⟨ys,n,_,rfl,hlen,hyl,hf⟩:=DataW.trod_struct Tryz.underlying51 h
 rw[k_bl] at hlen
 match cs,hlen,ys,hyl,hz with
 | [c0,c1,c2],_,[y0,y1,y2],_,hz =>
  have t0:DataW.trod enc Tryz.prog w base spare held n 9 [c0]=some y0:=by simpa [k_str] using hf 0 _ rfl
  have z0:Sz Tryz.prog 9 y0.1:=Sz.part Tryz.underlying51 hz (i:=0) rfl rfl
  obtain ⟨v0,rfl,b0⟩:=rd_str z0 t0
  have t1:DataW.trod enc Tryz.prog w base spare held n 49 [c1]=some y1:=by simpa [k_rws] using hf 1 _ rfl
  have z1:Sz Tryz.prog 49 y1.1:=Sz.part Tryz.underlying51 hz (i:=1) rfl rfl
  obtain ⟨u1,v1,e1,b1⟩:=rd_rws z1 t1
  simp only[List.cons.injEq,and_true] at e1
  subst e1
  have t2:DataW.trod enc Tryz.prog w base spare held n 3 [c2]=some y2:=by simpa [k_int] using hf 2 _ rfl
  obtain ⟨v2,rfl,b2⟩:=rd_int t2
  exact ⟨⟨v0,v1,v2⟩,_,rfl,b1,b0⟩
theorem k_bls:Tryz.prog.cellsOf 52=1:=by kernel_rfl
theorem rd_bls {n:Nat} {cs:List Value} {y:DataW H × List MemPlace} (hz:Sz Tryz.prog 52 y.1) (h:DataW.trod enc Tryz.prog w base spare held n 52 cs=some y):∃ v l,cs=[v]∧RdS 3 Pr.RBl w v l :=
 rd_slice Tryz.underlying52 (by kernel_rfl) (by decide) (by decide +kernel) hz (fun _ _ _ z h hl=>rd_bl z h) h
theorem k_bx:Tryz.prog.cellsOf 54=4:=by kernel_rfl
theorem rd_bx {n:Nat} {cs:List Value} {y:DataW H × List MemPlace} (hz:Sz Tryz.prog 54 y.1) (h:DataW.trod enc Tryz.prog w base spare held n 54 cs=some y):∃ v,Pr.RBx w cs v:=by
 obtain ⟨ys,n,_,rfl,hlen,hyl,hf⟩:=DataW.trod_struct Tryz.underlying54 h
 rw[k_bx] at hlen
 match cs,hlen,ys,hyl,hz with
 | [c0,c1,c2,c3],_,[y0,y1,y2,y3],_,hz =>
  have t0:DataW.trod enc Tryz.prog w base spare held n 3 [c0]=some y0:=by simpa [k_int] using hf 0 _ rfl
  obtain ⟨v0,rfl,b0⟩:=rd_int t0
  have t1:DataW.trod enc Tryz.prog w base spare held n 3 [c1]=some y1:=by simpa [k_int] using hf 1 _ rfl
  obtain ⟨v1,rfl,b1⟩:=rd_int t1
  have t2:DataW.trod enc Tryz.prog w base spare held n 3 [c2]=some y2:=by simpa [k_int] using hf 2 _ rfl
  obtain ⟨v2,rfl,b2⟩:=rd_int t2
  have t3:DataW.trod enc Tryz.prog w base spare held n 3 [c3]=some y3:=by simpa [k_int] using hf 3 _ rfl
  obtain ⟨v3,rfl,b3⟩:=rd_int t3
  exact ⟨⟨v0,v1,v2,v3⟩,rfl,b0,b1,b2,b3⟩
theorem k_bxs:Tryz.prog.cellsOf 58=1:=by kernel_rfl
theorem rd_bxs {n:Nat} {cs:List Value} {y:DataW H × List MemPlace} (hz:Sz Tryz.prog 58 y.1) (h:DataW.trod enc Tryz.prog w base spare held n 58 cs=some y):∃ v l,cs=[v]∧RdS 4 Pr.RBx w v l :=
 rd_slice Tryz.underlying58 (by kernel_rfl) (by decide) (by decide +kernel) hz (fun _ _ _ z h hl=>rd_bx z h) h
theorem k_ar:Tryz.prog.cellsOf 56=7:=by kernel_rfl
theorem rd_ar {n:Nat} {cs:List Value} {y:DataW H × List MemPlace} (hz:Sz Tryz.prog 56 y.1) (h:DataW.trod enc Tryz.prog w base spare held n 56 cs=some y):∃ v,Pr.RAr w cs v:=by
 obtain ⟨ys,n,_,rfl,hlen,hyl,hf⟩:=DataW.trod_struct Tryz.underlying56 h
 rw[k_ar] at hlen
 match cs,hlen,ys,hyl,hz with
 | [c0,c1,c2,c3,c4,c5,c6],_,[y0,y1,y2,y3],_,hz =>
  have t0:DataW.trod enc Tryz.prog w base spare held n 9 [c0]=some y0:=by simpa [k_str] using hf 0 _ rfl
  have z0:Sz Tryz.prog 9 y0.1:=Sz.part Tryz.underlying56 hz (i:=0) rfl rfl
  obtain ⟨v0,rfl,b0⟩:=rd_str z0 t0
  have t1:DataW.trod enc Tryz.prog w base spare held n 54 [c1,c2,c3,c4]=some y1:=by simpa [k_bx] using hf 1 _ rfl
  have z1:Sz Tryz.prog 54 y1.1:=Sz.part Tryz.underlying56 hz (i:=1) rfl rfl
  obtain ⟨v1,e1,b1⟩:=rd_bx z1 t1
  simp only[List.cons.injEq,and_true] at e1
  obtain ⟨rfl,rfl,rfl,rfl⟩:=e1
  have t2:DataW.trod enc Tryz.prog w base spare held n 3 [c5]=some y2:=by simpa [k_int] using hf 2 _ rfl
  obtain ⟨v2,rfl,b2⟩:=rd_int t2
  have t3:DataW.trod enc Tryz.prog w base spare held n 3 [c6]=some y3:=by simpa [k_int] using hf 3 _ rfl
  obtain ⟨v3,rfl,b3⟩:=rd_int t3
  exact ⟨⟨v0,v1,v2,v3⟩,rfl,b1.1,b1.2.1,b1.2.2.1,b1.2.2.2,b2,b0⟩
theorem k_ars:Tryz.prog.cellsOf 57=1:=by kernel_rfl
theorem rd_ars {n:Nat} {cs:List Value} {y:DataW H × List MemPlace} (hz:Sz Tryz.prog 57 y.1) (h:DataW.trod enc Tryz.prog w base spare held n 57 cs=some y):∃ v l,cs=[v]∧RdS 7 Pr.RAr w v l :=
 rd_slice Tryz.underlying57 (by kernel_rfl) (by decide) (by decide +kernel) hz (fun _ _ _ z h hl=>rd_ar z h) h
theorem k_pt:Tryz.prog.cellsOf 23=2:=by kernel_rfl
theorem rd_pt {n:Nat} {cs:List Value} {y:DataW H × List MemPlace} (hz:Sz Tryz.prog 23 y.1) (h:DataW.trod enc Tryz.prog w base spare held n 23 cs=some y):∃ v,Pr.RPt w cs v:=by
 obtain ⟨ys,n,_,rfl,hlen,hyl,hf⟩:=DataW.trod_struct Tryz.underlying23 h
 rw[k_pt] at hlen
 match cs,hlen,ys,hyl,hz with
 | [c0,c1],_,[y0,y1],_,hz =>
  have t0:DataW.trod enc Tryz.prog w base spare held n 3 [c0]=some y0:=by simpa [k_int] using hf 0 _ rfl
  obtain ⟨v0,rfl,b0⟩:=rd_int t0
  have t1:DataW.trod enc Tryz.prog w base spare held n 3 [c1]=some y1:=by simpa [k_int] using hf 1 _ rfl
  obtain ⟨v1,rfl,b1⟩:=rd_int t1
  exact ⟨(v0,v1),rfl,b0,b1⟩
theorem k_pts:Tryz.prog.cellsOf 59=1:=by kernel_rfl
theorem rd_pts {n:Nat} {cs:List Value} {y:DataW H × List MemPlace} (hz:Sz Tryz.prog 59 y.1) (h:DataW.trod enc Tryz.prog w base spare held n 59 cs=some y):∃ v l,cs=[v]∧RdS 2 Pr.RPt w v l :=
 rd_slice Tryz.underlying59 (by kernel_rfl) (by decide) (by decide +kernel) hz (fun _ _ _ z h hl=>rd_pt z h) h
theorem k_lv:Tryz.prog.cellsOf 61=8:=by kernel_rfl
theorem rd_lv {n:Nat} {cs:List Value} {y:DataW H × List MemPlace} (hz:Sz Tryz.prog 61 y.1) (h:DataW.trod enc Tryz.prog w base spare held n 61 cs=some y):∃ v,Pr.RLv w cs v:=by
 obtain ⟨ys,n,_,rfl,hlen,hyl,hf⟩:=DataW.trod_struct Tryz.underlying61 h
 rw[k_lv] at hlen
 match cs,hlen,ys,hyl,hz with
 | [c0,c1,c2,c3,c4,c5,c6,c7],_,[y0,y1,y2,y3,y4,y5,y6,y7],_,hz =>
  have t0:DataW.trod enc Tryz.prog w base spare held n 9 [c0]=some y0:=by simpa [k_str] using hf 0 _ rfl
  have z0:Sz Tryz.prog 9 y0.1:=Sz.part Tryz.underlying61 hz (i:=0) rfl rfl
  obtain ⟨v0,rfl,b0⟩:=rd_str z0 t0
  have t1:DataW.trod enc Tryz.prog w base spare held n 3 [c1]=some y1:=by simpa [k_int] using hf 1 _ rfl
  obtain ⟨v1,rfl,b1⟩:=rd_int t1
  have t2:DataW.trod enc Tryz.prog w base spare held n 52 [c2]=some y2:=by simpa [k_bls] using hf 2 _ rfl
  have z2:Sz Tryz.prog 52 y2.1:=Sz.part Tryz.underlying61 hz (i:=2) rfl rfl
  obtain ⟨u2,v2,e2,b2⟩:=rd_bls z2 t2
  simp only[List.cons.injEq,and_true] at e2
  subst e2
  have t3:DataW.trod enc Tryz.prog w base spare held n 57 [c3]=some y3:=by simpa [k_ars] using hf 3 _ rfl
  have z3:Sz Tryz.prog 57 y3.1:=Sz.part Tryz.underlying61 hz (i:=3) rfl rfl
  obtain ⟨u3,v3,e3,b3⟩:=rd_ars z3 t3
  simp only[List.cons.injEq,and_true] at e3
  subst e3
  have t4:DataW.trod enc Tryz.prog w base spare held n 58 [c4]=some y4:=by simpa [k_bxs] using hf 4 _ rfl
  have z4:Sz Tryz.prog 58 y4.1:=Sz.part Tryz.underlying61 hz (i:=4) rfl rfl
  obtain ⟨u4,v4,e4,b4⟩:=rd_bxs z4 t4
  simp only[List.cons.injEq,and_true] at e4
  subst e4
  have t5:DataW.trod enc Tryz.prog w base spare held n 58 [c5]=some y5:=by simpa [k_bxs] using hf 5 _ rfl
  have z5:Sz Tryz.prog 58 y5.1:=Sz.part Tryz.underlying61 hz (i:=5) rfl rfl
  obtain ⟨u5,v5,e5,b5⟩:=rd_bxs z5 t5
  simp only[List.cons.injEq,and_true] at e5
  subst e5
  have t6:DataW.trod enc Tryz.prog w base spare held n 59 [c6]=some y6:=by simpa [k_pts] using hf 6 _ rfl
  have z6:Sz Tryz.prog 59 y6.1:=Sz.part Tryz.underlying61 hz (i:=6) rfl rfl
  obtain ⟨u6,v6,e6,b6⟩:=rd_pts z6 t6
  simp only[List.cons.injEq,and_true] at e6
  subst e6
  have t7:DataW.trod enc Tryz.prog w base spare held n 3 [c7]=some y7:=by simpa [k_int] using hf 7 _ rfl
  obtain ⟨v7,rfl,b7⟩:=rd_int t7
  exact ⟨⟨v0,v1,v2,v3,v4,v5,v6,v7⟩,_,_,_,_,_,rfl,b1,b2,b3,b4,b5,b6,b0⟩
theorem k_lvs:Tryz.prog.cellsOf 24=1:=by kernel_rfl
theorem rd_lvs {n:Nat} {cs:List Value} {y:DataW H × List MemPlace} (hz:Sz Tryz.prog 24 y.1) (h:DataW.trod enc Tryz.prog w base spare held n 24 cs=some y):∃ v l,cs=[v]∧RdS 8 Pr.RLv w v l :=
 rd_slice Tryz.underlying24 (by kernel_rfl) (by decide) (by decide +kernel) hz (fun _ _ _ z h hl=>rd_lv z h) h
theorem k_hl:Tryz.prog.cellsOf 26=4:=by kernel_rfl
theorem rd_hl {n:Nat} {cs:List Value} {y:DataW H × List MemPlace} (hz:Sz Tryz.prog 26 y.1) (h:DataW.trod enc Tryz.prog w base spare held n 26 cs=some y):∃ v,Pr.RHl w cs v:=by
 obtain ⟨ys,n,_,rfl,hlen,hyl,hf⟩:=DataW.trod_struct Tryz.underlying26 h
 rw[k_hl] at hlen
 match cs,hlen,ys,hyl,hz with
 | [c0,c1,c2,c3],_,[y0,y1,y2],_,hz =>
  have t0:DataW.trod enc Tryz.prog w base spare held n 9 [c0]=some y0:=by simpa [k_str] using hf 0 _ rfl
  have z0:Sz Tryz.prog 9 y0.1:=Sz.part Tryz.underlying26 hz (i:=0) rfl rfl
  obtain ⟨v0,rfl,b0⟩:=rd_str z0 t0
  have t1:DataW.trod enc Tryz.prog w base spare held n 23 [c1,c2]=some y1:=by simpa [k_pt] using hf 1 _ rfl
  have z1:Sz Tryz.prog 23 y1.1:=Sz.part Tryz.underlying26 hz (i:=1) rfl rfl
  obtain ⟨v1,e1,b1⟩:=rd_pt z1 t1
  simp only[List.cons.injEq,and_true] at e1
  obtain ⟨rfl,rfl⟩:=e1
  have t2:DataW.trod enc Tryz.prog w base spare held n 24 [c3]=some y2:=by simpa [k_lvs] using hf 2 _ rfl
  have z2:Sz Tryz.prog 24 y2.1:=Sz.part Tryz.underlying26 hz (i:=2) rfl rfl
  obtain ⟨u2,v2,e2,b2⟩:=rd_lvs z2 t2
  simp only[List.cons.injEq,and_true] at e2
  subst e2
  exact ⟨⟨v0,v1.1,v1.2,v2⟩,_,rfl,b1.1,b1.2,b2,b0⟩
theorem k_tst:Tryz.prog.cellsOf 63=5:=by kernel_rfl
theorem rd_tst {n:Nat} {cs:List Value} {y:DataW H × List MemPlace} (hz:Sz Tryz.prog 63 y.1) (h:DataW.trod enc Tryz.prog w base spare held n 63 cs=some y):∃ v,Pr.RTst w cs v:=by
 obtain ⟨ys,n,_,rfl,hlen,hyl,hf⟩:=DataW.trod_struct Tryz.underlying63 h
 rw[k_tst] at hlen
 match cs,hlen,ys,hyl,hz with
 | [c0,c1,c2,c3,c4],_,[y0,y1,y2,y3,y4],_,hz =>
  have t0:DataW.trod enc Tryz.prog w base spare held n 9 [c0]=some y0:=by simpa [k_str] using hf 0 _ rfl
  have z0:Sz Tryz.prog 9 y0.1:=Sz.part Tryz.underlying63 hz (i:=0) rfl rfl
  obtain ⟨v0,rfl,b0⟩:=rd_str z0 t0
  have t1:DataW.trod enc Tryz.prog w base spare held n 3 [c1]=some y1:=by simpa [k_int] using hf 1 _ rfl
  obtain ⟨v1,rfl,b1⟩:=rd_int t1
  have t2:DataW.trod enc Tryz.prog w base spare held n 9 [c2]=some y2:=by simpa [k_str] using hf 2 _ rfl
  have z2:Sz Tryz.prog 9 y2.1:=Sz.part Tryz.underlying63 hz (i:=2) rfl rfl
  obtain ⟨v2,rfl,b2⟩:=rd_str z2 t2
  have t3:DataW.trod enc Tryz.prog w base spare held n 3 [c3]=some y3:=by simpa [k_int] using hf 3 _ rfl
  obtain ⟨v3,rfl,b3⟩:=rd_int t3
  have t4:DataW.trod enc Tryz.prog w base spare held n 3 [c4]=some y4:=by simpa [k_int] using hf 4 _ rfl
  obtain ⟨v4,rfl,b4⟩:=rd_int t4
  exact ⟨⟨v0,v1,v2,v3,v4⟩,rfl,b1,b3,b0,b2⟩
theorem k_tsts:Tryz.prog.cellsOf 64=1:=by kernel_rfl
theorem rd_tsts {n:Nat} {cs:List Value} {y:DataW H × List MemPlace} (hz:Sz Tryz.prog 64 y.1) (h:DataW.trod enc Tryz.prog w base spare held n 64 cs=some y):∃ v l,cs=[v]∧RdS 5 Pr.RTst w v l :=
 rd_slice Tryz.underlying64 (by kernel_rfl) (by decide) (by decide +kernel) hz (fun _ _ _ z h hl=>rd_tst z h) h
theorem k_tl:Tryz.prog.cellsOf 65=1:=by kernel_rfl
theorem rd_tl {n:Nat} {cs:List Value} {y:DataW H × List MemPlace} (hz:Sz Tryz.prog 65 y.1) (h:DataW.trod enc Tryz.prog w base spare held n 65 cs=some y):∃ v l,cs=[v]∧RdS 1 Pr.RTl w v l :=
 rd_slice Tryz.underlying65 (by kernel_rfl) (by decide) (by decide +kernel) hz (fun _ _ _ z h hl=>(by obtain ⟨v,l,e,h1⟩:=rd_tsts z h;exact ⟨l,v,e,h1⟩)) h
theorem k_rat:Tryz.prog.cellsOf 67=2:=by kernel_rfl
theorem rd_rat {n:Nat} {cs:List Value} {y:DataW H × List MemPlace} (hz:Sz Tryz.prog 67 y.1) (h:DataW.trod enc Tryz.prog w base spare held n 67 cs=some y):∃ v,Pr.RPt w cs v:=by
 obtain ⟨ys,n,_,rfl,hlen,hyl,hf⟩:=DataW.trod_struct Tryz.underlying67 h
 rw[k_rat] at hlen
 match cs,hlen,ys,hyl,hz with
 | [c0,c1],_,[y0,y1],_,hz =>
  have t0:DataW.trod enc Tryz.prog w base spare held n 3 [c0]=some y0:=by simpa [k_int] using hf 0 _ rfl
  obtain ⟨v0,rfl,b0⟩:=rd_int t0
  have t1:DataW.trod enc Tryz.prog w base spare held n 3 [c1]=some y1:=by simpa [k_int] using hf 1 _ rfl
  obtain ⟨v1,rfl,b1⟩:=rd_int t1
  exact ⟨(v0,v1),rfl,b0,b1⟩
theorem k_itm:Tryz.prog.cellsOf 69=9:=by kernel_rfl
theorem rd_itm {n:Nat} {cs:List Value} {y:DataW H × List MemPlace} (hz:Sz Tryz.prog 69 y.1) (h:DataW.trod enc Tryz.prog w base spare held n 69 cs=some y):∃ v,Pr.RItm w cs v:=by
 obtain ⟨ys,n,_,rfl,hlen,hyl,hf⟩:=DataW.trod_struct Tryz.underlying69 h
 rw[k_itm] at hlen
 match cs,hlen,ys,hyl,hz with
 | [c0,c1,c2,c3,c4,c5,c6,c7,c8],_,[y0,y1,y2,y3,y4,y5,y6],_,hz =>
  have t0:DataW.trod enc Tryz.prog w base spare held n 3 [c0]=some y0:=by simpa [k_int] using hf 0 _ rfl
  obtain ⟨v0,rfl,b0⟩:=rd_int t0
  have t1:DataW.trod enc Tryz.prog w base spare held n 9 [c1]=some y1:=by simpa [k_str] using hf 1 _ rfl
  have z1:Sz Tryz.prog 9 y1.1:=Sz.part Tryz.underlying69 hz (i:=1) rfl rfl
  obtain ⟨v1,rfl,b1⟩:=rd_str z1 t1
  have t2:DataW.trod enc Tryz.prog w base spare held n 65 [c2]=some y2:=by simpa [k_tl] using hf 2 _ rfl
  have z2:Sz Tryz.prog 65 y2.1:=Sz.part Tryz.underlying69 hz (i:=2) rfl rfl
  obtain ⟨u2,v2,e2,b2⟩:=rd_tl z2 t2
  simp only[List.cons.injEq,and_true] at e2
  subst e2
  have t3:DataW.trod enc Tryz.prog w base spare held n 3 [c3]=some y3:=by simpa [k_int] using hf 3 _ rfl
  obtain ⟨v3,rfl,b3⟩:=rd_int t3
  have t4:DataW.trod enc Tryz.prog w base spare held n 67 [c4,c5]=some y4:=by simpa [k_rat] using hf 4 _ rfl
  have z4:Sz Tryz.prog 67 y4.1:=Sz.part Tryz.underlying69 hz (i:=4) rfl rfl
  obtain ⟨v4,e4,b4⟩:=rd_rat z4 t4
  simp only[List.cons.injEq,and_true] at e4
  obtain ⟨rfl,rfl⟩:=e4
  have t5:DataW.trod enc Tryz.prog w base spare held n 67 [c6,c7]=some y5:=by simpa [k_rat] using hf 5 _ rfl
  have z5:Sz Tryz.prog 67 y5.1:=Sz.part Tryz.underlying69 hz (i:=5) rfl rfl
  obtain ⟨v5,e5,b5⟩:=rd_rat z5 t5
  simp only[List.cons.injEq,and_true] at e5
  obtain ⟨rfl,rfl⟩:=e5
  have t6:DataW.trod enc Tryz.prog w base spare held n 3 [c8]=some y6:=by simpa [k_int] using hf 6 _ rfl
  obtain ⟨v6,rfl,b6⟩:=rd_int t6
  exact ⟨⟨v0,v1,v2,v3,v4,v5,v6⟩,_,rfl,b0,b3,b4.1,b4.2,b5.1,b5.2,b2,b1⟩
theorem k_itms:Tryz.prog.cellsOf 36=1:=by kernel_rfl
theorem rd_itms {n:Nat} {cs:List Value} {y:DataW H × List MemPlace} (hz:Sz Tryz.prog 36 y.1) (h:DataW.trod enc Tryz.prog w base spare held n 36 cs=some y):∃ v l,cs=[v]∧RdS 9 Pr.RItm w v l :=
 rd_slice Tryz.underlying36 (by kernel_rfl) (by decide) (by decide +kernel) hz (fun _ _ _ z h hl=>rd_itm z h) h
end
end Go.Proofs.YtglepipfdmphhaaGreatDoor
