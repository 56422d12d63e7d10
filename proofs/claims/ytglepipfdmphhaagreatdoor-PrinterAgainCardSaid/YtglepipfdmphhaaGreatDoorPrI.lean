/-
  PrF, PrG, PrI in one text.
-/
import Derived.Test.YtglepipfdmphhaaGreatDoorPrB
import Derived.Test.YtglepipfdmphhaaGreatDoorPrE
import Derived.Deep.DrawnRows
import Derived.Deep.RegionHeld3
namespace Go.Proofs.YtglepipfdmphhaaGreatDoor
set_option linter.unusedVariables false
set_option linter.unusedSimpArgs false
open Go Go.RowKit
def Rch (n:Nat):Prop:=n≤140737488351232
def RdS {α:Type} (C:Nat) (R:World→List Value→α→Prop) (w:World) (v:Value) (l:List α):Prop :=
 ∃ ao cap,v = .slice ao l.length cap∧(l.length≤cap∧Rch l.length)∧∀ (i:Nat) (x:α),l[i]? = some x→∃ b off cs,ao=some ⟨b,off,none⟩∧b < w.heap.size∧cs.length=C∧R w cs x∧∀ (j:Nat) (c:Value),cs[j]? = some c→w.cell? ⟨b,off+i*C+j,none⟩=some c
def Kq {α:Type} (R:World→List Value→α→Prop):Prop:=∀ (w w':World) (cs:List Value) (x:α),Chg [] w w'→R w cs x→R w' cs x
theorem RdS.keep {α:Type} {C:Nat} {R:World→List Value→α→Prop} (hR:Kq R) {w w':World} {v:Value} {l:List α} (h:RdS C R w v l) (hc:Chg [] w w'):RdS C R w' v l:=by
 obtain ⟨ao,cap,hv,hn,h1⟩:=h
 refine ⟨ao,cap,hv,hn,fun i x hx=>?_⟩
 obtain ⟨b,off,cs,ha,hb,hl,hr,h2⟩:=h1 i x hx
 exact ⟨b,off,cs,ha,Nat.lt_of_lt_of_le hb hc.size,hl,hR _ _ _ _ hc hr,fun j c hj=>(World.cell?_of_block (hc.block b hb (by simp))).trans (h2 j c hj)⟩
theorem RdS.form {α:Type} {C:Nat} {R:World→List Value→α→Prop} {w:World} {v:Value} {l:List α} (h:RdS C R w v l):∃ ao cap,v = .slice ao l.length cap∧l.length≤cap∧Rch l.length:=by
 obtain ⟨ao,cap,hv,hn,_⟩:=h
 exact ⟨ao,cap,hv,hn⟩
theorem RdS.elem {α:Type} {C:Nat} {R:World→List Value→α→Prop} {w:World} {ao:Option Addr} {n cap:Nat} {l:List α} (h:RdS C R w (.slice ao n cap) l) {i:Nat} {x:α} (hx:l[i]? = some x) :
 ∃ b off cs,ao=some ⟨b,off,none⟩∧b < w.heap.size∧cs.length=C∧R w cs x∧∀ (j:Nat) (c:Value),cs[j]? = some c→w.cell? ⟨b,off+i*C+j,none⟩=some c:=by
 obtain ⟨ao',cap',he,_,h1⟩:=h
 cases he
 exact h1 i x hx
theorem RdS.nil {α:Type} (C:Nat) (R:World→List Value→α→Prop) (w:World) (ao:Option Addr) (cap:Nat):RdS C R w (.slice ao 0 cap) []:=⟨ao,cap,rfl,⟨Nat.zero_le _,by simp[Rch]⟩,fun i x hx=>by simp at hx⟩
theorem RdS.take {α:Type} {C:Nat} {R:World→List Value→α→Prop} {w:World} {ao:Option Addr} {n cap:Nat} {l:List α} (h:RdS C R w (.slice ao n cap) l) (k cap':Nat) (hk:k≤l.length) (hc:k≤cap'):RdS C R w (.slice ao k cap') (l.take k):=by
 obtain ⟨_,_,_,hn⟩:=h.form
 unfold Rch at hn
 have e:(l.take k).length=k:=by rw[List.length_take,Nat.min_eq_left hk]
 refine ⟨ao,cap',by rw[e],⟨by rw[e];exact hc,by unfold Rch;omega⟩,fun i x hx=>?_⟩
 rw[List.getElem?_take] at hx
 split at hx
 · exact h.elem hx
 cases hx
theorem RdS.of_cells {α:Type} {C:Nat} {R:World→List Value→α→Prop} {w:World} {l:List α} {css:List (List Value)} {b off cap:Nat} (hl:css.length=l.length) (hcap:l.length≤cap) (hrc:Rch l.length)
 (hC:∀ cs ∈ css,cs.length=C) (hR:∀ (i:Nat) (x:α) (cs:List Value),l[i]? = some x→css[i]? = some cs→R w cs x)
 (hc:∀ (k:Nat) (c:Value),css.flatten[k]? = some c→w.cell? ⟨b,off+k,none⟩=some c) (hb:b < w.heap.size):RdS C R w (.slice (some ⟨b,off,none⟩) l.length cap) l:=by
 refine ⟨_,cap,rfl,⟨hcap,hrc⟩,fun i x hx=>?_⟩
 have hi:i < l.length:=(List.getElem?_eq_some_iff.1 hx).1
 have hcs:css[i]? = some (css[i]'(by omega)):=List.getElem?_eq_getElem (by omega)
 have hm:css[i]'(by omega) ∈ css:=List.getElem_mem _
 refine ⟨b,off,_,rfl,hb,hC _ hm,hR i x _ hx hcs,fun j c hj=>?_⟩
 rw[Nat.add_assoc]
 refine hc _ c ?_
 have h1:∀ (css:List (List Value)) (i:Nat) (cs:List Value),(∀ cs ∈ css,cs.length=C)→css[i]? = some cs→∀ j c,cs[j]? = some c→css.flatten[i*C+j]? = some c:=by
  intro css
  induction css with
  | nil=>intro i cs _ h;simp at h
  | cons y ys ih =>
   intro i cs hC h j c hj
   have hy:y.length=C:=hC y (by simp)
   cases i with
   | zero =>
    simp at h
    subst h
    rw[List.flatten_cons,Nat.zero_mul,Nat.zero_add,List.getElem?_append_left (List.getElem?_eq_some_iff.1 hj).1,hj]
   | succ i =>
    simp at h
    rw[List.flatten_cons,List.getElem?_append_right (by rw[hy,Nat.succ_mul];omega),hy,show (i+1)*C+j - C=i*C+j by rw[Nat.succ_mul];omega]
    exact ih i cs (fun z hz=>hC z (by simp[hz])) h j c hj
 exact h1 css i _ hC hcs j c hj
namespace Pr
def iv (n:Int):Value:=.int .i64 n
def sv (s:Bytes):Value:=.string ⟨s.toArray⟩
def RMk (w:World) (cs:List Value) (m:Mk):Prop:=cs=[iv m.kind,iv m.seat,iv m.w]∧I64 m.kind∧I64 m.seat∧I64 m.w
def RRw (w:World) (cs:List Value) (r:Rw):Prop:=∃ mv,cs=[sv r.name,iv r.x,iv r.y,iv r.f,iv r.t,iv r.step,mv,iv r.at_]∧RdS 3 RMk w mv r.marks∧I64 r.x∧I64 r.y∧I64 r.f∧I64 r.t∧I64 r.step∧Rch r.name.length
def RBl (w:World) (cs:List Value) (b:Bl):Prop:=∃ rv,cs=[sv b.name,rv,iv b.at_]∧RdS 8 RRw w rv b.rows∧Rch b.name.length
def RBx (w:World) (cs:List Value) (b:Bx):Prop:=cs=[iv b.x,iv b.y,iv b.x2,iv b.y2]∧I64 b.x∧I64 b.y∧I64 b.x2∧I64 b.y2
def RAr (w:World) (cs:List Value) (a:Ar):Prop:=cs=[sv a.name,iv a.box.x,iv a.box.y,iv a.box.x2,iv a.box.y2,iv a.holds,iv a.at_]∧I64 a.box.x∧I64 a.box.y∧I64 a.box.x2∧I64 a.box.y2∧I64 a.holds∧Rch a.name.length
def RPt (w:World) (cs:List Value) (p:Int × Int):Prop:=cs=[iv p.1,iv p.2]∧I64 p.1∧I64 p.2
def RLv (w:World) (cs:List Value) (l:Lv):Prop:=∃ v1 v2 v3 v4 v5,cs=[sv l.name,iv l.height,v1,v2,v3,v4,v5,iv l.at_]∧I64 l.height∧RdS 3 RBl w v1 l.blocks∧RdS 7 RAr w v2 l.areas∧RdS 4 RBx w v3 l.aisles∧RdS 4 RBx w v4 l.pillars∧RdS 2 RPt w v5 l.doors∧Rch l.name.length
def RHl (w:World) (cs:List Value) (h:Hl):Prop:=∃ lv,cs=[sv h.name,iv h.sx,iv h.sy,lv]∧I64 h.sx∧I64 h.sy∧RdS 8 RLv w lv h.levels∧Rch h.name.length
def RTst (w:World) (cs:List Value) (t:Tst):Prop:=cs=[sv t.attr,iv t.op,sv t.name,iv t.n,iv t.at_]∧I64 t.op∧I64 t.n∧Rch t.attr.length∧Rch t.name.length
def RTl (w:World) (cs:List Value) (l:List Tst):Prop:=∃ v,cs=[v]∧RdS 5 RTst w v l
def RItm (w:World) (cs:List Value) (x:Itm):Prop:=∃ v,cs=[iv x.kind,sv x.name,v,iv x.n,iv x.r.1,iv x.r.2,iv x.s.1,iv x.s.2,iv x.at_]∧I64 x.kind∧I64 x.n∧I64 x.r.1∧I64 x.r.2∧I64 x.s.1∧I64 x.s.2∧RdS 1 RTl w v x.whn∧Rch x.name.length
theorem kq_mk:Kq RMk:=fun _ _ _ _ _ h=>h
theorem kq_rw:Kq RRw:=fun _ _ _ _ hc ⟨mv,h,hr,h1⟩=>⟨mv,h,hr.keep kq_mk hc,h1⟩
theorem kq_bl:Kq RBl:=fun _ _ _ _ hc ⟨rv,h,hr,h1⟩=>⟨rv,h,hr.keep kq_rw hc,h1⟩
theorem kq_bx:Kq RBx:=fun _ _ _ _ _ h=>h
theorem kq_ar:Kq RAr:=fun _ _ _ _ _ h=>h
theorem kq_pt:Kq RPt:=fun _ _ _ _ _ h=>h
theorem kq_lv:Kq RLv:=fun _ _ _ _ hc ⟨v1,v2,v3,v4,v5,h,h0,h1,h2,h3,h4,h5,h6⟩=>⟨v1,v2,v3,v4,v5,h,h0,h1.keep kq_bl hc,h2.keep kq_ar hc,h3.keep kq_bx hc,h4.keep kq_bx hc,h5.keep kq_pt hc,h6⟩
theorem kq_hl:Kq RHl:=fun _ _ _ _ hc ⟨lv,h,h1,h2,hr,h3⟩=>⟨lv,h,h1,h2,hr.keep kq_lv hc,h3⟩
theorem kq_tst:Kq RTst:=fun _ _ _ _ _ h=>h
theorem kq_tl:Kq RTl:=fun _ _ _ _ hc ⟨v,h,hr⟩=>⟨v,h,hr.keep kq_tst hc⟩
theorem kq_itm:Kq RItm:=fun _ _ _ _ hc ⟨v,h,h1,h2,h3,h4,h5,h6,hr,h7⟩=>⟨v,h,h1,h2,h3,h4,h5,h6,hr.keep kq_tl hc,h7⟩
def RIn (w:World) (cs:List Value) (n:Int):Prop:=cs=[iv n]∧I64 n
theorem kq_in:Kq RIn:=fun _ _ _ _ _ h=>h
def szRow (r:Rw):Prop:=r.name.length≤1000∧r.marks.length≤10000
def szLv (l:Lv):Prop:=l.name.length≤1000∧(∀ b ∈ l.blocks,b.name.length≤1000∧b.rows.length≤1000000∧∀ r ∈ b.rows,szRow r)∧(∀ a ∈ l.areas,a.name.length≤1000)∧l.blocks.length≤1000000∧l.areas.length≤1000000∧l.aisles.length≤1000000∧l.pillars.length≤1000000∧l.doors.length≤1000000
def szHl (h:Hl):Prop:=h.name.length≤1000∧h.levels.length≤1000000∧∀ l ∈ h.levels,szLv l
def szTst (t:Tst):Prop:=t.attr.length≤1000∧t.name.length≤1000
def szItm (x:Itm):Prop:=x.name.length≤1000∧x.whn.length≤1000000∧∀ l ∈ x.whn,l.length≤1000000∧∀ t ∈ l,szTst t
end Pr
end Go.Proofs.YtglepipfdmphhaaGreatDoor
namespace Go.Proofs.YtglepipfdmphhaaGreatDoor
set_option linter.unusedVariables false
set_option linter.unusedSimpArgs false
open Go Go.RowKit Go.Shelf
theorem BW.rest {T:TypeId} {b:Nat} {o:Bytes} {rest rest':List Value} {v p:Value} {w w':World} (h:BW T b o rest v w) (hc:Chg [b] w w') (hp:p = .pointer none∨p = .pointer (some ⟨b,0,none⟩)) (hb:Blk w' b (p :: v :: rest') T):BW T b o rest' v w' :=
 ⟨⟨p,hp,hb⟩,owns_keep h.own hc (fun k hk=>by have:=h.ge k hk;simp;omega),h.nil⟩
theorem BW.keep {T:TypeId} {b:Nat} {o:Bytes} {rest:List Value} {v:Value} {own:List Nat} {w w':World} (h:BW T b o rest v w) (hc:Chg own w w') (h1:b ∉ own) (h2:∀ k,v.ownBlock=some k→k ∉ own):BW T b o rest v w':=by
 obtain ⟨p,hp,hb⟩:=h.blk
 exact ⟨⟨p,hp,hc.blk hb h1⟩,owns_keep h.own hc h2,h.nil⟩
theorem BW.quiet {T:TypeId} {b:Nat} {o:Bytes} {rest:List Value} {v:Value} {w w':World} (h:BW T b o rest v w) (hc:Chg [] w w'):BW T b o rest v w':=h.keep hc (by simp) (fun _ _=>by simp)
def Wst (T:TypeId) (b:Nat) (deep:Nat) (bad:Bool) (out:Bytes) (v:Value) (w:World):Prop :=
 ∃ o:Bytes,BW T b o [.int .i64 (deep:Int),.bool bad] v w∧o.length≤2000000∧(bad=false→o=out)
theorem Wst.quiet {T:TypeId} {b deep:Nat} {bad:Bool} {out:Bytes} {v:Value} {w w':World} (h:Wst T b deep bad out v w) (hc:Chg [] w w'):Wst T b deep bad out v w':=by
 obtain ⟨o,h1,h2⟩:=h
 exact ⟨o,h1.quiet hc,h2⟩
theorem Wst.lt {T:TypeId} {b deep:Nat} {bad:Bool} {out:Bytes} {v:Value} {w:World} (h:Wst T b deep bad out v w):b < w.heap.size:=by
 obtain ⟨o,h1,_⟩:=h
 exact h1.lt
theorem Wst.bad {T:TypeId} {b deep:Nat} {out out':Bytes} {v:Value} {w:World} (h:Wst T b deep true out v w):Wst T b deep true out' v w:=by
 obtain ⟨o,h1,h2,_⟩:=h
 exact ⟨o,h1,h2,fun e=>by cases e⟩
structure Wto (T:TypeId) (b:Nat) (deep:Nat) (bad:Bool) (out:Bytes) (v:Value) (w:World) (v':Value) (w':World):Prop where
 st:Wst T b deep bad out v' w'
 wr:Wr b v w v' w'
theorem own_ge {T:TypeId} {b deep:Nat} {bad:Bool} {out:Bytes} {v:Value} {w:World} (h:Wst T b deep bad out v w):∀ k,v.ownBlock=some k→b+1≤k∧k < w.heap.size:=by
 obtain ⟨o,h1,_⟩:=h
 exact h1.ge
theorem Wr.seen {T:TypeId} {b deep:Nat} {bad:Bool} {out:Bytes} {v v':Value} {w0 w w':World} (h:Wr b v w v' w') (hs:Wst T b deep bad out v w) (hc:Chg [] w0 w) (hb:w0.heap.size≤b):Chg [] w0 w' :=
 h.quiet hc hb (fun k hk=>by have:=own_ge hs k hk;omega)
end Go.Proofs.YtglepipfdmphhaaGreatDoor
namespace Go.Proofs.YtglepipfdmphhaaGreatDoor
set_option linter.unusedVariables false
set_option linter.unusedSimpArgs false
open Go
def undone (l:Array Bool):Nat:=l.toList.count false
theorem undone_set {l:Array Bool} {i:Nat} (h:l.getD i true=false):undone (l.setIfInBounds i true)+1=undone l:=by
 unfold undone
 by_cases hi:i < l.size
 · have h1:l.toList[i]'(by simpa using hi)=false:=by simpa [Array.getD,hi] using h
   rw[Array.toList_setIfInBounds,List.count_set (by simpa using hi),h1]
   have h2:0 < l.toList.count false:=List.count_pos_iff.2 (h1 ▸ List.getElem_mem _)
   simp only[BEq.rfl,if_true]
   have h3:((true == false)=true)=False:=by simp
   rw[if_neg (by simp)]
   omega
 simp[Array.getD,hi] at h
section
variable {P:Program} {ops:Array Oper} {Q:Exit→Act→World→Prop} {md:Region.Mode}
theorem wpAnyH_inv {S:World→Prop} (I:Array Bool→Act→World→Prop) (hdone:∀ l a w,I l a w→Region.ready md ops l=[]→Q .normal a w)
 (hstep:∀ l a w i,I l a w→i ∈ Region.ready md ops l→wpOp P ops Q i (fun a' w'=>S w'∧I (l.setIfInBounds i true) a' w') a w) :
 ∀ (fuel:Nat) (l:Array Bool) (a:Act) (w:World),undone l≤fuel→I l a w→wpAnyH P md ops Q S fuel l a w
 | 0,l,a,w,h0,hI=>by
  have hr:Region.ready md ops l=[]:=by
   refine List.eq_nil_iff_forall_not_mem.2 fun i hi=>?_
   have:=undone_set (mem_ready.1 hi).1
   omega
  exact ⟨hr,hdone l a w hI hr⟩
 | fuel+1,l,a,w,h0,hI=>⟨hdone l a w hI,fun i hi=>wpOp_mono (fun a' w' h=>⟨h.1,wpAnyH_inv I hdone hstep fuel _ a' w' (by have:=undone_set (mem_ready.1 hi).1;omega) h.2⟩) (hstep l a w i hI hi)⟩
theorem wpOp_hand {K:Act→World→Prop} {a:Act} {w:World} {i:Nat} {o:Oper} (ho:ops[i]? = some o)
 (h:∀ K':Act→World→Prop,Shut (∀ a w,K a w→K' a w)→if Region.wanted o (yielded ops a.tmps)=true then Oper.wp P o a w K' Q else K' (a.put o.dst undef) w):wpOp P ops Q i K a w :=
 wpOp_step ho (fun K' hK=>h K' hK)
end
end Go.Proofs.YtglepipfdmphhaaGreatDoor
