/-
  PrIn, PrIw, PrRl in one text.
-/
import Derived.Test.YtglepipfdmphhaaGreatDoorPrN
import Derived.Test.YtglepipfdmphhaaGreatDoorLsA
namespace Go.Proofs.YtglepipfdmphhaaGreatDoor
set_option linter.unusedVariables false
set_option linter.unusedSimpArgs false
open Go Go.RowKit Go.Shelf
theorem tk_step {α:Type} {l m:List α} {j:Nat} {x:α} (h:l.take j=m.take j) (h1:l[j]? = some x) (h2:m[j]? = some x):l.take (j+1)=m.take (j+1):=by
 obtain ⟨a1,e1⟩:=List.getElem?_eq_some_iff.1 h1
 obtain ⟨a2,e2⟩:=List.getElem?_eq_some_iff.1 h2
 rw[List.take_succ_eq_append_getElem a1,List.take_succ_eq_append_getElem a2,h,e1,e2]
theorem tk_ne {α:Type} {l m:List α} {j:Nat} {x y:α} (h1:l[j]? = some x) (h2:m[j]? = some y) (hn:x≠y):l≠m:=by
 intro e
 rw[e,h2] at h1
 cases h1
 exact hn rfl
theorem tk_end {α:Type} {l m:List α} {j:Nat} (h:l.take j=m.take j) (h1:l.length≤j) (h2:m.length≤j):l=m:=by rwa [List.take_of_length_le h1,List.take_of_length_le h2] at h
theorem len_ne {α:Type} {l m:List α} (h:l.length≠m.length):l≠m:=fun e=>h (by rw[e])
theorem map_at {α β:Type} {l:List α} {j:Nat} {x:α} (f:α→β) (h:l[j]? = some x):(l.map f)[j]? = some (f x):=by rw[List.getElem?_map,h];rfl
theorem RdS.at_ {α:Type} {C:Nat} {R:World→List Value→α→Prop} {w0 w:World} {ao:Option Addr} {n cap:Nat} {l:List α} (h:RdS C R w0 (.slice ao n cap) l) (hc:Chg [] w0 w) {j:Nat} (hj:j < l.length) :
 ∃ x b off cs,l[j]? = some x∧ao=some ⟨b,off,none⟩∧cs.length=C∧R w0 cs x∧∀ (k:Nat) (c:Value),cs[k]? = some c→w.cell? ⟨b,off+j*C+k,none⟩=some c:=by
 obtain ⟨b,off,cs,ha,hb,hl,hr,h1⟩:=h.elem (List.getElem?_eq_getElem hj)
 exact ⟨_,b,off,cs,List.getElem?_eq_getElem hj,ha,hl,hr,fun k c hk=>(World.cell?_of_block (hc.block b hb (by simp))).trans (h1 k c hk)⟩
theorem RdS.cp {α:Type} {C:Nat} {R:World→List Value→α→Prop} {w:World} {ao:Option Addr} {n cap:Nat} {l:List α} (h:RdS C R w (.slice ao n cap) l):n≤cap∧n≤140737488351232∧l.length=n:=by
 obtain ⟨ao',cap',he,h1,h2⟩:=h.form
 cases he
 exact ⟨h1,h2,rfl⟩
structure LvR (w:World) (a:Pr.Lv) (p0 p1 p2 p3 p4:Option Addr) (n0 n1 n2 n3 n4 k0 k1 k2 k3 k4:Nat):Prop where
 rb:RdS 3 Pr.RBl w (.slice p0 n0 k0) a.blocks
 ra:RdS 7 Pr.RAr w (.slice p1 n1 k1) a.areas
 ri:RdS 4 Pr.RBx w (.slice p2 n2 k2) a.aisles
 rp:RdS 4 Pr.RBx w (.slice p3 n3 k3) a.pillars
 rd:RdS 2 Pr.RPt w (.slice p4 n4 k4) a.doors
theorem fin_len (ok:Bool) (s:Bytes):(Pr.fin ok s).1.length≤20000:=by
 unfold Pr.fin
 split
 · simp
 split
 · simp
 rename_i h
 simp only
 omega
structure InH (w:World) (h:Pr.Hl) (ao:Option Addr) (cap n:Nat):Prop where
 hn:h.levels.length=n
 hm:RdS 8 Pr.RLv w (.slice ao n cap) h.levels
 hi:Pr.I64 h.sx∧Pr.I64 h.sy
 hr:Rch n
theorem InH.keep {w w':World} {h:Pr.Hl} {ao:Option Addr} {cap n:Nat} (H:InH w h ao cap n) (hc:Chg [] w w'):InH w' h ao cap n:=⟨H.hn,H.hm.keep Pr.kq_lv hc,H.hi,H.hr⟩
structure InR (w:World) (l:List Pr.Itm) (ao:Option Addr) (cap n:Nat):Prop where
 hn:l.length=n
 hm:RdS 9 Pr.RItm w (.slice ao n cap) l
 hr:Rch n
theorem InR.keep {w w':World} {l:List Pr.Itm} {ao:Option Addr} {cap n:Nat} (H:InR w l ao cap n) (hc:Chg [] w w'):InR w' l ao cap n:=⟨H.hn,H.hm.keep Pr.kq_itm hc,H.hr⟩
end Go.Proofs.YtglepipfdmphhaaGreatDoor
namespace Go.Proofs.YtglepipfdmphhaaGreatDoor
set_option linter.unusedVariables false
set_option linter.unusedSimpArgs false
open Go Go.RowKit
structure InW (w:World) (x:Pr.Rw) (ao:Option Addr) (cap n:Nat):Prop where
 hn:x.marks.length=n
 hm:RdS 3 Pr.RMk w (.slice ao n cap) x.marks
 hi:Pr.I64 x.x∧Pr.I64 x.y∧Pr.I64 x.f∧Pr.I64 x.t∧Pr.I64 x.step
 hr:Rch n
 hs:Rch x.name.length
def rwC (x:Pr.Rw) (ao:Option Addr) (cap n:Nat):List Value:=[.string ⟨x.name.toArray⟩,.int .i64 x.x,.int .i64 x.y,.int .i64 x.f,.int .i64 x.t,.int .i64 x.step,.slice ao n cap,.int .i64 x.at_]
theorem InW.keep {w w':World} {x:Pr.Rw} {ao:Option Addr} {cap n:Nat} (H:InW w x ao cap n) (hc:Chg [] w w'):InW w' x ao cap n:=⟨H.hn,H.hm.keep Pr.kq_mk hc,H.hi,H.hr,H.hs⟩
theorem InW.rd {w:World} {x:Pr.Rw} {ao:Option Addr} {cap n:Nat} (H:InW w x ao cap n):Pr.RRw w (rwC x ao cap n) x:=⟨_,rfl,H.hm,H.hi.1,H.hi.2.1,H.hi.2.2.1,H.hi.2.2.2.1,H.hi.2.2.2.2,H.hs⟩
theorem RdS.of_own' {α:Type} {C:Nat} {R:World→List Value→α→Prop} {w:World} {B:Nat} {e:TypeId} {g n cap:Nat} {l:List α} {css:List (List Value)} (h:w.ownsRow B e C (.slice (some ⟨g,0,none⟩) n cap) n css.flatten) (hl:css.length=l.length) (hn:n=l.length) (hrc:Rch n)
 (hC:∀ cs ∈ css,cs.length=C) (hR:∀ (i:Nat) (x:α) (cs:List Value),l[i]? = some x→css[i]? = some cs→R w cs x):RdS C R w (.slice (some ⟨g,0,none⟩) n cap) l:=by
 rcases h.2 with ⟨he,_⟩|⟨g',cap',cur,he,hB,hg,hle,hm,hsz,ht⟩
 · cases he
 cases he
 subst hn
 refine RdS.of_cells hl hle hrc hC hR (fun k c hk=>?_) (Array.getElem?_eq_some_iff.1 hg).1
 rw[cell_of_row w g _ _ _ (0,0) hg,Nat.zero_add]
 have hlt:k < l.length*C:=by
  have h1:=(List.getElem?_eq_some_iff.1 hk).1
  have h2:css.flatten.length=css.length*C:=by
   clear hk h1 ht h hR hl
   induction css with
   | nil=>simp
   | cons d ds ih=>rw[List.flatten_cons,List.length_append,ih (fun cs hcs=>hC cs (by simp[hcs])),hC d (by simp),List.length_cons,Nat.add_mul];omega
  rw[h2,hl] at h1
  exact h1
 have h5:(cur.toList.take (l.length*C))[k]? = some c:=by rw[ht];exact hk
 rw[List.getElem?_take_of_lt hlt,Array.getElem?_toList] at h5
 exact h5
def OwR (B:Nat) (c:List Value) (j:Nat) (v:Value) (w:World):Prop:=w.ownsRow B 48 8 v j (List.replicate j c).flatten
theorem OwR.form {B j:Nat} {c:List Value} {v:Value} {w:World} (h:OwR B c j v w):∃ ao cap,v = .slice ao j cap:=by
 rcases h.2 with ⟨rfl,h0⟩|⟨g,cap,cur,rfl,_⟩
 · exact ⟨none,0,by rw[h0]⟩
 exact ⟨_,_,rfl⟩
theorem OwR.rd {B j:Nat} {w:World} {x:Pr.Rw} {ao:Option Addr} {cap n:Nat} {v:Value} (h:OwR B (rwC x ao cap n) j v w) (H:InW w x ao cap n) (hj:j≤1000):RdS 8 Pr.RRw w v (List.replicate j x):=by
 rcases h.2 with ⟨rfl,h0⟩|⟨g,cap',cur,rfl,_⟩
 · subst h0
   exact RdS.nil _ _ _ _ _
 refine RdS.of_own' (css:=List.replicate j (rwC x ao cap n)) h (by simp) (by simp) (by unfold Rch;omega) (fun cs hcs=>by rw[List.eq_of_mem_replicate hcs];rfl) (fun i y cs h1 h2=>?_)
 have e1:=List.eq_of_mem_replicate (List.mem_of_getElem? h1)
 have e2:=List.eq_of_mem_replicate (List.mem_of_getElem? h2)
 rw[e1,e2]
 exact H.rd
end Go.Proofs.YtglepipfdmphhaaGreatDoor
namespace Go.Proofs.YtglepipfdmphhaaGreatDoor
set_option linter.unusedVariables false
set_option linter.unusedSimpArgs false
open Go Go.RowKit
theorem RdS.all {α:Type} {C:Nat} {R:World→List Value→α→Prop} {w:World} {v:Value} {l:List α} (h:RdS C R w v l) {x:α} (hx:x ∈ l):∃ cs,R w cs x:=by
  obtain ⟨ao,cap,_,_,h1⟩:=h
  obtain ⟨i,hi,e⟩:=List.getElem_of_mem hx
  obtain ⟨b,off,cs,_,_,_,hr,_⟩:=h1 i x (by rw[← e];exact List.getElem?_eq_getElem hi)
  exact ⟨cs,hr⟩
theorem ListS.rd {α β:Type} {B:Nat} {E:TypeId} {size:Nat} {C:α→List Value→World→Prop} {l:List α} {v:Value} {w:World} (h:ListS B E size C l v w) {R:World→List Value→β→Prop} (f:α→β) (hn:Rch l.length)
    (hR:∀ a ∈ l,∀ cs,C a cs w→R w cs (f a)):RdS size R w v (l.map f):=by
  obtain ⟨css,h1,h2,h3⟩:=h
  have hlen:∀ cs ∈ css,cs.length=size:=fun cs hc=>by
    obtain ⟨i,hi,e⟩:=List.getElem_of_mem hc
    have hil:i < l.length:=by omega
    exact (h2 i (l[i]'hil) cs (List.getElem?_eq_getElem hil) (by rw[← e];exact List.getElem?_eq_getElem hi)).1
  rcases h3.2 with ⟨hv,h0⟩|⟨g,cap,cur,hv,_⟩
  · have hl:l=[]:=List.eq_nil_of_length_eq_zero h0
    subst hl
    subst hv
    exact RdS.nil _ _ _ _ _
  subst hv
  have e:l.length=(l.map f).length:=(List.length_map ..).symm
  refine RdS.of_own' (css:=css) h3 (by rw[← e];exact h1) e hn hlen (fun i x cs hx hc=>?_)
  rw[List.getElem?_map] at hx
  obtain ⟨a,ha,rfl⟩:=Option.map_eq_some_iff.1 hx
  exact hR a (List.mem_of_getElem? ha) cs (h2 i a cs ha hc).2
namespace Pr
theorem i64f {n:Nat} (h:n≤9999999999):I64 (n:Int):=by unfold I64;omega
theorem rchf {n k:Nat} (h:n≤k) (hk:k≤10000):Rch n:=by unfold Rch;omega
end Pr
end Go.Proofs.YtglepipfdmphhaaGreatDoor
