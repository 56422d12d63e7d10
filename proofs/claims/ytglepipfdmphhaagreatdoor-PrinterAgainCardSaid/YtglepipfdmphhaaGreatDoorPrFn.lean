/-
  Printer, plain laws: what the parsers of plans and rules find is of a moderate size.
-/
import Derived.Test.YtglepipfdmphhaaGreatDoorPoC
namespace Go.Proofs.YtglepipfdmphhaaGreatDoor
set_option linter.unusedVariables false
set_option linter.unusedSimpArgs false
open Go Go.RowKit
namespace Lx
def TkF (t:Tk):Prop:=t.text.length≤24∧t.n≤9999999999
theorem cls_dig:∀ c:UInt8,cls c=4→c.toNat - 48≤9:=by
  intro c h
  unfold cls at h
  split at h
  · cases h
  split at h
  · omega
  exfalso;revert h;(repeat' split) <;> intro h <;> cases h
theorem num_le:∀ (l:Bytes) (a:Nat),(∀ c ∈ l,cls c=4)→l.foldl (fun a c=>10*a+(c.toNat - 48)) a+1≤(a+1)*10 ^ l.length
  | [],a,_=>by simp
  | c :: l,a,h=>by
    have h1:=num_le l (10*a+(c.toNat - 48)) (fun d hd=>h d (by simp[hd]))
    have h2:=cls_dig c (h c (by simp))
    rw[List.foldl_cons,List.length_cons,Nat.pow_succ]
    refine Nat.le_trans h1 ?_
    rw[Nat.mul_comm (10 ^ l.length) 10,← Nat.mul_assoc]
    exact Nat.mul_le_mul_right _ (by omega)
theorem wl_all (p:UInt8→Bool):∀ s:Bytes,∀ c ∈ s.take (wl p s),p c=true
  | [],c,h=>by simp at h
  | d :: r,c,h=>by
    unfold wl at h
    split at h
    · rename_i hd
      rw[List.take_succ_cons] at h
      rcases List.mem_cons.1 h with rfl|h
      · exact hd
      exact wl_all p r c h
    simp at h
theorem tok_fine (o:Nat) (c:UInt8) (r:Bytes) (he:(tok (c :: r)).2.2=0):TkF (mk o (c :: r)):=by
  have hl:=wl_all dig (c :: r)
  unfold TkF mk
  rw[tok_cons] at he ⊢
  split at he
  · rename_i h
    rw[if_pos h]
    have h1:wl word (c :: r)≤24:=by
      by_cases c1:24 < wl word (c :: r)
      · simp[c1] at he
      omega
    refine ⟨Nat.le_trans (List.length_take_le _ _) h1,?_⟩
    simp
  rename_i h
  rw[if_neg h]
  split at he
  · rename_i h2
    rw[if_pos h2]
    have h1:wl dig (c :: r)≤10:=by
      by_cases c1:10 < wl dig (c :: r)∨sticks ((c :: r).drop (wl dig (c :: r)))=true
      · simp[c1] at he
      omega
    have h3:=List.length_take_le (wl dig (c :: r)) (c :: r)
    refine ⟨Nat.le_trans h3 (by omega),?_⟩
    have hz:num ((c :: r).take (wl dig (c :: r)))≤9999999999:=by
      have h4:=num_le ((c :: r).take (wl dig (c :: r))) 0 (fun d hd=>by have:=hl d hd;unfold dig at this;exact of_decide_eq_true this)
      have h5:10 ^ ((c :: r).take (wl dig (c :: r))).length≤10 ^ 10:=Nat.pow_le_pow_right (by decide) (Nat.le_trans h3 h1)
      unfold num
      have h6:(10:Nat) ^ 10=10000000000:=by decide
      omega
    generalize (if 10 < wl dig (c :: r)∨sticks ((c :: r).drop (wl dig (c :: r)))=true then 6 else 0)=q
    show (if _ then num _ else 0)≤_
    split
    · exact hz
    omega
  rename_i h2
  rw[if_neg h2]
  split at he
  · rename_i h3
    rw[if_pos h3]
    split
    · refine ⟨Nat.le_trans (List.length_take_le _ _) (by decide),?_⟩
      simp
    refine ⟨Nat.le_trans (List.length_take_le _ _) (by show 1≤24;decide),?_⟩
    simp
  cases he
theorem scan_fine:∀ (f o:Nat) (s:Bytes),∀ x ∈ scan f o s,x.2=0→TkF x.1
  | 0,_,_,x,h,_=>by cases h
  | f+1,_,[],x,h,_=>by cases h
  | f+1,o,c :: r,x,h,h0=>by
    unfold scan at h
    split at h
    · exact scan_fine f _ _ x h h0
    split at h
    · exact scan_fine f _ _ x h h0
    split at h
    · rename_i h3
      rw[List.mem_singleton] at h
      subst h
      exact absurd h0 h3
    rename_i h3
    rcases List.mem_cons.1 h with rfl|h
    · exact tok_fine o c r (by simpa using h3)
    exact scan_fine f _ _ x h h0
theorem fin_fine:∀ (l:List (Tk × Nat)) (k:Nat) (out ts:List Tk) (p:Int),fin k out l=(ts,0,p)→out.length=k→k≤5000→(∀ t ∈ out,TkF t)→(∀ x ∈ l,x.2=0→TkF x.1)→ts.length≤5000∧∀ t ∈ ts,TkF t
  | [],k,out,ts,p,h,hk,h5,ho,_=>by
    unfold fin at h
    injection h with h _
    subst h
    exact ⟨by omega,ho⟩
  | (t,e) :: r,k,out,ts,p,h,hk,h5,ho,hl=>by
    unfold fin at h
    split at h
    · rename_i h1
      injection h with _ h
      injection h with h _
      exact absurd h h1
    rename_i h1
    split at h
    · injection h with _ h
      injection h with h _
      cases h
    have ht:=hl (t,e) (by simp) (by simpa using h1)
    refine fin_fine r (k+1) (out++[t]) ts p h (by simp[hk]) (by omega) (fun x hx=>?_) (fun x hx=>hl x (by simp[hx]))
    rcases List.mem_append.1 hx with hx|hx
    · exact ho x hx
    rw[List.mem_singleton] at hx
    exact hx ▸ ht
theorem lex_fine {s:Bytes} {ts:List Tk} {p:Int} (h:lex s=(ts,0,p)):ts.length≤5000∧∀ t ∈ ts,TkF t:=by
  unfold lex at h
  split at h
  · injection h with _ h
    injection h with h _
    cases h
  exact fin_fine _ 0 [] ts p h rfl (by decide) (by simp) (scan_fine _ _ _)
end Lx
namespace Rl
open Lx (Tk TkF)
def Fz {α:Type} (k:Nat) (p:List Tk→Out α) (R:α→Prop):Prop:=∀ l,l.length≤5000→(∀ t ∈ l,TkF t)→∀ a r,p l = .ok a r→R a∧(∀ t ∈ r,TkF t)∧r.length+k≤l.length
theorem Fz.pure {α:Type} {a:α} {R:α→Prop} (h:R a):Fz 0 (fun l=>Out.ok a l) R:=fun l hl ht b r e=>by
  injection e with e1 e2
  subst e1 e2
  exact ⟨h,ht,Nat.le_refl _⟩
theorem Fz.bad {α:Type} {e:Nat} {R:α→Prop} (k:Nat):Fz k (fun l=>(Out.bad e l:Out α)) R:=fun l hl ht b r e=>by cases e
theorem Fz.bind {α β:Type} {j k:Nat} {p:List Tk→Out α} {q:α→List Tk→Out β} {R:α→Prop} {S:β→Prop} (hp:Fz j p R) (hq:∀ a,R a→Fz k (q a) S):Fz (j+k) (fun l=>(p l).bind (q · ·)) S:=fun l hl ht b r e=>by
  have e:(p l).bind (q · ·) = .ok b r:=e
  cases h:p l with
  | bad e1 r1=>rw[h] at e;cases e
  | ok a r1 =>
    rw[h] at e
    obtain ⟨h1,h2,h3⟩:=hp l hl ht a r1 h
    obtain ⟨h4,h5,h6⟩:=hq a h1 r1 (by omega) h2 b r e
    exact ⟨h4,h5,by omega⟩
theorem Fz.weak {α:Type} {j k:Nat} {p:List Tk→Out α} {R:α→Prop} (hp:Fz j p R) (h:k≤j):Fz k p R:=fun l hl ht b r e=>by
  obtain ⟨h1,h2,h3⟩:=hp l hl ht b r e
  exact ⟨h1,h2,by omega⟩
theorem Fz.mono {α:Type} {k:Nat} {p:List Tk→Out α} {R S:α→Prop} (hp:Fz k p R) (h:∀ a,R a→S a):Fz k p S:=fun l hl ht b r e=>by
  obtain ⟨h1,h2,h3⟩:=hp l hl ht b r e
  exact ⟨h _ h1,h2,h3⟩
theorem Fz.ite {α:Type} {k:Nat} {c:List Tk→Prop} [DecidablePred c] {p q:List Tk→Out α} {R:α→Prop} (hp:Fz k p R) (hq:Fz k q R):Fz k (fun l=>if c l then p l else q l) R:=fun l hl ht b r e=>by
  by_cases h:c l
  · simp only[h,if_true] at e;exact hp l hl ht b r e
  simp only[h,if_false] at e;exact hq l hl ht b r e
theorem Fz.tail {α:Type} {k:Nat} {p:List Tk→Out α} {R:α→Prop} (hp:Fz k p R):Fz k (fun l=>p l.tail) R:=fun l hl ht b r e=>by
  have h0:l.tail.length≤l.length:=by simp
  obtain ⟨h1,h2,h3⟩:=hp l.tail (by omega) (fun t h=>ht t (List.mem_of_mem_tail h)) b r e
  exact ⟨h1,h2,by omega⟩
theorem Fz.nxt (k:Nat) (x:Option Bytes):Fz 1 (nxt k x) TkF:=fun l hl ht b r e=>by
  cases l with
  | nil=>cases e
  | cons t q =>
    rw[nxt_cons] at e
    split at e
    · injection e with e1 e2
      subst e1 e2
      exact ⟨ht _ (by simp),fun t h=>ht t (by simp[h]),by simp⟩
    cases e
end Rl
namespace Pn
open Lx (Tk TkF)
open Rl (Out Fz nxt)
abbrev B9:Nat:=9999999999
abbrev Tt {α:Type}:α→Prop:=fun _=>True
theorem fn_must (x:Bytes):Fz 0 (must x) Tt:=fun l hl ht b r e=>by
  unfold must at e
  split at e
  · injection e with _ e2
    subst e2
    exact ⟨trivial,fun t h=>ht t (List.mem_of_mem_tail h),by simp⟩
  cases e
theorem fn_num:Fz 1 num (·≤B9):=(Fz.nxt 2 none).bind fun t h=>Fz.pure h.2
theorem fn_name:Fz 1 name (·.length≤24):=(Fz.nxt 1 none).bind fun t h=>Fz.pure h.1
theorem fn_at:Fz 0 atO Tt:=fun l hl ht b r e=>by
  cases l with
  | nil=>cases e
  | cons t q=>injection e with _ e2;subst e2;exact ⟨trivial,ht,Nat.le_refl _⟩
theorem fn_num2:Fz 2 num2 (fun p=>p.1≤B9∧p.2≤B9):=fn_num.bind fun x hx=>fn_num.bind fun y hy=>Fz.pure ⟨hx,hy⟩
def FX (b:Bx):Prop:=b.x≤B9∧b.y≤B9∧b.x2≤B9∧b.y2≤B9
def FM (m:Mk):Prop:=m.kind≤B9∧m.seat≤B9∧m.w≤B9
def FR (r:Rw):Prop:=r.name.length≤24∧r.x≤B9∧r.y≤B9∧r.f≤B9∧r.t≤B9∧r.step≤B9∧r.marks.length≤5000∧∀ m ∈ r.marks,FM m
def FB (b:Bl):Prop:=b.name.length≤24∧b.rows.length≤5000∧∀ r ∈ b.rows,FR r
def FA (a:Ar):Prop:=a.name.length≤24∧FX a.box∧a.holds≤B9
def FP (p:Nat × Nat):Prop:=p.1≤B9∧p.2≤B9
def FL (l:Lv):Prop:=l.name.length≤24∧l.height≤B9∧(l.blocks.length≤5000∧∀ x ∈ l.blocks,FB x)∧(l.areas.length≤5000∧∀ x ∈ l.areas,FA x)∧(l.aisles.length≤5000∧∀ x ∈ l.aisles,FX x)∧(l.pillars.length≤5000∧∀ x ∈ l.pillars,FX x)∧(l.doors.length≤5000∧∀ x ∈ l.doors,FP x)
def FH (h:Hl):Prop:=h.name.length≤24∧h.sx≤B9∧h.sy≤B9∧h.levels.length≤5000∧∀ l ∈ h.levels,FL l
theorem fn_box:Fz 4 box FX:=fn_num.bind fun x hx=>fn_num.bind fun y hy=>fn_num.bind fun z hz=>fn_num.bind fun u hu=>Fz.pure ⟨hx,hy,hz,hu⟩
theorem mkc_le (l:List Tk):mkc l≤B9:=by
  unfold mkc marksL
  split
  · simp only[Rl.codeIn]
    (repeat' split) <;> decide
  decide
theorem fn_mark:Fz 1 mark FM:=fun l hl ht b r e=>by
  have h0:l.tail.length≤l.length:=by simp
  have h1:Fz 1 (fun q=>(num q).bind fun n l1=>if mkc l=4 then (must wOf l1).bind fun _ l2=>(num l2).bind fun w l3=>.ok (⟨mkc l,n,w⟩:Mk) l3 else .ok ⟨mkc l,n,0⟩ l1) FM:=Fz.bind (k:=0) fn_num fun n hn=>by
    by_cases h4:mkc l=4
    · simp only[h4,if_true]
      exact ((fn_must wOf).bind fun _ _=>fn_num.bind fun w hw=>Fz.pure (a:=(⟨4,n,w⟩:Mk)) ⟨(by decide:(4:Nat)≤B9),hn,hw⟩).weak (Nat.zero_le _)
    simp only[h4,if_false]
    exact Fz.pure ⟨mkc_le l,hn,Nat.zero_le _⟩
  obtain ⟨h2,h3,h5⟩:=h1 l.tail (by omega) (fun t h=>ht t (List.mem_of_mem_tail h)) b r e
  exact ⟨h2,h3,by omega⟩
theorem fn_loopG {α:Type} {stop:List Tk→Bool} {one:List Tk→Out α} {R:α→Prop} (h:Fz 1 one R):∀ (k:Nat) (acc:List α) (l:List Tk),l.length≤5000→(∀ t ∈ l,TkF t)→(∀ a ∈ acc,R a)→∀ as r,loopG stop one k acc l = .ok as r →
    (∀ a ∈ as,R a)∧as.length+r.length≤acc.length+l.length∧(∀ t ∈ r,TkF t)∧r.length≤l.length
  | 0,acc,l,hl,ht,ha,as,r,e=>by
    injection e with e1 e2
    subst e1 e2
    exact ⟨ha,Nat.le_refl _,ht,Nat.le_refl _⟩
  | k+1,acc,l,hl,ht,ha,as,r,e=>by
    unfold loopG at e
    split at e
    · injection e with e1 e2
      subst e1 e2
      exact ⟨ha,Nat.le_refl _,ht,Nat.le_refl _⟩
    cases h1:one l with
    | bad e1 r1=>rw[h1] at e;cases e
    | ok a r1 =>
      rw[h1] at e
      obtain ⟨h2,h3,h4⟩:=h l hl ht a r1 h1
      obtain ⟨h5,h6,h7,h8⟩:=fn_loopG h k (acc++[a]) r1 (by omega) h3 (fun x hx=>by
        rcases List.mem_append.1 hx with hx|hx
        · exact ha x hx
        rw[List.mem_singleton] at hx;exact hx ▸ h2) as r e
      refine ⟨h5,?_,h7,by omega⟩
      simp only[List.length_append,List.length_singleton] at h6
      omega
theorem fn_loop {α:Type} {stop:List Tk→Bool} {one:List Tk→Out α} {R:α→Prop} (h:Fz 1 one R):Fz 0 (loop stop one) (fun as=>as.length≤5000∧∀ a ∈ as,R a):=fun l hl ht as r e=>by
  obtain ⟨h1,h2,h3,h4⟩:=fn_loopG h (l.length+1) [] l hl ht (by simp) as r e
  simp only[List.length_nil] at h2
  exact ⟨⟨by omega,h1⟩,h3,h4⟩
theorem fn_row:Fz 1 row FR :=
  Fz.weak (fn_at.bind fun at_ _=>(fn_must wRow).bind fun _ _=>fn_name.bind fun nm h1=>(fn_must wAt).bind fun _ _=>fn_num2.bind fun xy h2=>(fn_must wSeats).bind fun _ _=>fn_num.bind fun a h3=>(fn_must wTo).bind fun _ _=>fn_num.bind fun t h4=>(fn_must wStep).bind fun _ _=>fn_num.bind fun st h5=>(fn_loop fn_mark).bind fun ms h6=>(fn_must cSemi).bind fun _ _=>Fz.pure ⟨h1,h2.1,h2.2,h3,h4,h5,h6.1,h6.2⟩) (by decide)
theorem fn_braced {α:Type} {one:List Tk→Out α} {R:α→Prop} (h:Fz 1 one R):Fz 0 (braced one) (fun as=>as.length≤5000∧∀ a ∈ as,R a) :=
  Fz.bind (k:=0) (q:=fun as r=>.ok as r.tail) (fn_loop h) fun as ha=>fun l hl ht b r e=>by
    injection e with e1 e2
    subst e1 e2
    exact ⟨ha,fun t h=>ht t (List.mem_of_mem_tail h),by simp⟩
theorem fn_block (at_:Nat):Fz 1 (block at_) FB:=Fz.weak (fn_name.bind fun nm h1=>(fn_must cOpen).bind fun _ _=>(fn_braced fn_row).bind fun rs h2=>Fz.pure ⟨h1,h2.1,h2.2⟩) (by decide)
theorem fn_area (at_:Nat):Fz 1 (area at_) FA:=Fz.weak (fn_name.bind fun nm h1=>fn_box.bind fun b h2=>(fn_must wHolds).bind fun _ _=>fn_num.bind fun h h3=>(fn_must cSemi).bind fun _ _=>Fz.pure ⟨h1,h2,h3⟩) (by decide)
theorem fn_boxS:Fz 1 boxS FX:=Fz.weak (fn_box.bind fun b h=>(fn_must cSemi).bind fun _ _=>Fz.pure h) (by decide)
theorem fn_door:Fz 1 door FP:=Fz.weak (fn_num2.bind fun b h=>(fn_must cSemi).bind fun _ _=>Fz.pure h) (by decide)
def FI:It→Prop
  | .block b=>FB b
  | .area a=>FA a
  | .aisle b=>FX b
  | .pillar b=>FX b
  | .door p=>FP p
theorem fn_itemK (k at_:Nat):Fz 1 (itemK k at_) FI:=by
  unfold itemK
  by_cases h1:k=1
  · simp only[h1,if_true]
    exact (fn_block at_).bind fun b h=>Fz.pure (a:=It.block b) h
  simp only[h1,if_false]
  by_cases h2:k=2
  · simp only[h2,if_true]
    exact (fn_area at_).bind fun b h=>Fz.pure (a:=It.area b) h
  simp only[h2,if_false]
  by_cases h3:k=3
  · simp only[h3,if_true]
    exact fn_boxS.bind fun b h=>Fz.pure (a:=It.aisle b) h
  simp only[h3,if_false]
  by_cases h4:k=4
  · simp only[h4,if_true]
    exact fn_boxS.bind fun b h=>Fz.pure (a:=It.pillar b) h
  simp only[h4,if_false]
  exact fn_door.bind fun b h=>Fz.pure (a:=It.door b) h
theorem fn_item:Fz 1 item FI:=fun l hl ht b r e=>by
  cases l with
  | nil=>cases e
  | cons t q =>
    rw[item_consE] at e
    split at e
    · cases e
    obtain ⟨h1,h2,h3⟩:=fn_itemK _ _ q (by simp at hl;omega) (fun t h=>ht t (by simp[h])) b r e
    exact ⟨h1,h2,by simp;omega⟩
theorem fm_fine {β:Type} {f:It→Option β} {S:β→Prop} (hf:∀ i b,f i=some b→FI i→S b) {l:List It} (h:l.length≤5000∧∀ a ∈ l,FI a):(l.filterMap f).length≤5000∧∀ x ∈ l.filterMap f,S x :=
  ⟨Nat.le_trans (List.length_filterMap_le _ _) h.1,fun x hx=>by obtain ⟨i,hi,e⟩:=List.mem_filterMap.1 hx;exact hf i x e (h.2 i hi)⟩
theorem fn_level:Fz 1 level FL :=
  Fz.weak (fn_at.bind fun at_ _=>(fn_must wLevel).bind fun _ _=>fn_name.bind fun nm h1=>(fn_must wHeight).bind fun _ _=>fn_num.bind fun h h2=>(fn_must cOpen).bind fun _ _=>(fn_braced fn_item).bind fun its h3=>Fz.pure
    ⟨h1,h2,fm_fine (fun i b e h=>by cases i <;> cases e;exact h) h3,fm_fine (fun i b e h=>by cases i <;> cases e;exact h) h3,fm_fine (fun i b e h=>by cases i <;> cases e;exact h) h3,fm_fine (fun i b e h=>by cases i <;> cases e;exact h) h3,fm_fine (fun i b e h=>by cases i <;> cases e;exact h) h3⟩) (by decide)
theorem fn_hall:Fz 1 hall FH :=
  Fz.weak ((fn_must wHall).bind fun _ _=>fn_name.bind fun nm h1=>(fn_must wStage).bind fun _ _=>fn_num2.bind fun xy h2=>(fn_must cOpen).bind fun _ _=>(fn_braced fn_level).bind fun ls h3=>Fz.ite (Fz.pure ⟨h1,h2.1,h2.2,h3.1,h3.2⟩) (Fz.bad 0)) (by decide)
theorem fine_parse (s:Bytes):FH (parse s).1:=by
  have h0:FH hl0:=⟨by decide,by decide,by decide,by decide,fun l h=>by cases h⟩
  unfold parse
  split
  · exact h0
  rename_i h
  cases hh:hall (Lx.lex s).1 with
  | bad e r=>exact h0
  | ok x r =>
    have e:Lx.lex s=((Lx.lex s).1,0,(Lx.lex s).2.2):=by rw[← show (Lx.lex s).2.1=0 by simpa using h]
    obtain ⟨h1,h2⟩:=Lx.lex_fine e
    exact (fn_hall _ h1 h2 x r hh).1
end Pn
end Go.Proofs.YtglepipfdmphhaaGreatDoor
