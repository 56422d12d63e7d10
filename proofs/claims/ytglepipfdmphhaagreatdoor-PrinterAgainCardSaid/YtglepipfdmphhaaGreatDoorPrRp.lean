/-
 PrO, PrQ, PrSr, PrRp in one text.
-/
import Derived.Test.YtglepipfdmphhaaGreatDoorPrL
import Derived.Test.YtglepipfdmphhaaGreatDoorRqE
namespace Go.Proofs.YtglepipfdmphhaaGreatDoor
set_option linter.unusedVariables false
set_option linter.unusedSimpArgs false
open Go Go.RowKit
namespace Pr
def Dp:Nat→List (Nat × Bytes)→Nat→Prop
 | a,[],b=>a=b
 | a,x :: l,b=>a=(if x.2.getLast? = some 125 then x.1+1 else x.1)∧Dp (if x.2.getLast? = some 123 then x.1+1 else x.1) l b
theorem Dp.append:∀ {a b c:Nat} {l m:List (Nat × Bytes)},Dp a l b→Dp b m c→Dp a (l++m) c
 | a,b,c,[],m,h,h'=>by cases h;exact h'
 | a,b,c,x :: l,m,h,h'=>⟨h.1,Dp.append h.2 h'⟩
theorem Dp.semi (d:Nat) (s:Bytes):Dp d [(d,s++[59])] d:=⟨by simp,by simp[Dp]⟩
theorem Dp.open (d:Nat) (s:Bytes):Dp d [(d,s++tOpen)] (d+1):=⟨by simp[tOpen],by simp[Dp,tOpen]⟩
theorem Dp.close (d:Nat):Dp (d+1) [(d,tClose)] d:=⟨by simp[tClose],by simp[Dp,tClose]⟩
theorem Dp.flat {α:Type} {f:α→List (Nat × Bytes)} {d:Nat}:∀ l:List α,(∀ x ∈ l,Dp d (f x) d)→Dp d (l.flatMap f) d
 | [],_=>rfl
 | x :: l,h=>by
  rw[List.flatMap_cons]
  exact (h x (by simp)).append (Dp.flat l (fun y hy=>h y (by simp[hy])))
theorem Dp.map {α:Type} {f:α→Nat × Bytes} {d:Nat} (l:List α) (h:∀ x ∈ l,Dp d [f x] d):Dp d (l.map f) d:=by
 rw[← flat_one]
 exact Dp.flat l h
theorem block_dp (b:Bl):Dp 2 (blockL b) 2:=(Dp.open 2 _).append ((Dp.map b.rows (fun r _=>Dp.semi 3 _)).append (Dp.close 2))
theorem level_dp (l:Lv):Dp 1 (levelL l) 1:=by
 have h1:Dp 2 (innerL l) 2:=(Dp.flat l.blocks (fun x _=>block_dp x)).append ((Dp.map l.areas (fun x _=>Dp.semi 2 _)).append ((Dp.map l.aisles (fun x _=>Dp.semi 2 _)).append ((Dp.map l.pillars (fun x _=>Dp.semi 2 _)).append (Dp.map l.doors (fun x _=>Dp.semi 2 _)))))
 exact (Dp.open 1 _).append (h1.append (Dp.close 1))
theorem hall_dp (h:Hl):Dp 0 (hallL h) 0:=(Dp.open 0 _).append ((Dp.flat h.levels (fun x _=>level_dp x)).append (Dp.close 0))
theorem rules_dp (l:List Itm):Dp 0 (l.map itemL) 0:=Dp.map l (fun x _=>Dp.semi 0 _)
theorem toks_of {l m:List (Nat × Bytes)} {ts us:List Lx.Tk} (h:Lws l ts) (h':Lws m us) (e:full l=full m):ts=us:=by
 obtain ⟨_,a,h1,h2⟩:=h.lex
 obtain ⟨_,b,h3,h4⟩:=h'.lex
 rw[e,h3] at h1
 have h5:=congrArg (List.map Prod.fst) h1
 simp only[List.map_map] at h5
 have h6:∀ l:List Lx.Tk,List.map (Prod.fst ∘ fun t=>(t,0)) l=l:=fun l=>by
  induction l with
  | nil=>rfl
  | cons x l ih=>rw[List.map_cons,ih];rfl
 rw[h6,h6] at h5
 rw[← h2,← h4,h5]
end Pr
end Go.Proofs.YtglepipfdmphhaaGreatDoor
namespace Go.Proofs.YtglepipfdmphhaaGreatDoor
set_option linter.unusedVariables false
set_option linter.unusedSimpArgs false
open Go Go.RowKit
namespace Pr
open Lx (Tk)
open Rl (Out)
def cvT (t:Tst):Rl.Tst:=⟨t.attr,t.op.toNat,t.name,t.n.toNat,0⟩
def cvQ (p:Int × Int):Nat × Nat:=(p.1.toNat,p.2.toNat)
def cvI (x:Itm):Rl.Itm:=⟨x.kind.toNat,x.name,x.whn.map (·.map cvT),x.n.toNat,cvQ x.r,cvQ x.s,0⟩
theorem rbind_ok {α β:Type} (a:α) (r:List Tk) (k:α→List Tk→Out β):(Out.ok a r).bind k=k a r:=rfl
theorem nxt_n (x:Bytes) (l:List Tk):Rl.nxt 1 none (tkN x :: l) = .ok (tkN x) l:=rfl
theorem nxt_i (n:Int) (l:List Tk):Rl.nxt 2 none (tkI n :: l) = .ok (tkI n) l:=rfl
theorem nxt_s (x:Bytes) (l:List Tk):Rl.nxt 3 none (tkS x :: l) = .ok (tkS x) l:=rfl
theorem nxt_kw (x:Bytes) (l:List Tk):Rl.nxt 1 (some x) (tkN x :: l) = .ok (tkN x) l:=by simp[Rl.nxt,Rl.is,tkN]
theorem nxt_sy (x:Bytes) (l:List Tk):Rl.nxt 3 (some x) (tkS x :: l) = .ok (tkS x) l:=by simp[Rl.nxt,Rl.is,tkS]
theorem is_ns (x:Option Bytes) (y:Bytes) (l:List Tk):Rl.is 1 x (tkS y :: l)=false:=rfl
theorem is_in (x:Option Bytes) (n:Int) (l:List Tk):Rl.is 1 x (tkI n :: l)=false:=rfl
theorem is_nn (x y:Bytes) (l:List Tk):Rl.is 1 (some x) (tkN y :: l)=decide (y=x):=by by_cases h:y=x <;> simp[Rl.is,tkN,h]
theorem is_sn (x:Option Bytes) (y:Bytes) (l:List Tk):Rl.is 3 x (tkN y :: l)=false:=rfl
theorem is_ss (x y:Bytes) (l:List Tk):Rl.is 3 (some x) (tkS y :: l)=decide (y=x):=by by_cases h:y=x <;> simp[Rl.is,tkS,h]
theorem is_iN (y:Bytes) (l:List Tk):Rl.is 2 none (tkN y :: l)=false:=rfl
theorem is_iI (n:Int) (l:List Tk):Rl.is 2 none (tkI n :: l)=true:=rfl
theorem ratio_read (r:Int × Int) (l:List Tk):Rl.ratio (ratioT r++l) = .ok (cvQ r) l:=by
 show (Rl.nxt 2 none (tkI r.1 :: tkS [47] :: tkI r.2 :: l)).bind _=_
 rw[nxt_i,rbind_ok,nxt_sy,rbind_ok,nxt_i,rbind_ok]
 rfl
theorem opc_eq {k:Int} (h1:1≤k) (h2:k≤6):Rl.opc (opT k).text=k.toNat:=by
 have h:k=1∨k=2∨k=3∨k=4∨k=5∨k=6:=by omega
 rcases h with rfl|rfl|rfl|rfl|rfl|rfl <;> rfl
theorem kindc_eq {k:Int} (h1:1≤k) (h2:k≤7):Rl.kindc (kindK k)=k.toNat:=by
 have h:k=1∨k=2∨k=3∨k=4∨k=5∨k=6∨k=7:=by omega
 rcases h with rfl|rfl|rfl|rfl|rfl|rfl|rfl <;> rfl
def NoPt (l:List Tk):Prop:=Rl.is 3 (some [46]) l=false
theorem test_read {t:Tst} (h:testOk t=true) {l:List Tk} (hl:NoPt l):Rl.test (testT t++l) = .ok (cvT t) l:=by
 unfold testOk at h
 obtain ⟨h0,h⟩:=and2 h
 obtain ⟨h1,h2⟩:=and2 h0
 obtain ⟨ha,hv⟩:=and2 h
 have h1:=of_decide_eq_true h1
 have h2:=of_decide_eq_true h2
 have ho:=opc_eq h1 h2
 have ho0:Rl.opc (opT t.op).text≠0:=by rw[ho];omega
 unfold Rl.test testT
 by_cases hn:t.name=[]
 · rw[if_pos hn] at hv ⊢
   show (Rl.nxt 1 none (tkN t.attr :: opT t.op :: tkI t.n :: l)).bind _=_
   rw[nxt_n,rbind_ok,if_pos ⟨rfl,ho0⟩]
   show (Rl.nxt 3 none (tkS (opW t.op).tail :: tkI t.n :: l)).bind _=_
   rw[nxt_s,rbind_ok,if_pos (is_iI _ _),nxt_i,rbind_ok]
   show Out.ok (⟨t.attr,Rl.opc (opT t.op).text,[],t.n.toNat,0⟩:Rl.Tst) l=_
   rw[ho]
   unfold cvT
   rw[hn]
 rw[if_neg hn] at hv ⊢
 obtain ⟨hn0,hv⟩:=and2 hv
 have hn0:=of_decide_eq_true hn0
 unfold valT
 cases hc:(cut t.name).2 with
 | none =>
  have he:=cut_none t.name hc
  show (Rl.nxt 1 none (tkN t.attr :: opT t.op :: tkN (cut t.name).1 :: l)).bind _=_
  rw[nxt_n,rbind_ok,if_pos ⟨rfl,ho0⟩]
  show (Rl.nxt 3 none (tkS (opW t.op).tail :: tkN (cut t.name).1 :: l)).bind _=_
  rw[nxt_s,rbind_ok,is_iN,if_neg (by decide),nxt_n,rbind_ok,show Rl.is 3 (some [46]) l=false from hl,if_neg (by decide)]
  show Out.ok (⟨t.attr,Rl.opc (opT t.op).text,(cut t.name).1,0,0⟩:Rl.Tst) l=_
  rw[ho,he]
  unfold cvT
  rw[hn0]
  rfl
 | some u =>
  have he:=cut_some t.name u hc
  show (Rl.nxt 1 none (tkN t.attr :: opT t.op :: tkN (cut t.name).1 :: tkS [46] :: tkN u :: l)).bind _=_
  rw[nxt_n,rbind_ok,if_pos ⟨rfl,ho0⟩]
  show (Rl.nxt 3 none (tkS (opW t.op).tail :: tkN (cut t.name).1 :: tkS [46] :: tkN u :: l)).bind _=_
  rw[nxt_s,rbind_ok,is_iN,if_neg (by decide),nxt_n,rbind_ok,is_ss,if_pos (by decide),nxt_s,rbind_ok,nxt_n,rbind_ok]
  show Out.ok (⟨t.attr,Rl.opc (opT t.op).text,(cut t.name).1++([46]++u),0,0⟩:Rl.Tst) l=_
  rw[ho,show (cut t.name).1++([46]++u)=t.name from he.symm]
  unfold cvT
  rw[hn0]
  rfl
theorem sevG_all {α β:Type} {one:List Tk→Out α} {w:Bytes} {g:β→List Tk} {v:β→α} {P:List Tk→Prop} (hP:∀ t,P (tkN w :: t)) {rest:List Tk} (hr:Rl.is 1 (some w) rest=false) (hPr:P rest):∀ (xs:List β),
 (∀ x ∈ xs,∀ r,P r→one (g x++r) = .ok (v x) r)→∀ (k:Nat) (acc:List α),xs.length≤k→Rl.sevG one w k acc (xs.flatMap (fun x=>tkN w :: g x)++rest) = .ok (acc++xs.map v) rest
 | [],_,k,acc,_=>by cases k <;> simp[Rl.sevG,hr]
 | x :: xs,h,k,acc,hk=>by
  cases k with
  | zero=>simp at hk
  | succ k =>
   unfold Rl.sevG
   rw[List.flatMap_cons,List.cons_append,List.cons_append,is_nn,if_pos (by simp)]
   show (one ((g x++xs.flatMap _)++rest)).bind _=_
   have hp:P (xs.flatMap (fun x=>tkN w :: g x)++rest):=by
    cases xs with
    | nil=>exact hPr
    | cons y ys=>exact hP _
   rw[List.append_assoc,h x (by simp) _ hp,rbind_ok,sevG_all hP hr hPr xs (fun y hy=>h y (by simp[hy])) k _ (by simp at hk;omega)]
   simp
theorem joinT_eq:∀ (x:List Tk) (xs:List (List Tk)),joinT (x :: xs)=x++xs.flatMap (fun y=>tkN [97,110,100] :: y)
 | x,[]=>by simp[joinT]
 | x,y :: ys=>by
  show x++(tkN [97,110,100] :: joinT (y :: ys))=_
  rw[joinT_eq y ys,List.flatMap_cons]
  rfl
def EndT (l:List Tk):Prop:=NoPt l∧Rl.is 1 (some Rl.wAnd) l=false
theorem tests_read {l:List Tst} (h:listOk l=true) {r:List Tk} (hr:EndT r):Rl.tests (joinT (l.map testT)++r) = .ok (l.map cvT) r:=by
 unfold listOk at h
 obtain ⟨h1,h⟩:=and2 h
 obtain ⟨h2,h⟩:=and2 h
 have h2:=of_decide_eq_true h2
 have h3:=List.all_eq_true.1 h
 cases l with
 | nil=>simp at h1
 | cons t ts =>
  rw[List.map_cons,joinT_eq,List.append_assoc]
  unfold Rl.tests Rl.sev
  have hp:NoPt ((ts.map testT).flatMap (fun y=>tkN [97,110,100] :: y)++r):=by
   cases ts with
   | nil=>exact hr.1
   | cons y ys=>rfl
  rw[test_read (h3 t (by simp)) hp,rbind_ok]
  have e:(ts.map testT).flatMap (fun y=>tkN [97,110,100] :: y)=ts.flatMap (fun x=>tkN Rl.wAnd :: testT x):=by rw[List.flatMap_map];rfl
  rw[e,sevG_all (P:=NoPt) (v:=cvT) (fun t=>rfl) hr.2 hr.1 ts (fun x hx q hq=>test_read (h3 x (by simp[hx])) hq) 11 _ (by simp at h2;omega)]
  rfl
theorem endT_or (t:List Tk):EndT (tkN Rl.wOr :: t):=⟨rfl,rfl⟩
theorem endT_semi (r:List Tk):EndT (tkS [59] :: r):=⟨rfl,rfl⟩
theorem whensT_or:∀ l:List (List Tst),whensT [111,114] l=l.flatMap (fun x=>tkN Rl.wOr :: joinT (x.map testT))
 | []=>rfl
 | x :: l=>by
  show tkN [111,114] :: (joinT (x.map testT)++whensT [111,114] l)=_
  rw[whensT_or l,List.flatMap_cons]
  rfl
theorem whn_read {l:List (List Tst)} (h:∀ x ∈ l,listOk x=true) (hl:l.length≤12) (r:List Tk):Rl.whn (whensT [119,104,101,110] l++tkS [59] :: r) = .ok (l.map (·.map cvT)) (tkS [59] :: r):=by
 unfold Rl.whn
 cases l with
 | nil=>rfl
 | cons x l =>
  show (if Rl.is 1 (some Rl.wWhen) (tkN [119,104,101,110] :: ((joinT (x.map testT)++whensT [111,114] l)++tkS [59] :: r))=true then _ else _)=_
  rw[is_nn,if_pos (by decide)]
  unfold Rl.sev
  show (Rl.tests (joinT (x.map testT)++whensT [111,114] l++tkS [59] :: r)).bind _=_
  rw[List.append_assoc,whensT_or]
  have he:EndT (l.flatMap (fun x=>tkN Rl.wOr :: joinT (x.map testT))++tkS [59] :: r):=by
   cases l with
   | nil=>exact ⟨rfl,rfl⟩
   | cons y ys=>exact ⟨rfl,rfl⟩
  rw[tests_read (h x (by simp)) he,rbind_ok,sevG_all (P:=EndT) (v:=fun x=>x.map cvT) endT_or rfl (endT_semi r) l (fun y hy q hq=>tests_read (h y (by simp[hy])) hq) 11 _ (by simp at hl;omega)]
  rfl
def EndR (l:List Tk):Prop:=(∃ q,l=tkS [59] :: q)∨∃ q,l=tkN [119,104,101,110] :: q
theorem EndR.no {l:List Tk} (h:EndR l) {x:Bytes} (hx:x≠[119,104,101,110]):Rl.is 1 (some x) l=false:=by
 rcases h with ⟨q,rfl⟩|⟨q,rfl⟩
 · rfl
 rw[is_nn];exact decide_eq_false (fun e=>hx e.symm)
theorem opt_read {w:Bytes} {r:Int × Int} {l:List Tk} (hl:Rl.is 1 (some w) l=false):Rl.opt w (partT w r++l) = .ok (cvQ r) l:=by
 unfold Rl.opt partT
 by_cases hr:r=(0,1)
 · rw[if_pos hr,List.nil_append,hl,if_neg (by decide),hr]
   rfl
 rw[if_neg hr,List.cons_append,is_nn,if_pos (by simp),List.tail_cons,ratio_read]
theorem after_read (w:Bytes) (r:Int × Int) (l:List Tk):Rl.after w (tkN w :: (ratioT r++l)) = .ok (cvQ r) l:=by
 unfold Rl.after
 rw[nxt_kw,rbind_ok,ratio_read]
def restT (x:Itm):List Tk:=if x.kind=1 then (if x.n=0 then [] else [tkN tLimit.tail,tkI x.n])
 else if x.kind=3 then [tkI x.n]++(partT tFee.tail x.r++partT tTax.tail x.s)
 else if x.kind=4 then tkN tCap.tail :: (ratioT x.r++(tkN tShare.tail :: ratioT x.s))
 else if x.kind=5 then ratioT x.r else []
theorem rest_read {x:Itm} (h1:1≤x.kind) (h2:x.kind≤7) (h:wordsOk x=true) {l:List Tk} (hl:EndR l):Rl.rest x.kind.toNat (restT x++l) = .ok (x.n.toNat,cvQ x.r,cvQ x.s) l:=by
 unfold wordsOk at h
 obtain ⟨_,h⟩:=and2 h
 unfold Rl.rest restT
 have hk:x.kind=1∨x.kind=2∨x.kind=3∨x.kind=4∨x.kind=5∨x.kind=6∨x.kind=7:=by omega
 have z:∀ p:Int × Int,p=(0,0)→cvQ p=(0,0):=fun p hp=>by rw[hp];rfl
 rcases hk with hk|hk|hk|hk|hk|hk|hk
 · rw[hk] at h ⊢
   rw[if_pos rfl] at h ⊢
   obtain ⟨_,h⟩:=and2 h
   obtain ⟨hr,hs⟩:=of_decide_eq_true h
   rw[if_pos (by decide),z _ hr,z _ hs]
   unfold Rl.allow
   by_cases h0:x.n=0
   · rw[if_pos h0,List.nil_append,hl.no (by decide),if_neg (by decide),h0]
     rfl
   rw[if_neg h0]
   show (if Rl.is 1 (some Rl.wLimit) (tkN tLimit.tail :: tkI x.n :: l)=true then _ else _)=_
   rw[is_nn,if_pos (by decide)]
   show (Rl.nxt 2 none (tkI x.n :: l)).bind _=_
   rw[nxt_i,rbind_ok]
   rfl
 · rw[hk] at h ⊢
   rw[if_neg (by decide),if_neg (by decide),if_neg (by decide),if_neg (by decide)] at h
   obtain ⟨hn,h⟩:=and2 h
   obtain ⟨hr,hs⟩:=of_decide_eq_true h
   rw[z _ hr,z _ hs,of_decide_eq_true hn]
   rfl
 · rw[hk] at h ⊢
   rw[if_neg (by decide),if_pos (by decide),if_neg (by decide),if_pos (by decide)]
   unfold Rl.price
   rw[List.append_assoc,List.append_assoc]
   show (Rl.nxt 2 none (tkI x.n :: (partT tFee.tail x.r++(partT tTax.tail x.s++l)))).bind _=_
   rw[nxt_i,rbind_ok]
   have e1:Rl.opt Rl.wFee (partT tFee.tail x.r++(partT tTax.tail x.s++l)) = .ok (cvQ x.r) (partT tTax.tail x.s++l):=opt_read (w:=tFee.tail) (by
    unfold partT
    by_cases hs:x.s=(0,1)
    · rw[if_pos hs];exact hl.no (by decide)
    rw[if_neg hs,List.cons_append,is_nn];decide)
   have e2:Rl.opt Rl.wTax (partT tTax.tail x.s++l) = .ok (cvQ x.s) l:=opt_read (w:=tTax.tail) (hl.no (by decide))
   rw[e1,rbind_ok,e2,rbind_ok]
   rfl
 · rw[hk] at h ⊢
   rw[if_neg (by decide),if_neg (by decide),if_pos (by decide)] at h
   obtain ⟨hn,_⟩:=and2 h
   rw[if_neg (by decide),if_neg (by decide),if_pos (by decide),if_neg (by decide),if_neg (by decide),if_pos (by decide),of_decide_eq_true hn]
   unfold Rl.resale
   rw[List.cons_append,List.append_assoc,List.cons_append]
   have e1:Rl.after Rl.wCap (tkN tCap.tail :: (ratioT x.r++(tkN tShare.tail :: (ratioT x.s++l)))) = .ok (cvQ x.r) (tkN tShare.tail :: (ratioT x.s++l)):=after_read tCap.tail x.r _
   have e2:Rl.after Rl.wShare (tkN tShare.tail :: (ratioT x.s++l)) = .ok (cvQ x.s) l:=after_read tShare.tail x.s _
   rw[e1,rbind_ok,e2,rbind_ok]
   rfl
 · rw[hk] at h ⊢
   rw[if_neg (by decide),if_neg (by decide),if_neg (by decide),if_pos (by decide)] at h
   obtain ⟨hn,h⟩:=and2 h
   obtain ⟨_,hs⟩:=and2 h
   rw[if_neg (by decide),if_neg (by decide),if_neg (by decide),if_pos (by decide),if_neg (by decide),if_neg (by decide),if_neg (by decide),if_pos (by decide),of_decide_eq_true hn,z _ (of_decide_eq_true hs)]
   unfold Rl.refund
   rw[ratio_read,rbind_ok]
   rfl
 · rw[hk] at h ⊢
   rw[if_neg (by decide),if_neg (by decide),if_neg (by decide),if_neg (by decide)] at h
   obtain ⟨hn,h⟩:=and2 h
   obtain ⟨hr,hs⟩:=of_decide_eq_true h
   rw[z _ hr,z _ hs,of_decide_eq_true hn]
   rfl
 rw[hk] at h ⊢
 rw[if_neg (by decide),if_neg (by decide),if_neg (by decide),if_neg (by decide)] at h
 obtain ⟨hn,h⟩:=and2 h
 obtain ⟨hr,hs⟩:=of_decide_eq_true h
 rw[z _ hr,z _ hs,of_decide_eq_true hn]
 rfl
theorem item_readR {x:Itm} (h:itemOk x=true) (q:List Tk):Rl.item (itemT x++q) = .ok (cvI x) q:=by
 unfold itemOk at h
 obtain ⟨h0,h⟩:=and2 h
 obtain ⟨h1,h0⟩:=and2 h0
 obtain ⟨h2,h3⟩:=and2 h0
 obtain ⟨hw,hl⟩:=and2 h
 have h1:=of_decide_eq_true h1
 have h2:=of_decide_eq_true h2
 have h3:=of_decide_eq_true h3
 have hk:=kindc_eq h1 h2
 have e:itemT x++q=tkN (kindK x.kind) :: tkN x.name :: (restT x++(whensT [119,104,101,110] x.whn++tkS [59] :: q)):=by
  simp only[itemT,wordsT,restT,List.append_assoc,List.cons_append,List.nil_append]
 rw[e]
 unfold Rl.item
 have he:EndR (whensT [119,104,101,110] x.whn++tkS [59] :: q):=by
  cases x.whn with
  | nil=>exact .inl ⟨q,rfl⟩
  | cons y ys=>exact .inr ⟨_,rfl⟩
 rw[if_pos ⟨rfl,by show Rl.kindc (kindK x.kind)≠0;rw[hk];omega⟩,nxt_n,rbind_ok,nxt_n,rbind_ok]
 rw[show Rl.kindc (tkN (kindK x.kind)).text=x.kind.toNat from hk,rest_read h1 h2 hw he,rbind_ok,whn_read (List.all_eq_true.1 hl) h3,rbind_ok,nxt_sy,rbind_ok]
 rfl
theorem items_read:∀ (l:List Itm),(∀ x ∈ l,itemOk x=true)→∀ (k:Nat) (acc:List Rl.Itm),l.length≤k→Rl.items k acc (l.flatMap itemT) = .ok (acc++l.map cvI) []
 | [],_,k,acc,_=>by cases k <;> simp[Rl.items]
 | x :: l,h,k,acc,hk=>by
  cases k with
  | zero=>simp at hk
  | succ k =>
   rw[List.flatMap_cons]
   have e:itemT x++l.flatMap itemT=tkN (kindK x.kind) :: (itemT x++l.flatMap itemT).tail:=rfl
   rw[e]
   unfold Rl.items
   rw[← e,item_readR (h x (by simp)),rbind_ok,items_read l (fun y hy=>h y (by simp[hy])) k _ (by simp at hk;omega)]
   simp
theorem rules_read {l:List Itm} (h:rulesOk l=true):Rl.items 200 [] (l.flatMap itemT) = .ok (l.map cvI) []:=by
 unfold rulesOk at h
 obtain ⟨h1,h2⟩:=and2 h
 exact items_read l (List.all_eq_true.1 h2) 200 [] (of_decide_eq_true h1)
end Pr
end Go.Proofs.YtglepipfdmphhaaGreatDoor
namespace Go.Proofs.YtglepipfdmphhaaGreatDoor
set_option linter.unusedVariables false
set_option linter.unusedSimpArgs false
open Go Go.RowKit
namespace Pr
def zT (t:Tst):Tst:={ t with at_:=0 }
def zI (x:Itm):Itm:={ x with whn:=x.whn.map (·.map zT),at_:=0 }
theorem whensS_z:∀ (w:Bytes) (l:List (List Tst)),whensS w (l.map (·.map zT))=whensS w l
 | _,[]=>rfl
 | w,x :: l=>by
  show w++join tAnd ((x.map zT).map testS)++whensS tOr (l.map (·.map zT))=w++join tAnd (x.map testS)++whensS tOr l
  rw[whensS_z tOr l,List.map_map]
  rfl
theorem itemL_z (x:Itm):itemL (zI x)=itemL x:=by
 unfold itemL zI
 simp only[whensS_z]
 rfl
def uvP (p:Nat × Nat):Int × Int:=(p.1,p.2)
def uvT (t:Rl.Tst):Tst:=⟨t.attr,t.op,t.name,t.n,0⟩
def uvI (x:Rl.Itm):Itm:=⟨x.kind,x.name,x.whn.map (·.map uvT),x.n,uvP x.r,uvP x.s,0⟩
theorem nat_of {n:Int} (h:numOk n=true):((n.toNat:Nat):Int)=n:=Int.toNat_of_nonneg (numOk_iff.1 h).1
theorem map_same {α β:Type} {f:α→β} {g:β→α} {z:α→α} {l:List α} (h:∀ x ∈ l,g (f x)=z x):(l.map f).map g=l.map z:=by
 rw[List.map_map]
 exact List.map_congr_left h
theorem map_id' {α β:Type} {f:α→β} {g:β→α} {l:List α} (h:∀ x ∈ l,g (f x)=x):(l.map f).map g=l:=by
 rw[List.map_map]
 exact (List.map_congr_left h).trans (List.map_id l)
theorem uv_test {t:Tst} (h:testOk t=true):uvT (cvT t)=zT t:=by
 unfold testOk at h
 obtain ⟨h0,h⟩:=and2 h
 obtain ⟨h1,_⟩:=and2 h0
 obtain ⟨_,hv⟩:=and2 h
 have h1:=of_decide_eq_true h1
 have e:((t.op.toNat:Nat):Int)=t.op:=Int.toNat_of_nonneg (by omega)
 have e2:((t.n.toNat:Nat):Int)=t.n:=by
  by_cases hn:t.name=[]
  · rw[if_pos hn] at hv
    exact nat_of hv
  rw[if_neg hn] at hv
  rw[of_decide_eq_true (and2 hv).1]
  rfl
 simp only[uvT,cvT,zT,e,e2]
theorem uv_pair {p:Int × Int} (h:ratioOk p=true):uvP (cvQ p)=p:=by
 simp only[ratioOk,numsOk,List.all_cons,List.all_nil,Bool.and_true,Bool.and_eq_true] at h
 simp only[uvP,cvQ,nat_of h.1,nat_of h.2]
theorem uv_part {p:Int × Int} (h:partOk p=true):uvP (cvQ p)=p:=by
 unfold partOk at h
 by_cases hp:p=(0,1)
 · rw[hp];rfl
 rw[decide_eq_false hp,Bool.false_or] at h
 exact uv_pair h
theorem uv_item {x:Itm} (h:itemOk x=true):uvI (cvI x)=zI x:=by
 unfold itemOk at h
 obtain ⟨h0,h⟩:=and2 h
 obtain ⟨h1,h0⟩:=and2 h0
 obtain ⟨hw,hl⟩:=and2 h
 have h1:=of_decide_eq_true h1
 have e:((x.kind.toNat:Nat):Int)=x.kind:=Int.toNat_of_nonneg (by omega)
 have ew:((x.whn.map (·.map cvT)).map (·.map uvT))=x.whn.map (·.map zT):=map_same (fun l hx=>by
  have:=List.all_eq_true.1 hl l hx
  unfold listOk at this
  exact map_same (fun t ht=>uv_test (List.all_eq_true.1 (and2 (and2 this).2).2 t ht)))
 have en:((x.n.toNat:Nat):Int)=x.n∧uvP (cvQ x.r)=x.r∧uvP (cvQ x.s)=x.s:=by
  have z:∀ p:Int × Int,p=(0,0)→uvP (cvQ p)=p:=fun p hp=>by rw[hp];rfl
  have zn:x.n=0→((x.n.toNat:Nat):Int)=x.n:=fun h=>by rw[h];rfl
  unfold wordsOk at hw
  obtain ⟨_,hw⟩:=and2 hw
  split at hw
  · obtain ⟨g1,g2⟩:=and2 hw
    have g2:=of_decide_eq_true g2
    exact ⟨nat_of g1,z _ g2.1,z _ g2.2⟩
  split at hw
  · obtain ⟨g1,g2⟩:=and2 hw
    obtain ⟨g2,g3⟩:=and2 g2
    exact ⟨nat_of g1,uv_part g2,uv_part g3⟩
  split at hw
  · obtain ⟨g1,g2⟩:=and2 hw
    obtain ⟨g2,g3⟩:=and2 g2
    exact ⟨zn (of_decide_eq_true g1),uv_pair g2,uv_pair g3⟩
  split at hw
  · obtain ⟨g1,g2⟩:=and2 hw
    obtain ⟨g2,g3⟩:=and2 g2
    exact ⟨zn (of_decide_eq_true g1),uv_pair g2,z _ (of_decide_eq_true g3)⟩
  obtain ⟨g1,g2⟩:=and2 hw
  have g2:=of_decide_eq_true g2
  exact ⟨zn (of_decide_eq_true g1),z _ g2.1,z _ g2.2⟩
 simp only[uvI,cvI,zI,e,ew,en]
theorem fin_ok {ok:Bool} {l:List (Nat × Bytes)} {s:Bytes} (h:fin ok (puts [] l)=(s,0)):ok=true∧s=full l:=by
 rw[fin_full] at h
 split at h
 · cases h
 split at h
 · cases h
 rename_i h1 _
 cases h
 exact ⟨by simpa using h1,rfl⟩
theorem rulesL_z (l:List Itm):(l.map zI).map itemL=l.map itemL:=by
 rw[List.map_map]
 exact List.map_congr_left (fun x _=>itemL_z x)
theorem rules_equal {a b:List Itm} {s t:Bytes} (ha:rules a=(s,0)) (hb:rules b=(t,0)):s=t↔a.map zI=b.map zI:=by
 obtain ⟨oa,rfl⟩:=fin_ok ha
 obtain ⟨ob,rfl⟩:=fin_ok hb
 have ia:=List.all_eq_true.1 (and2 oa).2
 have ib:=List.all_eq_true.1 (and2 ob).2
 constructor
 · intro e
   have h1:=toks_of (rules_lws ia) (rules_lws ib) e
   have h2:=rules_read oa
   rw[h1,rules_read ob] at h2
   injection h2 with h3
   rw[← map_same (fun x hx=>uv_item (ia x hx)),← map_same (fun x hx=>uv_item (ib x hx)),h3]
 intro e
 rw[← rulesL_z a,← rulesL_z b,e]
theorem fin_bad (s:Bytes):fin false s=([],1):=rfl
theorem name_dash (s:Bytes):nameOk (s++[45])=false:=by
 have h:(s++[45]).all Lx.word=false:=by
  rw[List.all_append]
  have:([45]:Bytes).all Lx.word=false:=by decide
  rw[this,Bool.and_false]
 unfold nameOk
 rw[h]
 simp
theorem refuse_item {x:Itm} {l:List Itm} (hl:itemOk x=false):rules (x :: l)=([],1):=by
 have e:rulesOk (x :: l)=false:=by simp[rulesOk,hl]
 unfold rules
 rw[e]
 rfl
end Pr
end Go.Proofs.YtglepipfdmphhaaGreatDoor
namespace Go.Proofs.YtglepipfdmphhaaGreatDoor
set_option linter.unusedVariables false
set_option linter.unusedSimpArgs false
open Go Go.RowKit
namespace Pr
open Lx (Tk)
theorem Lws.lexed {l:List (Nat × Bytes)} {ts:List Tk} (h:Lws l ts) {s:Bytes} (hf:Pr.fin true (puts [] l)=(s,0)):s=full l∧s.length≤20000∧∃ us:List Tk,Lx.lex s=(us,0,0)∧us.map rz=ts:=by
 obtain ⟨h1,us,h2,h3⟩:=h.lex
 have hl:us.length=ts.length:=by rw[← h3,List.length_map]
 have hs:s=full l:=(fin_ok hf).2
 subst hs
 rw[h.fin] at hf
 have h0:(Lx.lex (full l)).2.1=0:=by
  by_cases c:(Lx.lex (full l)).2.1=0
  · exact c
  rw[if_neg c] at hf;have h5:=congrArg Prod.snd hf;exact absurd h5 (by show ¬ (3:Nat)=0;omega)
 have c1:¬ 20000 < (full l).length:=fun c=>by
  unfold Lx.lex at h0
  rw[if_pos c] at h0
  cases h0
 refine ⟨rfl,by omega,us,?_,h3⟩
 have h2':Lx.scan (full l).length 0 (full l)=us.map (fun t=>(t,0)):=h2
 unfold Lx.lex at h0 ⊢
 rw[if_neg c1,h2'] at h0 ⊢
 by_cases c2:5000 < us.length
 · rw[fin_many _ 0 [] (by decide) (fun x hx=>by obtain ⟨t,_,rfl⟩:=List.mem_map.1 hx;rfl) (by simp;omega)] at h0
   cases h0
 rw[fin_few _ 0 [] (fun x hx=>by obtain ⟨t,_,rfl⟩:=List.mem_map.1 hx;rfl) (by simp;omega)]
 simp[List.map_map,Function.comp_def]
theorem uvI_ren (f:Nat→Nat) (x:Rl.Itm):uvI (Rl.renI f x)=uvI x:=by
 have h:(fun y:List Rl.Tst=>y.map uvT) ∘ (fun y:List Rl.Tst=>y.map (Rl.renS f))=fun y=>y.map uvT:=by
  funext y
  show (y.map (Rl.renS f)).map uvT=_
  rw[List.map_map]
  rfl
 simp only[uvI,Rl.renI,List.map_map]
 rw[h]
theorem rules_parse {l:List Itm} {s:Bytes} (h:rules l=(s,0)):rulesOk l=true∧s.length≤20000∧∃ xs:List Rl.Itm,Rl.parse s=(xs,0,0)∧xs.map uvI=l.map zI:=by
 have h9:=h
 obtain ⟨ok,_⟩:=fin_ok h
 have hi:=List.all_eq_true.1 (and2 ok).2
 have hf:Pr.fin true (puts [] (l.map itemL))=(s,0):=by
  rw[← h9]
  unfold rules rulesText
  rw[ok]
 obtain ⟨hs,hlen,us,hx,hz⟩:=(rules_lws hi).lexed hf
 refine ⟨ok,hlen,?_⟩
 have e:=Rl.eqv_items (fun _=>0) 200 [] us
 rw[show us.map (Rl.renT fun _=>0)=l.flatMap itemT from hz,show (([]:List Rl.Itm).map (Rl.renI fun _=>0))=[] from rfl,rules_read ok] at e
 unfold Rl.parse
 rw[hx]
 simp only[ne_eq,not_true_eq_false,if_false]
 cases hit:Rl.items 200 [] us with
 | bad e1 r =>
  rw[hit] at e
  cases e
 | ok x r =>
  rw[hit] at e
  have e2:l.map cvI=x.map (Rl.renI fun _=>0):=by
   have e3:Rl.Out.ok (l.map cvI) []=Rl.Out.ok (x.map (Rl.renI fun _=>0)) (r.map (Rl.renT fun _=>0)):=e
   injection e3
  refine ⟨x,rfl,?_⟩
  have e4:x.map uvI=(x.map (Rl.renI fun _=>0)).map uvI:=by
   rw[List.map_map]
   exact List.map_congr_left (fun y _=>(uvI_ren _ y).symm)
  rw[e4,← e2]
  exact map_same (fun y hy=>uv_item (hi y hy))
end Pr
end Go.Proofs.YtglepipfdmphhaaGreatDoor
