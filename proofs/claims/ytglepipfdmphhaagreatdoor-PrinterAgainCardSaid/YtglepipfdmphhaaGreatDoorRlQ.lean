/-
 RlP, RlQ in one text.
-/
import Derived.Test.YtglepipfdmphhaaGreatDoorRqE
namespace Go.Proofs.YtglepipfdmphhaaGreatDoor
set_option linter.unusedVariables false
set_option linter.unusedSimpArgs false
namespace Rl
open Lx (Tk)
def Out.left {α:Type}:Out α→List Tk
 | .ok _ r=>r
 | .bad _ r=>r
def Out.more {α:Type} (m:List Tk):Out α→Out α
 | .ok a r=>.ok a (r++m)
 | .bad e r=>.bad e (r++m)
structure Nice {α:Type} (f:List Tk→Out α):Prop where
 suf:∀ l,(f l).left <:+ l
 far:∀ l m,(f l).left≠[]→f (l++m)=(f l).more m
 near:∀ l m,(f l).left=[]→(f (l++m)).left <:+ m
theorem suf_nil {r l:List Tk} (h:r <:+ l) (hr:r≠[]):l≠[]:=by
 rintro rfl
 exact hr (List.suffix_nil.1 h)
theorem Nice.pure {α:Type} (a:α):Nice (fun l=>Out.ok a l) :=
 ⟨fun l=>List.suffix_refl _,fun l m _=>rfl,fun l m h=>by
  have h:l=[]:=h
  subst h
  exact List.suffix_refl _⟩
theorem Nice.fail {α:Type} (e:Nat):Nice (fun l=>(Out.bad e l:Out α)) :=
 ⟨fun l=>List.suffix_refl _,fun l m _=>rfl,fun l m h=>by
  have h:l=[]:=h
  subst h
  exact List.suffix_refl _⟩
theorem Nice.bind {α β:Type} {f:List Tk→Out α} {g:α→List Tk→Out β} (hf:Nice f) (hg:∀ a,Nice (g a)):Nice (fun l=>(f l).bind (g · ·)):=by
 have hsuf:∀ l,((f l).bind (g · ·)).left <:+ l:=fun l=>by
  have h:=hf.suf l
  cases hfl:f l with
  | ok a r =>
   rw[hfl] at h
   exact ((hg a).suf r).trans h
  | bad e r =>
   rw[hfl] at h
   exact h
 refine ⟨hsuf,fun l m h=>?_,fun l m h=>?_⟩
 · have h1:=hf.far l m
   cases hfl:f l with
   | ok a r =>
    rw[hfl] at h h1
    have hr:r≠[]:=suf_nil ((hg a).suf r) h
    show (f (l++m)).bind (g · ·)=_
    rw[h1 hr]
    exact (hg a).far r m h
   | bad e r =>
    rw[hfl] at h h1
    show (f (l++m)).bind (g · ·)=_
    rw[h1 h]
    rfl
 show ((f (l++m)).bind (g · ·)).left <:+ m
 by_cases hn:(f l).left=[]
 · have h1:=hf.near l m hn
   cases hfm:f (l++m) with
   | ok a r =>
    rw[hfm] at h1
    exact ((hg a).suf r).trans h1
   | bad e r =>
    rw[hfm] at h1
    exact h1
 have h1:=hf.far l m hn
 rw[h1]
 cases hfl:f l with
 | ok a r =>
  rw[hfl] at h
  exact (hg a).near r m h
 | bad e r =>
  rw[hfl] at h hn
  exact absurd h hn
structure HeadP (p:List Tk→Prop):Prop where
 nil:¬ p []
 cons:∀ t r r',p (t :: r)→p (t :: r')
theorem HeadP.iff {p:List Tk→Prop} (hp:HeadP p) (t:Tk) (r r':List Tk):p (t :: r)↔p (t :: r'):=⟨hp.cons t r r',hp.cons t r' r⟩
theorem headP_is (k:Nat) (x:Option Bytes):HeadP (fun l=>is k x l=true):=⟨by simp[is],fun t r r' h=>h⟩
theorem headP_and {p:List Tk→Prop} {f:Bytes→Prop} (hp:HeadP p):HeadP (fun l=>p l∧f (headText l)):=⟨fun h=>hp.nil h.1,fun t r r' h=>⟨hp.cons t r r' h.1,h.2⟩⟩
theorem Nice.ite {α:Type} {p:List Tk→Prop} [DecidablePred p] {f g:List Tk→Out α} (hp:HeadP p) (hf:Nice f) (hg:Nice g):Nice (fun l=>if p l then f l else g l):=by
 have hsuf:∀ l,(if p l then f l else g l).left <:+ l:=fun l=>by
  by_cases h:p l
  · rw[if_pos h];exact hf.suf l
  rw[if_neg h];exact hg.suf l
 refine ⟨hsuf,fun l m h=>?_,fun l m h=>?_⟩
 · cases l with
   | nil =>
    exfalso
    exact h (List.suffix_nil.1 (hsuf []))
   | cons t r =>
    by_cases hb:p (t :: r)
    · rw[if_pos hb] at h ⊢
      rw[List.cons_append,if_pos (hp.cons t r _ hb),← List.cons_append]
      exact hf.far _ m h
    rw[if_neg hb] at h ⊢
    rw[List.cons_append,if_neg (fun h9=>hb (hp.cons t _ r h9)),← List.cons_append]
    exact hg.far _ m h
 cases l with
 | nil=>exact hsuf m
 | cons t r =>
  by_cases hb:p (t :: r)
  · rw[if_pos hb] at h
    rw[List.cons_append,if_pos (hp.cons t r _ hb),← List.cons_append]
    exact hf.near _ m h
  rw[if_neg hb] at h
  rw[List.cons_append,if_neg (fun h9=>hb (hp.cons t _ r h9)),← List.cons_append]
  exact hg.near _ m h
theorem Nice.iteTail {α:Type} {p:List Tk→Prop} [DecidablePred p] {f g:List Tk→Out α} (hp:HeadP p) (hf:Nice f) (hg:Nice g):Nice (fun l=>if p l then f l.tail else g l):=by
 have hsuf:∀ l,(if p l then f l.tail else g l).left <:+ l:=fun l=>by
  by_cases h:p l
  · rw[if_pos h];exact (hf.suf l.tail).trans (List.tail_suffix l)
  rw[if_neg h];exact hg.suf l
 refine ⟨hsuf,fun l m h=>?_,fun l m h=>?_⟩
 · cases l with
   | nil =>
    exfalso
    exact h (List.suffix_nil.1 (hsuf []))
   | cons t r =>
    by_cases hb:p (t :: r)
    · rw[if_pos hb] at h ⊢
      rw[List.cons_append,if_pos (hp.cons t r _ hb)]
      exact hf.far r m h
    rw[if_neg hb] at h ⊢
    rw[List.cons_append,if_neg (fun h9=>hb (hp.cons t _ r h9)),← List.cons_append]
    exact hg.far _ m h
 cases l with
 | nil=>exact hsuf m
 | cons t r =>
  by_cases hb:p (t :: r)
  · rw[if_pos hb] at h
    rw[List.cons_append,if_pos (hp.cons t r _ hb)]
    exact hf.near r m h
  rw[if_neg hb] at h
  rw[List.cons_append,if_neg (fun h9=>hb (hp.cons t _ r h9)),← List.cons_append]
  exact hg.near _ m h
theorem nice_nxt (k:Nat) (x:Option Bytes):Nice (nxt k x):=by
 have hsuf:∀ l,(nxt k x l).left <:+ l:=fun l=>by
  cases l with
  | nil=>exact List.suffix_refl _
  | cons t r =>
   rw[nxt_cons]
   by_cases h:is k x (t :: r)=true
   · rw[if_pos h];exact List.suffix_cons t r
   rw[if_neg h];exact List.suffix_refl _
 refine ⟨hsuf,fun l m h=>?_,fun l m h=>?_⟩
 · cases l with
   | nil =>
    exfalso
    exact h (List.suffix_nil.1 (hsuf []))
   | cons t r =>
    rw[nxt_cons] at h ⊢
    rw[List.cons_append,nxt_cons]
    by_cases hb:is k x (t :: r)=true
    · rw[if_pos hb,if_pos (show is k x (t :: (r++m))=true from hb)]
      rfl
    rw[if_neg hb,if_neg (show ¬ is k x (t :: (r++m))=true from hb)]
    rfl
 cases l with
 | nil=>exact hsuf m
 | cons t r =>
  rw[nxt_cons] at h
  rw[List.cons_append,nxt_cons]
  by_cases hb:is k x (t :: r)=true
  · rw[if_pos hb] at h
    rw[if_pos (show is k x (t :: (r++m))=true from hb)]
    have h:r=[]:=h
    subst h
    exact List.suffix_refl _
  rw[if_neg hb] at h
  cases h
theorem nice_test:Nice test :=
 (nice_nxt 1 none).bind fun a=>Nice.ite (headP_and (f:=fun t=>opc t≠0) (headP_is 3 none))
  ((nice_nxt 3 none).bind fun o=>Nice.ite (headP_is 2 none) ((nice_nxt 2 none).bind fun n=>Nice.pure _)
   ((nice_nxt 1 none).bind fun b=>Nice.ite (headP_is 3 (some [46])) ((nice_nxt 3 none).bind fun _=>(nice_nxt 1 none).bind fun c=>Nice.pure _) (Nice.pure _)))
  (Nice.fail 4)
theorem nice_sevG {α:Type} {one:List Tk→Out α} (h:Nice one) (x:Bytes):∀ (k:Nat) (acc:List α),Nice (sevG one x k acc)
 | 0,acc=>Nice.iteTail (headP_is 1 (some x)) (Nice.fail 3) (Nice.pure acc)
 | k+1,acc=>Nice.iteTail (f:=fun l=>(one l).bind fun a r=>sevG one x k (acc++[a]) r) (headP_is 1 (some x)) (h.bind fun a=>nice_sevG h x k (acc++[a])) (Nice.pure acc)
theorem nice_sev {α:Type} {one:List Tk→Out α} (h:Nice one) (x:Bytes):Nice (sev one x):=h.bind fun a=>nice_sevG h x 11 [a]
theorem nice_tests:Nice tests:=nice_sev nice_test wAnd
theorem nice_ratio:Nice ratio:=(nice_nxt 2 none).bind fun a=>(nice_nxt 3 (some [47])).bind fun _=>(nice_nxt 2 none).bind fun b=>Nice.pure _
theorem nice_after (x:Bytes):Nice (after x):=(nice_nxt 1 (some x)).bind fun _=>nice_ratio
theorem nice_opt (x:Bytes):Nice (opt x):=Nice.iteTail (headP_is 1 (some x)) nice_ratio (Nice.pure _)
theorem nice_allow:Nice allow:=Nice.iteTail (f:=fun l=>(nxt 2 none l).bind fun n r=>.ok (n.n,(0,0),(0,0)) r) (headP_is 1 (some wLimit)) ((nice_nxt 2 none).bind fun n=>Nice.pure _) (Nice.pure _)
theorem nice_price:Nice price:=(nice_nxt 2 none).bind fun n=>(nice_opt wFee).bind fun r=>(nice_opt wTax).bind fun s=>Nice.pure _
theorem nice_resale:Nice resale:=(nice_after wCap).bind fun r=>(nice_after wShare).bind fun s=>Nice.pure _
theorem nice_refund:Nice refund:=nice_ratio.bind fun r=>Nice.pure _
theorem nice_rest (k:Nat):Nice (rest k):=by
 unfold rest
 by_cases h1:k=1
 · simp only[if_pos h1];exact nice_allow
 simp only[if_neg h1]
 by_cases h3:k=3
 · simp only[if_pos h3];exact nice_price
 simp only[if_neg h3]
 by_cases h4:k=4
 · simp only[if_pos h4];exact nice_resale
 simp only[if_neg h4]
 by_cases h5:k=5
 · simp only[if_pos h5];exact nice_refund
 simp only[if_neg h5];exact Nice.pure _
theorem nice_whn:Nice whn:=Nice.iteTail (headP_is 1 (some wWhen)) (nice_sev nice_tests wOr) (Nice.pure _)
theorem nice_item:Nice item :=
 Nice.ite (headP_and (f:=fun t=>kindc t≠0) (headP_is 1 none))
  ((nice_nxt 1 none).bind fun t=>(nice_nxt 1 none).bind fun n=>(nice_rest (kindc t.text)).bind fun b=>nice_whn.bind fun c=>(nice_nxt 3 (some [59])).bind fun _=>Nice.pure _)
  (Nice.fail 4)
theorem nice_items:∀ (k:Nat) (acc:List Itm),Nice (items k acc)
 | 0,acc=>by
  refine ⟨fun l=>?_,fun l m h=>?_,fun l m h=>?_⟩
  · cases l <;> exact List.suffix_refl _
  · cases l with
    | nil=>exact absurd rfl h
    | cons t r=>rfl
  cases l with
  | nil=>cases m <;> exact List.suffix_refl _
  | cons t r=>cases h
 | k+1,acc=>by
  have hb:Nice (fun l=>(item l).bind fun x q=>items k (acc++[x]) q):=nice_item.bind fun x=>nice_items k (acc++[x])
  have hsuf:∀ l,(items (k+1) acc l).left <:+ l:=fun l=>by
   cases l with
   | nil=>exact List.suffix_refl _
   | cons t r=>exact hb.suf (t :: r)
  refine ⟨hsuf,fun l m h=>?_,fun l m h=>?_⟩
  · cases l with
    | nil=>exact absurd rfl h
    | cons t r=>exact hb.far (t :: r) m h
  cases l with
  | nil=>exact hsuf m
  | cons t r=>exact hb.near (t :: r) m h
theorem Nice.swap {α:Type} {f:List Tk→Out α} (hf:Nice f) {p q:List Tk} {u:Tk} {a:α} (h:f (p++u :: q) = .ok a (u :: q)) (q':List Tk):f (p++u :: q') = .ok a (u :: q'):=by
 have e1:∀ z,p++u :: z=(p++[u])++z:=fun z=>by simp
 rw[e1] at h ⊢
 by_cases h0:(f (p++[u])).left=[]
 · have h1:=hf.near _ q h0
   rw[h] at h1
   have:=h1.length_le
   simp[Out.left] at this
   omega
 have h1:=hf.far _ q h0
 rw[h] at h1
 rw[hf.far _ q' h0]
 cases h2:f (p++[u]) with
 | ok b r =>
  rw[h2] at h1
  simp only[Out.more,Out.ok.injEq] at h1 ⊢
  refine ⟨h1.1.symm,?_⟩
  have h3:[u]++q=r++q:=by simpa using h1.2
  rw[← List.append_cancel_right h3]
  rfl
 | bad e r =>
  rw[h2] at h1
  cases h1
structure Shut {α:Type} (f:List Tk→Out α):Prop where
 cut:∀ c r x,f (c++r) = .ok x r→c≠[]∧f c = .ok x []
 ext:∀ c x,f c = .ok x []→c≠[]∧∀ r,f (c++r) = .ok x r
theorem shut_nxt (k:Nat) (x:Option Bytes):Shut (nxt k x):=by
 refine ⟨fun c r y h=>?_,fun c y h=>?_⟩
 · cases c with
   | nil =>
    exfalso
    rw[List.nil_append] at h
    cases r with
    | nil=>cases h
    | cons t r =>
     rw[nxt_cons] at h
     by_cases hb:is k x (t :: r)=true
     · rw[if_pos hb,Out.ok.injEq] at h
       have:=congrArg List.length h.2
       simp at this
     rw[if_neg hb] at h
     cases h
   | cons t c =>
    refine ⟨by simp,?_⟩
    rw[List.cons_append,nxt_cons] at h
    rw[nxt_cons]
    by_cases hb:is k x (t :: (c++r))=true
    · rw[if_pos hb,Out.ok.injEq] at h
      rw[if_pos (show is k x (t :: c)=true from hb),h.1]
      have h9:c=[]:=by simpa using h.2
      rw[h9]
    rw[if_neg hb] at h
    cases h
 cases c with
 | nil=>cases h
 | cons t c =>
  refine ⟨by simp,fun r=>?_⟩
  rw[nxt_cons] at h
  rw[List.cons_append,nxt_cons]
  by_cases hb:is k x (t :: c)=true
  · rw[if_pos hb,Out.ok.injEq] at h
    rw[if_pos (show is k x (t :: (c++r))=true from hb),h.1,h.2]
    rfl
  rw[if_neg hb] at h
  cases h
theorem shut_map {α β:Type} {f:List Tk→Out α} (hf:Shut f) (g:α→β):Shut (fun l=>(f l).bind fun a r=>.ok (g a) r):=by
 refine ⟨fun c r x h=>?_,fun c x h=>?_⟩
 · cases h1:f (c++r) with
   | ok a r1 =>
    rw[h1] at h
    simp only[Out.bind,Out.ok.injEq] at h
    obtain ⟨h2,rfl⟩:=h
    obtain ⟨h3,h4⟩:=hf.cut c _ a h1
    exact ⟨h3,by simp only[h4,Out.bind,h2]⟩
   | bad e r1 =>
    rw[h1] at h
    cases h
 cases h1:f c with
 | ok a r1 =>
  rw[h1] at h
  simp only[Out.bind,Out.ok.injEq] at h
  obtain ⟨h2,rfl⟩:=h
  obtain ⟨h3,h4⟩:=hf.ext c a h1
  exact ⟨h3,fun r=>by simp only[h4 r,Out.bind,h2]⟩
 | bad e r1 =>
  rw[h1] at h
  cases h
theorem shut_bind {α β:Type} {f:List Tk→Out α} {g:α→List Tk→Out β} (hf:Nice f) (hn:∀ a,Nice (g a)) (hg:∀ a,Shut (g a)):Shut (fun l=>(f l).bind (g · ·)):=by
 refine ⟨fun c r x h=>?_,fun c x h=>?_⟩
 · cases h1:f (c++r) with
   | ok a r1 =>
    rw[h1] at h
    simp only[Out.bind] at h
    have hs1:=hf.suf (c++r)
    rw[h1] at hs1
    have hs2:=(hn a).suf r1
    rw[h] at hs2
    obtain ⟨c1,hc1⟩:=hs1
    obtain ⟨c2,hc2⟩:=hs2
    simp only[Out.left] at hc1 hc2
    subst hc2
    have hc:c=c1++c2:=by
     rw[← List.append_assoc] at hc1
     exact (List.append_cancel_right hc1).symm
    subst hc
    obtain ⟨h3,h4⟩:=(hg a).cut c2 r x h
    cases c2 with
    | nil=>exact absurd rfl h3
    | cons u c2 =>
     rw[List.append_assoc,List.cons_append] at h1
     have h5:=hf.swap h1 c2
     refine ⟨by simp,?_⟩
     simp only[h5,Out.bind]
     exact h4
   | bad e r1 =>
    rw[h1] at h
    cases h
 cases h1:f c with
 | ok a r1 =>
  rw[h1] at h
  simp only[Out.bind] at h
  obtain ⟨h3,h4⟩:=(hg a).ext r1 x h
  have hs1:=hf.suf c
  rw[h1] at hs1
  obtain ⟨c1,hc1⟩:=hs1
  simp only[Out.left] at hc1
  subst hc1
  refine ⟨by simp[h3],fun r=>?_⟩
  cases r1 with
  | nil=>exact absurd rfl h3
  | cons u r1 =>
   have h5:=hf.swap h1 (r1++r)
   rw[List.append_assoc,List.cons_append]
   simp only[h5,Out.bind]
   exact h4 r
 | bad e r1 =>
  rw[h1] at h
  cases h
theorem shut_ite {α:Type} {p:List Tk→Prop} [DecidablePred p] {f:List Tk→Out α} {e:Nat} (hp:HeadP p) (hf:Shut f):Shut (fun l=>if p l then f l else .bad e l):=by
 refine ⟨fun c r x h=>?_,fun c x h=>?_⟩
 · by_cases hb:p (c++r)
   · rw[if_pos hb] at h
     obtain ⟨h3,h4⟩:=hf.cut c r x h
     refine ⟨h3,?_⟩
     cases c with
     | nil=>exact absurd rfl h3
     | cons t c =>
      rw[if_pos (hp.cons t _ c hb)]
      exact h4
   rw[if_neg hb] at h
   cases h
 by_cases hb:p c
 · rw[if_pos hb] at h
   obtain ⟨h3,h4⟩:=hf.ext c x h
   refine ⟨h3,fun r=>?_⟩
   cases c with
   | nil=>exact absurd rfl h3
   | cons t c =>
    simp only[List.cons_append]
    rw[if_pos (hp.cons t c _ hb),← List.cons_append]
    exact h4 r
 rw[if_neg hb] at h
 cases h
theorem shut_item:Shut item:=by
 refine shut_ite (headP_and (f:=fun t=>kindc t≠0) (headP_is 1 none)) ?_
 refine shut_bind (nice_nxt 1 none) (fun t=>?_) (fun t=>?_)
 · exact (nice_nxt 1 none).bind fun n=>(nice_rest (kindc t.text)).bind fun b=>nice_whn.bind fun c=>(nice_nxt 3 (some [59])).bind fun _=>Nice.pure _
 refine shut_bind (nice_nxt 1 none) (fun n=>?_) (fun n=>?_)
 · exact (nice_rest (kindc t.text)).bind fun b=>nice_whn.bind fun c=>(nice_nxt 3 (some [59])).bind fun _=>Nice.pure _
 refine shut_bind (nice_rest _) (fun b=>?_) (fun b=>?_)
 · exact nice_whn.bind fun c=>(nice_nxt 3 (some [59])).bind fun _=>Nice.pure _
 refine shut_bind nice_whn (fun c=>?_) (fun c=>?_)
 · exact (nice_nxt 3 (some [59])).bind fun _=>Nice.pure _
 exact shut_map (shut_nxt 3 (some [59])) _
inductive Segs:List (List Tk)→List Itm→Prop where
 | nil:Segs [] []
 | cons {c:List Tk} {x:Itm} {cs:List (List Tk)} {xs:List Itm}:item c = .ok x []→Segs cs xs→Segs (c :: cs) (x :: xs)
theorem Segs.len {cs:List (List Tk)} {xs:List Itm} (h:Segs cs xs):cs.length=xs.length:=by
 induction h with
 | nil=>rfl
 | cons _ _ ih=>simp[ih]
theorem Segs.append {cs cs':List (List Tk)} {xs xs':List Itm} (h:Segs cs xs) (h':Segs cs' xs'):Segs (cs++cs') (xs++xs'):=by
 induction h with
 | nil=>exact h'
 | cons h1 _ ih=>exact .cons h1 ih
theorem Segs.split:∀ (xs xs':List Itm) {cs:List (List Tk)},Segs cs (xs++xs')→∃ a b,cs=a++b∧Segs a xs∧Segs b xs'
 | [],xs',cs,h=>⟨[],cs,rfl,.nil,h⟩
 | x :: xs,xs',cs,h=>by
  rw[List.cons_append] at h
  cases h with
  | cons h1 h2 =>
   obtain ⟨a,b,rfl,h3,h4⟩:=Segs.split xs xs' h2
   exact ⟨_ :: a,b,rfl,.cons h1 h3,h4⟩
theorem items_step {k:Nat} {acc:List Itm} {c:List Tk} {x:Itm} (h:item c = .ok x []) (m:List Tk):items (k+1) acc (c++m)=items k (acc++[x]) m:=by
 obtain ⟨h1,h2⟩:=shut_item.ext c x h
 cases c with
 | nil=>exact absurd rfl h1
 | cons t c =>
  show (item (t :: c++m)).bind (fun x q=>items k (acc++[x]) q)=_
  rw[h2 m]
  rfl
theorem items_segs {cs:List (List Tk)} {xs:List Itm} (h:Segs cs xs):∀ (k:Nat) (acc:List Itm) (m:List Tk),items (k+xs.length) acc (cs.flatten++m)=items k (acc++xs) m:=by
 induction h with
 | nil =>
  intro k acc m
  simp
 | cons h1 _ ih =>
  intro k acc m
  rw[List.flatten_cons,List.append_assoc,List.length_cons,← Nat.add_assoc,items_step h1,ih]
  simp
theorem items_done (k:Nat) (acc:List Itm):items k acc [] = .ok acc []:=by cases k <;> rfl
theorem items_ok:∀ (k:Nat) (acc:List Itm) (l:List Tk) (z:List Itm) (r:List Tk),items k acc l = .ok z r→r=[]∧∃ cs xs,Segs cs xs∧l=cs.flatten∧xs.length≤k∧z=acc++xs
 | k,acc,[],z,r,h=>by
  rw[items_done,Out.ok.injEq] at h
  exact ⟨h.2.symm,[],[],.nil,rfl,Nat.zero_le _,by simp[h.1]⟩
 | 0,acc,t :: l,z,r,h=>by cases h
 | k+1,acc,t :: l,z,r,h=>by
  have h:(item (t :: l)).bind (fun x q=>items k (acc++[x]) q) = .ok z r:=h
  cases h1:item (t :: l) with
  | ok x q =>
   rw[h1] at h
   simp only[Out.bind] at h
   have hs:=nice_item.suf (t :: l)
   rw[h1] at hs
   obtain ⟨c,hc⟩:=hs
   simp only[Out.left] at hc
   rw[← hc] at h1
   obtain ⟨_,h2⟩:=shut_item.cut c q x h1
   obtain ⟨h3,cs,xs,h4,h5,h6,h7⟩:=items_ok k _ _ _ _ h
   refine ⟨h3,c :: cs,x :: xs,.cons h2 h4,by rw[← hc,h5];rfl,by simp;omega,by rw[h7];simp⟩
  | bad e q =>
   rw[h1] at h
   cases h
end Rl
end Go.Proofs.YtglepipfdmphhaaGreatDoor
namespace Go.Proofs.YtglepipfdmphhaaGreatDoor
set_option linter.unusedVariables false
set_option linter.unusedSimpArgs false
namespace Rl
open Lx (Tk)
inductive EL {α:Type} (E:α→List Tk→Prop):List α→List Tk→Prop where
 | nil:EL E [] []
 | cons {a:α} {t:List Tk} {as:List α} {ts:List Tk}:E a t→EL E as ts→EL E (a :: as) (t++ts)
theorem EL.append {α:Type} {E:α→List Tk→Prop} {as bs:List α} {ts us:List Tk} (h:EL E as ts) (h':EL E bs us):EL E (as++bs) (ts++us):=by
 induction h with
 | nil=>exact h'
 | cons h1 _ ih =>
  rw[List.append_assoc]
  exact .cons h1 ih
theorem EL.one {α:Type} {E:α→List Tk→Prop} {a:α} {t:List Tk} (h:E a t):EL E [a] t:=by
 have:=EL.cons h .nil
 rwa [List.append_nil] at this
def Emits {α:Type} (f:List Tk→Out α) (E:α→List Tk→Prop):Prop:=∀ l a r,f l = .ok a r→∃ c ts,l=c++r∧ts.Sublist c∧E a ts
def Et (t:Tst) (ts:List Tk):Prop:=∃ u,ts=[u]∧u.kind=1∧u.text=t.attr∧u.at_=t.at_
def Er (l:List Tst) (ts:List Tk):Prop:=l≠[]∧EL Et l ts
def Ei (x:Itm) (ts:List Tk):Prop:=∃ u q,ts=u :: q∧u.kind=1∧kindc u.text=x.kind∧x.kind≠0∧u.at_=x.at_∧EL Er x.whn q
theorem nxt_ok {k:Nat} {x:Option Bytes} {l:List Tk} {t:Tk} {r:List Tk} (h:nxt k x l = .ok t r):l=t :: r∧is k x l=true:=by
 cases l with
 | nil=>cases h
 | cons u q =>
  rw[nxt_cons] at h
  by_cases hb:is k x (u :: q)=true
  · rw[if_pos hb,Out.ok.injEq] at h
    exact ⟨by rw[h.1,h.2],hb⟩
  rw[if_neg hb] at h
  cases h
theorem bind_ok {α β:Type} {o:Out α} {k:α→List Tk→Out β} {b:β} {r:List Tk} (h:o.bind k = .ok b r):∃ a q,o = .ok a q∧k a q = .ok b r:=by
 cases o with
 | ok a q=>exact ⟨a,q,rfl,h⟩
 | bad e q=>cases h
theorem is_kind {k:Nat} {x:Option Bytes} {t:Tk} {r:List Tk} (h:is k x (t :: r)=true):t.kind=k:=by
 unfold is at h
 rw[Bool.and_eq_true] at h
 exact of_decide_eq_true h.1
theorem is_text {k:Nat} {x:Bytes} {t:Tk} {r:List Tk} (h:is k (some x) (t :: r)=true):t.text=x:=by
 unfold is at h
 rw[Bool.and_eq_true] at h
 exact of_decide_eq_true h.2
theorem Nice.cut {α:Type} {f:List Tk→Out α} (hf:Nice f) {l r:List Tk} {a:α} (h:f l = .ok a r):∃ c,l=c++r:=by
 have:=hf.suf l
 rw[h] at this
 obtain ⟨c,hc⟩:=this
 exact ⟨c,hc.symm⟩
theorem emits_test:Emits test Et:=by
 intro l t r h
 obtain ⟨c,hc⟩:=nice_test.cut h
 refine ⟨c,?_⟩
 obtain ⟨a,q,h1,h2⟩:=bind_ok h
 obtain ⟨h3,h4⟩:=nxt_ok h1
 have hk:=h4
 rw[h3] at hk
 have hkind:=is_kind hk
 have hr:r <:+ q∧t.attr=a.text∧t.at_=a.at_:=by
  by_cases hb:is 3 none q=true∧opc (headText q)≠0
  · rw[if_pos hb] at h2
    obtain ⟨o,q2,h5,h6⟩:=bind_ok h2
    have e5:=(nxt_ok h5).1
    by_cases h7:is 2 none q2=true
    · rw[if_pos h7] at h6
      obtain ⟨n,q3,h8,h9⟩:=bind_ok h6
      have e8:=(nxt_ok h8).1
      rw[Out.ok.injEq] at h9
      rw[← h9.1,← h9.2,e5,e8]
      exact ⟨⟨[o,n],rfl⟩,rfl,rfl⟩
    rw[if_neg h7] at h6
    obtain ⟨n,q3,h8,h9⟩:=bind_ok h6
    have e8:=(nxt_ok h8).1
    by_cases h10:is 3 (some [46]) q3=true
    · rw[if_pos h10] at h9
      obtain ⟨d,q4,h11,h12⟩:=bind_ok h9
      obtain ⟨d2,q5,h13,h14⟩:=bind_ok h12
      have e11:=(nxt_ok h11).1
      have e13:=(nxt_ok h13).1
      rw[Out.ok.injEq] at h14
      rw[← h14.1,← h14.2,e5,e8,e11,e13]
      exact ⟨⟨[o,n,d,d2],rfl⟩,rfl,rfl⟩
    rw[if_neg h10,Out.ok.injEq] at h9
    rw[← h9.1,← h9.2,e5,e8]
    exact ⟨⟨[o,n],rfl⟩,rfl,rfl⟩
  rw[if_neg hb] at h2
  cases h2
 obtain ⟨⟨c',hc'⟩,h5,h6⟩:=hr
 have hcc:c=a :: c':=by
  have:c++r=(a :: c')++r:=by rw[← hc,h3,← hc'];rfl
  exact List.append_cancel_right this
 refine ⟨[a],hc,?_,a,rfl,hkind,h5.symm,h6.symm⟩
 rw[hcc]
 exact (List.nil_sublist c').cons_cons a
theorem emits_sevG {α:Type} {one:List Tk→Out α} {E:α→List Tk→Prop} (hn:Nice one) (h:Emits one E) (x:Bytes):∀ (k:Nat) (acc:List α) (l:List Tk) (z:List α) (r:List Tk),sevG one x k acc l = .ok z r →
 ∃ as c ts,z=acc++as∧l=c++r∧ts.Sublist c∧EL E as ts
 | 0,acc,l,z,r,he=>by
  unfold sevG at he
  by_cases hb:is 1 (some x) l=true
  · rw[if_pos hb] at he
    cases he
  rw[if_neg hb,Out.ok.injEq] at he
  exact ⟨[],[],[],by rw[he.1,List.append_nil],by rw[he.2];rfl,List.Sublist.refl _,.nil⟩
 | k+1,acc,l,z,r,he=>by
  unfold sevG at he
  by_cases hb:is 1 (some x) l=true
  · rw[if_pos hb] at he
    obtain ⟨a,q,h1,h2⟩:=bind_ok he
    obtain ⟨c,ts,h3,h4,h5⟩:=h _ _ _ h1
    obtain ⟨as,c',ts',h6,h7,h8,h9⟩:=emits_sevG hn h x k _ _ _ _ h2
    cases l with
    | nil=>cases hb
    | cons t l =>
     simp only[List.tail_cons] at h3
     refine ⟨a :: as,t :: c++c',ts++ts',by rw[h6];simp,by rw[h3,h7];simp,?_,.cons h5 h9⟩
     exact (h4.cons t).append h8
  rw[if_neg hb,Out.ok.injEq] at he
  exact ⟨[],[],[],by rw[he.1,List.append_nil],by rw[he.2];rfl,List.Sublist.refl _,.nil⟩
theorem emits_sev {α:Type} {one:List Tk→Out α} {E:α→List Tk→Prop} (hn:Nice one) (h:Emits one E) (x:Bytes):Emits (sev one x) (fun as ts=>as≠[]∧EL E as ts):=by
 intro l z r he
 obtain ⟨a,q,h1,h2⟩:=bind_ok he
 obtain ⟨c,ts,h3,h4,h5⟩:=h _ _ _ h1
 obtain ⟨as,c',ts',h6,h7,h8,h9⟩:=emits_sevG hn h x 11 _ _ _ _ h2
 exact ⟨c++c',ts++ts',by rw[h3,h7,List.append_assoc],h4.append h8,by rw[h6];simp,by rw[h6];exact .cons h5 h9⟩
theorem emits_tests:Emits tests Er:=emits_sev nice_test emits_test wAnd
theorem emits_whn:Emits whn (EL Er):=by
 intro l z r he
 unfold whn at he
 by_cases hb:is 1 (some wWhen) l=true
 · rw[if_pos hb] at he
   obtain ⟨c,ts,h3,h4,h5⟩:=emits_sev nice_tests emits_tests wOr _ _ _ he
   cases l with
   | nil=>cases hb
   | cons t l =>
    exact ⟨t :: c,ts,by rw[← show (t :: l).tail=l from rfl] at *;simp only[List.tail_cons] at h3;rw[h3];rfl,h4.cons t,h5.2⟩
 rw[if_neg hb,Out.ok.injEq] at he
 exact ⟨[],[],by rw[he.2];rfl,List.Sublist.refl _,by rw[← he.1];exact .nil⟩
theorem item_ok {l:List Tk} {x:Itm} {r:List Tk} (h:item l = .ok x r):∃ t n b c l2 l3 l4,l=t :: n :: l2∧t.kind=1∧kindc t.text≠0∧n.kind=1∧rest (kindc t.text) l2 = .ok b l3∧whn l3 = .ok c l4∧nxt 3 (some [59]) l4 = .ok (l4.head?.getD t) r ∧
 x=⟨kindc t.text,n.text,c,b.1,b.2.1,b.2.2,t.at_⟩:=by
 unfold item at h
 by_cases hb:is 1 none l=true∧kindc (headText l)≠0
 · rw[if_pos hb] at h
   obtain ⟨t,l1,h1,h2⟩:=bind_ok h
   obtain ⟨n,l2,h3,h4⟩:=bind_ok h2
   obtain ⟨b,l3,h5,h6⟩:=bind_ok h4
   obtain ⟨c,l4,h7,h8⟩:=bind_ok h6
   obtain ⟨u,l5,h9,h10⟩:=bind_ok h8
   obtain ⟨e1,k1⟩:=nxt_ok h1
   obtain ⟨e3,k3⟩:=nxt_ok h3
   obtain ⟨e9,k9⟩:=nxt_ok h9
   rw[Out.ok.injEq] at h10
   rw[e1] at k1 hb
   rw[e3] at k3
   refine ⟨t,n,b,c,l2,l3,l4,by rw[e1,e3],is_kind k1,hb.2,is_kind k3,h5,h7,?_,h10.1.symm⟩
   rw[h9,e9,h10.2]
   rfl
 rw[if_neg hb] at h
 cases h
theorem emits_item:Emits item Ei:=by
 intro l x r h
 obtain ⟨t,n,b,c,l2,l3,l4,rfl,k1,k2,k3,h5,h7,h9,rfl⟩:=item_ok h
 obtain ⟨c1,e1⟩:=(nice_rest _).cut h5
 obtain ⟨c2,ts,e2,h10,h11⟩:=emits_whn _ _ _ h7
 obtain ⟨c3,e3⟩:=(nice_nxt 3 (some [59])).cut h9
 refine ⟨t :: n :: (c1++(c2++c3)),t :: ts,by rw[e1,e2,e3];simp,?_,t,ts,rfl,k1,rfl,k2,rfl,h11⟩
 refine List.Sublist.cons_cons t (List.Sublist.cons n ?_)
 have:=(List.nil_sublist c1).append (h10.append (List.nil_sublist c3))
 simpa using this
theorem emits_segs {cs:List (List Tk)} {xs:List Itm} (h:Segs cs xs):∃ ts,ts.Sublist cs.flatten∧EL Ei xs ts:=by
 induction h with
 | nil=>exact ⟨[],List.Sublist.refl _,.nil⟩
 | cons h1 _ ih =>
  obtain ⟨ts,h2,h3⟩:=ih
  obtain ⟨c,us,h4,h5,h6⟩:=emits_item _ _ _ h1
  rw[List.append_nil] at h4
  subst h4
  exact ⟨us++ts,by rw[List.flatten_cons];exact h5.append h2,.cons h6 h3⟩
end Rl
end Go.Proofs.YtglepipfdmphhaaGreatDoor
