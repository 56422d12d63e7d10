/-
  Printer, plain laws: what the parser of rules finds is of a moderate size.
-/
import Derived.Test.YtglepipfdmphhaaGreatDoorPrFn
namespace Go.Proofs.YtglepipfdmphhaaGreatDoor
set_option linter.unusedVariables false
set_option linter.unusedSimpArgs false
open Go Go.RowKit
namespace Rl
open Lx (Tk TkF)
abbrev B9:Nat:=9999999999
def FT (t:Tst):Prop:=t.attr.length≤24∧t.op≤B9∧t.name.length≤49∧t.n≤B9
def FP (p:Nat × Nat):Prop:=p.1≤B9∧p.2≤B9
def FI (x:Itm):Prop:=x.kind≤B9∧x.name.length≤24∧(x.whn.length≤12∧∀ l ∈ x.whn,l.length≤12∧∀ t ∈ l,FT t)∧x.n≤B9∧FP x.r∧FP x.s
theorem opc_le (t:Bytes):opc t≤B9:=by
  unfold opc opsL
  simp only[codeIn]
  (repeat' split) <;> decide
theorem kindc_le (t:Bytes):kindc t≤B9:=by
  unfold kindc kindsL
  simp only[codeIn]
  (repeat' split) <;> decide
theorem fz_t3 {a o b:Tk} (ha:TkF a) (hb:TkF b):Fz 0 (fun l3=>if is 3 (some [46]) l3=true then (nxt 3 none l3).bind fun _ l4=>(nxt 1 none l4).bind fun c l5=>.ok (⟨a.text,opc o.text,b.text++([46]++c.text),0,a.at_⟩:Tst) l5 else .ok ⟨a.text,opc o.text,b.text,0,a.at_⟩ l3) FT :=
  Fz.ite (c:=fun l3=>is 3 (some [46]) l3=true) (p:=fun l3=>(nxt 3 none l3).bind fun _ l4=>(nxt 1 none l4).bind fun c l5=>.ok (⟨a.text,opc o.text,b.text++([46]++c.text),0,a.at_⟩:Tst) l5) (q:=fun l3=>.ok ⟨a.text,opc o.text,b.text,0,a.at_⟩ l3)
    (Fz.weak ((Fz.nxt 3 none).bind fun _ _=>(Fz.nxt 1 none).bind fun c hc=>Fz.pure ⟨ha.1,opc_le _,(by have h1:=hb.1;have h2:=hc.1;simp only[List.length_append,List.length_singleton];omega),(Nat.zero_le _)⟩) (by decide)) (Fz.pure ⟨ha.1,opc_le _,(by have h1:=hb.1;show b.text.length≤49;omega),(Nat.zero_le _)⟩)
theorem fz_t2 {a o:Tk} (ha:TkF a):Fz 0 (fun l2=>if is 2 none l2=true then (nxt 2 none l2).bind fun n l3=>.ok (⟨a.text,opc o.text,[],n.n,a.at_⟩:Tst) l3 else (nxt 1 none l2).bind fun b l3=>if is 3 (some [46]) l3=true then (nxt 3 none l3).bind fun _ l4=>(nxt 1 none l4).bind fun c l5=>.ok (⟨a.text,opc o.text,b.text++([46]++c.text),0,a.at_⟩:Tst) l5 else .ok ⟨a.text,opc o.text,b.text,0,a.at_⟩ l3) FT :=
  Fz.ite (c:=fun l2=>is 2 none l2=true) (p:=fun l2=>(nxt 2 none l2).bind fun n l3=>.ok (⟨a.text,opc o.text,[],n.n,a.at_⟩:Tst) l3) (q:=fun l2=>(nxt 1 none l2).bind fun b l3=>if is 3 (some [46]) l3=true then (nxt 3 none l3).bind fun _ l4=>(nxt 1 none l4).bind fun c l5=>.ok (⟨a.text,opc o.text,b.text++([46]++c.text),0,a.at_⟩:Tst) l5 else .ok ⟨a.text,opc o.text,b.text,0,a.at_⟩ l3)
    (Fz.weak ((Fz.nxt 2 none).bind fun n hn=>Fz.pure ⟨ha.1,opc_le _,Nat.zero_le _,hn.2⟩) (by decide)) (Fz.weak ((Fz.nxt 1 none).bind fun b hb=>fz_t3 ha hb) (by decide))
theorem fz_test:Fz 1 test FT:=fun l hl ht x r e=>by
  refine (Fz.weak ((Fz.nxt 1 none).bind (q:=fun (a:Tk) l1=>if is 3 none l1=true∧opc (headText l1)≠0 then (nxt 3 none l1).bind fun o l2=>if is 2 none l2=true then (nxt 2 none l2).bind fun n l3=>.ok (⟨a.text,opc o.text,[],n.n,a.at_⟩:Tst) l3 else (nxt 1 none l2).bind fun b l3=>if is 3 (some [46]) l3=true then (nxt 3 none l3).bind fun _ l4=>(nxt 1 none l4).bind fun c l5=>.ok (⟨a.text,opc o.text,b.text++([46]++c.text),0,a.at_⟩:Tst) l5 else .ok ⟨a.text,opc o.text,b.text,0,a.at_⟩ l3 else .bad 4 l1) (k:=0) fun a ha=>?_) (Nat.le_refl 1)) l hl ht x r e
  exact Fz.ite (c:=fun l1=>is 3 none l1=true∧opc (headText l1)≠0) (p:=fun l1=>(nxt 3 none l1).bind fun o l2=>if is 2 none l2=true then (nxt 2 none l2).bind fun n l3=>.ok (⟨a.text,opc o.text,[],n.n,a.at_⟩:Tst) l3 else (nxt 1 none l2).bind fun b l3=>if is 3 (some [46]) l3=true then (nxt 3 none l3).bind fun _ l4=>(nxt 1 none l4).bind fun c l5=>.ok (⟨a.text,opc o.text,b.text++([46]++c.text),0,a.at_⟩:Tst) l5 else .ok ⟨a.text,opc o.text,b.text,0,a.at_⟩ l3) (q:=fun l1=>.bad 4 l1) (Fz.weak ((Fz.nxt 3 none).bind fun o _=>fz_t2 ha) (by decide)) (Fz.bad 0)
theorem fz_sevG {α:Type} {one:List Tk→Out α} {R:α→Prop} (h:Fz 1 one R) (x:Bytes):∀ (k:Nat) (acc:List α),(∀ a ∈ acc,R a)→Fz 0 (sevG one x k acc) (fun as=>as.length≤acc.length+k∧∀ a ∈ as,R a)
  | 0,acc,ha=>Fz.ite (c:=fun l=>is 1 (some x) l=true) (p:=fun l=>.bad 3 l.tail) (q:=fun l=>.ok acc l) (fun l _ _ b r e=>by cases e) (Fz.pure ⟨Nat.le_refl _,ha⟩)
  | k+1,acc,ha=>Fz.ite (c:=fun l=>is 1 (some x) l=true) (p:=fun l=>(one l.tail).bind fun a r=>sevG one x k (acc++[a]) r) (q:=fun l=>.ok acc l)
    (Fz.tail (p:=fun l=>(one l).bind fun a r=>sevG one x k (acc++[a]) r) (Fz.weak (h.bind fun a h1=>(fz_sevG h x k (acc++[a]) (fun y hy=>by
      rcases List.mem_append.1 hy with hy|hy
      · exact ha y hy
      rw[List.mem_singleton] at hy;exact hy ▸ h1)).mono (fun as h2=>⟨by have:=h2.1;simp only[List.length_append,List.length_singleton] at this;omega,h2.2⟩)) (Nat.zero_le _))) (Fz.pure ⟨by omega,ha⟩)
theorem fz_sev {α:Type} {one:List Tk→Out α} {R:α→Prop} (h:Fz 1 one R) (x:Bytes):Fz 1 (sev one x) (fun as=>as.length≤12∧∀ a ∈ as,R a) :=
  Fz.bind (k:=0) h fun a h1=>(fz_sevG h x 11 [a] (fun y hy=>by rw[List.mem_singleton] at hy;exact hy ▸ h1)).mono (fun as h2=>⟨h2.1,h2.2⟩)
theorem fz_ratio:Fz 0 ratio FP:=Fz.weak ((Fz.nxt 2 none).bind fun a h1=>(Fz.nxt 3 (some [47])).bind fun _ _=>(Fz.nxt 2 none).bind fun b h2=>Fz.pure ⟨h1.2,h2.2⟩) (by decide)
theorem fz_after (x:Bytes):Fz 0 (after x) FP:=Fz.weak ((Fz.nxt 1 (some x)).bind fun _ _=>fz_ratio) (by decide)
theorem fz_opt (x:Bytes):Fz 0 (opt x) FP:=Fz.ite (c:=fun l=>is 1 (some x) l=true) (p:=fun l=>ratio l.tail) (q:=fun l=>.ok (0,1) l) (Fz.tail fz_ratio) (Fz.pure ⟨by decide,by decide⟩)
def FRs (r:Rest):Prop:=r.1≤B9∧FP r.2.1∧FP r.2.2
theorem fp0:FP (0,0):=⟨by decide,by decide⟩
theorem fz_allow:Fz 0 allow FRs:=Fz.ite (c:=fun l=>is 1 (some wLimit) l=true) (p:=fun l=>(nxt 2 none l.tail).bind fun n r=>.ok (n.n,(0,0),(0,0)) r) (q:=fun l=>.ok (0,(0,0),(0,0)) l)
  (Fz.tail (p:=fun l=>(nxt 2 none l).bind fun n r=>.ok (n.n,(0,0),(0,0)) r) (Fz.weak ((Fz.nxt 2 none).bind fun n h=>Fz.pure ⟨h.2,fp0,fp0⟩) (by decide))) (Fz.pure ⟨by decide,fp0,fp0⟩)
theorem fz_price:Fz 0 price FRs:=Fz.weak ((Fz.nxt 2 none).bind fun n h=>(fz_opt wFee).bind fun r h1=>(fz_opt wTax).bind fun s h2=>Fz.pure ⟨h.2,h1,h2⟩) (by decide)
theorem fz_resale:Fz 0 resale FRs:=(fz_after wCap).bind fun r h1=>(fz_after wShare).bind fun s h2=>Fz.pure ⟨Nat.zero_le _,h1,h2⟩
theorem fz_refund:Fz 0 refund FRs:=fz_ratio.bind fun r h1=>Fz.pure ⟨Nat.zero_le _,h1,fp0⟩
theorem fz_rest (k:Nat):Fz 0 (rest k) FRs:=by
  unfold rest
  by_cases h1:k=1
  · simp only[h1,if_true]
    exact fz_allow
  simp only[h1,if_false]
  by_cases h3:k=3
  · simp only[h3,if_true]
    exact fz_price
  simp only[h3,if_false]
  by_cases h4:k=4
  · simp only[h4,if_true]
    exact fz_resale
  simp only[h4,if_false]
  by_cases h5:k=5
  · simp only[h5,if_true]
    exact fz_refund
  simp only[h5,if_false]
  exact Fz.pure ⟨by decide,fp0,fp0⟩
theorem fz_whn:Fz 0 whn (fun as=>as.length≤12∧∀ l ∈ as,l.length≤12∧∀ t ∈ l,FT t):=Fz.ite (c:=fun l=>is 1 (some wWhen) l=true) (p:=fun l=>sev tests wOr l.tail) (q:=fun l=>.ok [] l)
  (Fz.tail (Fz.weak (fz_sev (fz_sev fz_test wAnd) wOr) (by decide))) (Fz.pure ⟨by decide,fun l h=>by cases h⟩)
theorem fz_item:Fz 0 item FI:=Fz.ite (c:=fun l=>is 1 none l=true∧kindc (headText l)≠0) (p:=fun l=>(nxt 1 none l).bind fun t l1=>(nxt 1 none l1).bind fun n l2=>(rest (kindc t.text) l2).bind fun b l3=>(whn l3).bind fun c l4 =>
   (nxt 3 (some [59]) l4).bind fun _ l5=>.ok (⟨kindc t.text,n.text,c,b.1,b.2.1,b.2.2,t.at_⟩:Itm) l5) (q:=fun l=>.bad 4 l)
  (Fz.weak ((Fz.nxt 1 none).bind fun t ht=>(Fz.nxt 1 none).bind fun n hn=>(fz_rest (kindc t.text)).bind fun b hb=>fz_whn.bind fun c hc=>(Fz.nxt 3 (some [59])).bind fun _ _=>Fz.pure ⟨kindc_le _,hn.1,hc,hb.1,hb.2.1,hb.2.2⟩) (by decide)) (Fz.bad 0)
theorem fz_items:∀ (k:Nat) (acc:List Itm),(∀ a ∈ acc,FI a)→Fz 0 (items k acc) (fun as=>as.length≤acc.length+k∧∀ a ∈ as,FI a)
  | k,acc,ha=>fun l hl ht as r e=>by
    cases l with
    | nil =>
      have e:Out.ok acc []=Out.ok as r:=by cases k <;> exact e
      injection e with e1 e2
      subst e1 e2
      exact ⟨⟨by omega,ha⟩,ht,Nat.le_refl _⟩
    | cons t q =>
      cases k with
      | zero=>cases e
      | succ k =>
        have e:(item (t :: q)).bind (fun x q=>items k (acc++[x]) q) = .ok as r:=e
        cases h:item (t :: q) with
        | bad e1 r1=>rw[h] at e;cases e
        | ok a r1 =>
          rw[h] at e
          obtain ⟨h1,h2,h3⟩:=fz_item _ hl ht a r1 h
          obtain ⟨h4,h5,h6⟩:=fz_items k (acc++[a]) (fun y hy=>by
            rcases List.mem_append.1 hy with hy|hy
            · exact ha y hy
            rw[List.mem_singleton] at hy;exact hy ▸ h1) r1 (by omega) h2 as r e
          exact ⟨⟨by have:=h4.1;simp only[List.length_append,List.length_singleton] at this;omega,h4.2⟩,h5,by omega⟩
theorem fine_parse (s:Bytes):(parse s).1.length≤200∧∀ x ∈ (parse s).1,FI x:=by
  have h0:([]:List Itm).length≤200∧∀ x ∈ ([]:List Itm),FI x:=⟨by decide,fun l h=>by cases h⟩
  unfold parse
  split
  · exact h0
  rename_i h
  cases hh:items 200 [] (Lx.lex s).1 with
  | bad e r=>exact h0
  | ok x r =>
    have e:Lx.lex s=((Lx.lex s).1,0,(Lx.lex s).2.2):=by rw[← show (Lx.lex s).2.1=0 by simpa using h]
    obtain ⟨h1,h2⟩:=Lx.lex_fine e
    have h3:=(fz_items 200 [] (by simp) _ h1 h2 x r hh).1
    exact ⟨by have h4:=h3.1;simp only[List.length_nil,Nat.zero_add] at h4;exact h4,h3.2⟩
end Rl
end Go.Proofs.YtglepipfdmphhaaGreatDoor
