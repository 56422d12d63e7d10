/-
  Printer: rules that were read, as a list that can be read.
-/
import Derived.Test.YtglepipfdmphhaaGreatDoorPrRp
import Derived.Test.YtglepipfdmphhaaGreatDoorPrRl
import Derived.Test.YtglepipfdmphhaaGreatDoorPrFr
import Derived.Test.YtglepipfdmphhaaGreatDoorRlJ
namespace Go.Proofs.YtglepipfdmphhaaGreatDoor
set_option linter.unusedVariables false
set_option linter.unusedSimpArgs false
open Go Go.RowKit
namespace Pr
def cbT (t:Rl.Tst):Tst:=⟨t.attr,t.op,t.name,t.n,t.at_⟩
def cbI (x:Rl.Itm):Itm:=⟨x.kind,x.name,x.whn.map (·.map cbT),x.n,uvP x.r,uvP x.s,x.at_⟩
theorem zI_cb (x:Rl.Itm):zI (cbI x)=uvI x:=by
  have h:(fun y:List Tst=>y.map zT) ∘ (fun y:List Rl.Tst=>y.map cbT)=fun y=>y.map uvT:=by
    funext y
    show (y.map cbT).map zT=_
    rw[List.map_map]
    rfl
  simp only[zI,cbI,uvI,List.map_map]
  rw[h]
theorem rdF_item {B:Nat} {x:Rl.Itm} (h:Rl.FI x) {cs:List Value} {w:World} (hc:Ci B x cs w):RItm w cs (cbI x):=by
  obtain ⟨u,rfl,hu⟩:=hc
  obtain ⟨h1,h2,h3,h4,h5,h6⟩:=h
  refine ⟨u,rfl,i64f h1,i64f h4,i64f h5.1,i64f h5.2,i64f h6.1,i64f h6.2,ListS.rd hu (·.map cbT) (rchf h3.1 (by decide)) (fun y hy cs2 hc2=>?_),rchf h2 (by decide)⟩
  obtain ⟨u2,rfl,hl2⟩:=hc2
  refine ⟨u2,rfl,ListS.rd hl2 cbT (rchf (h3.2 y hy).1 (by decide)) (fun t ht cs4 hc4=>?_)⟩
  have ft:=(h3.2 y hy).2 t ht
  exact ⟨hc4,i64f ft.2.1,i64f ft.2.2.2,rchf ft.1 (by decide),rchf ft.2.2.1 (by decide)⟩
theorem rules_err (l:List Itm):(rules l).2≠0→rules l=([],1)∨rules l=([],3):=by
  unfold rules fin
  intro h1
  split at h1
  · rename_i c;rw[if_pos c];exact .inl rfl
  rename_i c
  rw[if_neg c]
  split at h1
  · rename_i d;rw[if_pos d];exact .inr rfl
  exact absurd rfl h1
end Pr
theorem rdF_rules {w:World} {v:Value} {xs:List Rl.Itm} (h:xs.length≤200∧∀ x ∈ xs,Rl.FI x) {B:Nat} (hl:ListS B 69 9 (Ci B) xs v w):RdS 9 Pr.RItm w v (xs.map Pr.cbI) :=
  ListS.rd hl Pr.cbI (Pr.rchf h.1 (by decide)) (fun x hx cs hc=>Pr.rdF_item (h.2 x hx) hc)
end Go.Proofs.YtglepipfdmphhaaGreatDoor
