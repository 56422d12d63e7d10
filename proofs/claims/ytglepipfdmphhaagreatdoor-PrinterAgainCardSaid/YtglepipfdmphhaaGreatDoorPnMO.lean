/-
 PnM, PnN, PnO in one text.
-/
import Derived.Test.YtglepipfdmphhaaGreatDoorPnJL
import Derived.Deep.AppendLies
set_option maxRecDepth 100000
set_option maxHeartbeats 40000000
namespace Go.Proofs.YtglepipfdmphhaaGreatDoor
set_option linter.unusedVariables false
set_option linter.unusedSimpArgs false
open Go Go.RowKit Go.Shelf
open Lx (Tk)
theorem step_snoc2 {P:Program} {w:World} {ops:Array Oper} {o:Oper} {a:Act} {K:Act→World→Prop} {Q:Exit→Act→World→Prop} {E:Prop} (hgd:o.guard=none) (s x:Operand) (t:TypeId)
 (ho:o.op = .call { callee:=.builtin .append,args:=#[s,x],argTypes:=#[t,t] })
 (e:TypeId) (i:TypeInfo) (z:Value) (size bytes:Nat) (ht:P.underlying t=some (.slice e)) (hi:P.info? e=some i) (hz:i.zero=some z)
 (hsize:i.size=size) (hby:i.bytes=bytes) (hzs:z.cells.size=size) (hsz:0 < size)
 {α:Type} {C:α→List Value→World→Prop} {B:Nat} {Es:List TypeId} {l:List α} (v:Value) (n:Nat) (hs:a.eval s=v) (HL:ListS B e size C l v w) (hln:l.length=n) (hK:Kp B Es C) (hE:e ∉ Es)
 (el:α) (cs:List Value) (hC:C el cs w) (hlen:cs.length=size) (hone:∀ u ∈ cs,u.oneCell'=true) (g:Nat) (hx:a.eval x = .slice (some ⟨g,0,none⟩) 1 1) (hb:Blk w g cs e)
 (h63:n+1≤maxLen) (hbytes:(n+1)*bytes≤140737488355328) (hbase:B≤w.heap.size)
 (h:∀ g' cap w',ListS B e size C (l++[el]) (.slice (some ⟨g',0,none⟩) (n+1) cap) w'→w.grownBy w' v.ownBlock→(v.ownBlock=some g'∨g'=w.heap.size)→g' < w'.heap.size→K (a.put o.dst (.slice (some ⟨g',0,none⟩) (n+1) cap)) w') :
 if Region.wanted o (yielded ops a.tmps)=true then Oper.wp P o a w K Q else E:=by
 have hwd:Region.wanted o (yielded ops a.tmps)=true:=by simp[Region.wanted,hgd]
 rw[if_pos hwd]
 obtain ⟨css,h1,h2,h3⟩:=HL
 rw[hln] at h3
 refine wp_append_lies w s x t ho B e i z size bytes ht hi hz hsize hby hzs hsz v n css.flatten hs h3 ⟨g,0,none⟩ 1 1 cs hx (by rw[hlen,Nat.one_mul]) (fun j u hj=>by rw[addr_add,Nat.zero_add];exact hb.cell hj) hone (by omega) h63 hbytes hbase _ rfl fun g' cap' w' h4 h5 h6 h7=>?_
 exact h g' cap' w' (ListS.snoc h1 h2 (by rw[hln];exact h3) hK hE hlen hC h5 (by rw[hln];exact h4)) h5 h6 h7
def Car (x:Pn.Ar) (cs:List Value) (w:World):Prop:=cs=[.string ⟨x.name.toArray⟩,.int .i64 (x.box.x:Nat),.int .i64 (x.box.y:Nat),.int .i64 (x.box.x2:Nat),.int .i64 (x.box.y2:Nat),.int .i64 (x.holds:Nat),.int .i64 (x.at_:Nat)]
def Cbx (x:Pn.Bx) (cs:List Value) (w:World):Prop:=cs=[.int .i64 (x.x:Nat),.int .i64 (x.y:Nat),.int .i64 (x.x2:Nat),.int .i64 (x.y2:Nat)]
def Cpt (x:Nat × Nat) (cs:List Value) (w:World):Prop:=cs=[.int .i64 (x.1:Nat),.int .i64 (x.2:Nat)]
theorem kp_ar (B:Nat):Kp B [] Car:=fun own w w' a cs hc ho h=>h
theorem kp_bx (B:Nat):Kp B [] Cbx:=fun own w w' a cs hc ho h=>h
theorem kp_pt (B:Nat):Kp B [] Cpt:=fun own w w' a cs hc ho h=>h
structure LevAt (B D:Nat) (L:Pn.Lv) (u1 u2 u3 u4 u5:Value) (w:World):Prop where
 blk:Blk w D [.string ⟨L.name.toArray⟩,.int .i64 (L.height:Nat),u1,u2,u3,u4,u5,.int .i64 (L.at_:Nat)] 61
 l1:ListS B 51 3 (Cbk B) L.blocks u1 w
 l2:ListS B 56 7 Car L.areas u2 w
 l3:ListS B 54 4 Cbx L.aisles u3 w
 l4:ListS B 54 4 Cbx L.pillars u4 w
 l5:ListS B 23 2 Cpt L.doors u5 w
 ne:∀ k,u3.ownBlock=some k→u4.ownBlock≠some k
 low:D < B
theorem LevAt.keep {B D:Nat} {L:Pn.Lv} {u1 u2 u3 u4 u5:Value} {own:List Nat} {w w':World} (h:LevAt B D L u1 u2 u3 u4 u5 w) (hc:Chg own w w') (hD:D ∉ own) (hB:∀ k ∈ own,k < B):LevAt B D L u1 u2 u3 u4 u5 w' :=
 ⟨hc.blk h.blk hD,h.l1.keep (kp_bk B) hc (TyB.lower hB _),h.l2.keep (kp_ar B) hc (TyB.lower hB _),h.l3.keep (kp_bx B) hc (TyB.lower hB _),h.l4.keep (kp_bx B) hc (TyB.lower hB _),h.l5.keep (kp_pt B) hc (TyB.lower hB _),h.ne,h.low⟩
theorem ListS.grown {α:Type} {w w':World} {B B':Nat} {E E':TypeId} {size size' n:Nat} {C:α→List Value→World→Prop} {Es:List TypeId} {l:List α} {v u:Value} {xs:List Value} (h:ListS B E size C l v w) (hC:Kp B Es C) (hg:w.grownBy w' u.ownBlock) (ho:w.ownsRow B' E' size' u n xs) (hE:E' ∉ Es) (hne:E'≠E∨∀ k,v.ownBlock=some k→u.ownBlock≠some k):ListS B E size C l v w':=by
 have hc:Chg u.ownBlock.toList w w':=⟨hg.os,hg.tape,hg.output,hg.size,fun k hk hn=>hg.block k hk (by
  intro e
  rw[← e] at hn
  simp at hn)⟩
 have hty:∀ k ∈ u.ownBlock.toList,∀ cs e fr,w.heap[k]? = some (.cells cs e fr)→e=E':=fun k hk cs e fr hh=>by
  rcases ho.2 with ⟨rfl,_⟩|⟨g,cap,cur,rfl,_,hgg,_⟩
  · simp[Value.ownBlock] at hk
  simp[Value.ownBlock] at hk
  subst hk
  rw[hgg] at hh
  cases hh
  rfl
 obtain ⟨css,h1,h2,h3⟩:=h
 refine ⟨css,h1,fun i a cs ha hcs=>⟨(h2 i a cs ha hcs).1,hC _ _ _ _ _ hc (fun k hk=>.inr fun ds e fr hh he=>hE (hty k hk ds e fr hh ▸ he)) (h2 i a cs ha hcs).2⟩,h3.1,?_⟩
 rcases h3.2 with h0|⟨g,cap,cur,rfl,hb,hgg,rest⟩
 · exact .inl h0
 refine .inr ⟨g,cap,cur,rfl,hb,(hg.block g (Array.getElem?_eq_some_iff.1 hgg).1 (fun e=>?_)).trans hgg,rest⟩
 rcases hne with hne|hne
 · exact hne (hty g (by rw[← e];simp) _ _ _ hgg).symm
 exact hne g rfl e.symm
theorem LevAt.app1 {B D:Nat} {L:Pn.Lv} {u1 u2 u3 u4 u5 v:Value} {w w':World} (h:LevAt B D L u1 u2 u3 u4 u5 w) (hg:w.grownBy w' u1.ownBlock) (z:Pn.Bl) (hv:ListS B 51 3 (Cbk B) (L.blocks++[z]) v w') :
 LevAt B D { L with blocks:=L.blocks++[z] } v u2 u3 u4 u5 (w'.setCell ⟨D,2,none⟩ v):=by
 obtain ⟨css,c1,c2,ho⟩:=h.l1
 have hb:=grown_blk h.blk hg ho (by decide)
 have hs:Chg [D] w' (w'.setCell ⟨D,2,none⟩ v):=(Chg.refl _ _).setCell _ _ (.inl (by simp))
 have hB:∀ k ∈ [D],k < B:=fun k hk=>by simp at hk;rw[hk];exact h.low
 refine ⟨hb.set 2 v,hv.keep (kp_bk B) hs (TyB.lower hB _),(h.l2.grown (kp_ar B) hg ho (by decide) (.inl (by decide))).keep (kp_ar B) hs (TyB.lower hB _),(h.l3.grown (kp_bx B) hg ho (by decide) (.inl (by decide))).keep (kp_bx B) hs (TyB.lower hB _),(h.l4.grown (kp_bx B) hg ho (by decide) (.inl (by decide))).keep (kp_bx B) hs (TyB.lower hB _),(h.l5.grown (kp_pt B) hg ho (by decide) (.inl (by decide))).keep (kp_pt B) hs (TyB.lower hB _),h.ne,h.low⟩
theorem LevAt.app2 {B D:Nat} {L:Pn.Lv} {u1 u2 u3 u4 u5 v:Value} {w w':World} (h:LevAt B D L u1 u2 u3 u4 u5 w) (hg:w.grownBy w' u2.ownBlock) (z:Pn.Ar) (hv:ListS B 56 7 Car (L.areas++[z]) v w') :
 LevAt B D { L with areas:=L.areas++[z] } u1 v u3 u4 u5 (w'.setCell ⟨D,3,none⟩ v):=by
 obtain ⟨css,c1,c2,ho⟩:=h.l2
 have hb:=grown_blk h.blk hg ho (by decide)
 have hs:Chg [D] w' (w'.setCell ⟨D,3,none⟩ v):=(Chg.refl _ _).setCell _ _ (.inl (by simp))
 have hB:∀ k ∈ [D],k < B:=fun k hk=>by simp at hk;rw[hk];exact h.low
 refine ⟨hb.set 3 v,(h.l1.grown (kp_bk B) hg ho (by decide) (.inl (by decide))).keep (kp_bk B) hs (TyB.lower hB _),hv.keep (kp_ar B) hs (TyB.lower hB _),(h.l3.grown (kp_bx B) hg ho (by decide) (.inl (by decide))).keep (kp_bx B) hs (TyB.lower hB _),(h.l4.grown (kp_bx B) hg ho (by decide) (.inl (by decide))).keep (kp_bx B) hs (TyB.lower hB _),(h.l5.grown (kp_pt B) hg ho (by decide) (.inl (by decide))).keep (kp_pt B) hs (TyB.lower hB _),h.ne,h.low⟩
theorem LevAt.app3 {B D:Nat} {L:Pn.Lv} {u1 u2 u3 u4 u5 v:Value} {w w':World} (h:LevAt B D L u1 u2 u3 u4 u5 w) (hg:w.grownBy w' u3.ownBlock) (z:Pn.Bx) (hv:ListS B 54 4 Cbx (L.aisles++[z]) v w') (hn:∀ k,v.ownBlock=some k→u4.ownBlock≠some k) :
 LevAt B D { L with aisles:=L.aisles++[z] } u1 u2 v u4 u5 (w'.setCell ⟨D,4,none⟩ v):=by
 obtain ⟨css,c1,c2,ho⟩:=h.l3
 have hb:=grown_blk h.blk hg ho (by decide)
 have hs:Chg [D] w' (w'.setCell ⟨D,4,none⟩ v):=(Chg.refl _ _).setCell _ _ (.inl (by simp))
 have hB:∀ k ∈ [D],k < B:=fun k hk=>by simp at hk;rw[hk];exact h.low
 refine ⟨hb.set 4 v,(h.l1.grown (kp_bk B) hg ho (by decide) (.inl (by decide))).keep (kp_bk B) hs (TyB.lower hB _),(h.l2.grown (kp_ar B) hg ho (by decide) (.inl (by decide))).keep (kp_ar B) hs (TyB.lower hB _),hv.keep (kp_bx B) hs (TyB.lower hB _),(h.l4.grown (kp_bx B) hg ho (by decide) (.inr (fun k hk e=>h.ne k e hk))).keep (kp_bx B) hs (TyB.lower hB _),(h.l5.grown (kp_pt B) hg ho (by decide) (.inl (by decide))).keep (kp_pt B) hs (TyB.lower hB _),hn,h.low⟩
theorem LevAt.app4 {B D:Nat} {L:Pn.Lv} {u1 u2 u3 u4 u5 v:Value} {w w':World} (h:LevAt B D L u1 u2 u3 u4 u5 w) (hg:w.grownBy w' u4.ownBlock) (z:Pn.Bx) (hv:ListS B 54 4 Cbx (L.pillars++[z]) v w') (hn:∀ k,u3.ownBlock=some k→v.ownBlock≠some k) :
 LevAt B D { L with pillars:=L.pillars++[z] } u1 u2 u3 v u5 (w'.setCell ⟨D,5,none⟩ v):=by
 obtain ⟨css,c1,c2,ho⟩:=h.l4
 have hb:=grown_blk h.blk hg ho (by decide)
 have hs:Chg [D] w' (w'.setCell ⟨D,5,none⟩ v):=(Chg.refl _ _).setCell _ _ (.inl (by simp))
 have hB:∀ k ∈ [D],k < B:=fun k hk=>by simp at hk;rw[hk];exact h.low
 refine ⟨hb.set 5 v,(h.l1.grown (kp_bk B) hg ho (by decide) (.inl (by decide))).keep (kp_bk B) hs (TyB.lower hB _),(h.l2.grown (kp_ar B) hg ho (by decide) (.inl (by decide))).keep (kp_ar B) hs (TyB.lower hB _),(h.l3.grown (kp_bx B) hg ho (by decide) (.inr (fun k hk=>h.ne k hk))).keep (kp_bx B) hs (TyB.lower hB _),hv.keep (kp_bx B) hs (TyB.lower hB _),(h.l5.grown (kp_pt B) hg ho (by decide) (.inl (by decide))).keep (kp_pt B) hs (TyB.lower hB _),hn,h.low⟩
theorem LevAt.app5 {B D:Nat} {L:Pn.Lv} {u1 u2 u3 u4 u5 v:Value} {w w':World} (h:LevAt B D L u1 u2 u3 u4 u5 w) (hg:w.grownBy w' u5.ownBlock) (z:Nat × Nat) (hv:ListS B 23 2 Cpt (L.doors++[z]) v w') :
 LevAt B D { L with doors:=L.doors++[z] } u1 u2 u3 u4 v (w'.setCell ⟨D,6,none⟩ v):=by
 obtain ⟨css,c1,c2,ho⟩:=h.l5
 have hb:=grown_blk h.blk hg ho (by decide)
 have hs:Chg [D] w' (w'.setCell ⟨D,6,none⟩ v):=(Chg.refl _ _).setCell _ _ (.inl (by simp))
 have hB:∀ k ∈ [D],k < B:=fun k hk=>by simp at hk;rw[hk];exact h.low
 refine ⟨hb.set 6 v,(h.l1.grown (kp_bk B) hg ho (by decide) (.inl (by decide))).keep (kp_bk B) hs (TyB.lower hB _),(h.l2.grown (kp_ar B) hg ho (by decide) (.inl (by decide))).keep (kp_ar B) hs (TyB.lower hB _),(h.l3.grown (kp_bx B) hg ho (by decide) (.inl (by decide))).keep (kp_bx B) hs (TyB.lower hB _),(h.l4.grown (kp_bx B) hg ho (by decide) (.inl (by decide))).keep (kp_bx B) hs (TyB.lower hB _),hv.keep (kp_pt B) hs (TyB.lower hB _),h.ne,h.low⟩
end Go.Proofs.YtglepipfdmphhaaGreatDoor
namespace Go.Proofs.YtglepipfdmphhaaGreatDoor
set_option linter.unusedVariables false
set_option linter.unusedSimpArgs false
open Go Go.RowKit Go.Shelf
open Lx (Tk)
def CHF (B b D:Nat) (w w':World):Prop:=∀ Wb:World,Wb.heap.size≤B→Chg [b,D] Wb w→Chg [b,D] Wb w'
theorem chf_b {B b D:Nat} {w w':World} (h:Chg [b] w w'):CHF B b D w w':=fun Wb _ hc=>hc.trans h (fun k hk=>.inl (by simp at hk;simp[hk]))
theorem CHF.then {B b D:Nat} {w w1 w':World} (h:CHF B b D w w1) (h2:Chg [b] w1 w'):CHF B b D w w':=fun Wb hs hc=>(h Wb hs hc).trans h2 (fun k hk=>.inl (by simp at hk;simp[hk]))
theorem info_it1:(Tryz.prog.info? 51).map (fun i=>(i.zero,i.size,i.bytes))=some (some (.agg #[.string ⟨#[]⟩,.slice none 0 0,.int .i64 0]),3,48):=by kernel_rfl
theorem info_it2:(Tryz.prog.info? 56).map (fun i=>(i.zero,i.size,i.bytes))=some (some (.agg #[.string ⟨#[]⟩,.int .i64 0,.int .i64 0,.int .i64 0,.int .i64 0,.int .i64 0,.int .i64 0]),7,64):=by kernel_rfl
theorem info_it3:(Tryz.prog.info? 54).map (fun i=>(i.zero,i.size,i.bytes))=some (some (.agg #[.int .i64 0,.int .i64 0,.int .i64 0,.int .i64 0]),4,32):=by kernel_rfl
theorem info_it4:(Tryz.prog.info? 54).map (fun i=>(i.zero,i.size,i.bytes))=some (some (.agg #[.int .i64 0,.int .i64 0,.int .i64 0,.int .i64 0]),4,32):=by kernel_rfl
theorem info_it5:(Tryz.prog.info? 23).map (fun i=>(i.zero,i.size,i.bytes))=some (some (.agg #[.int .i64 0,.int .i64 0]),2,16):=by kernel_rfl
theorem mPnMO3 {G:Prop} (h:G:=by
  refine rd1 9 (fun K hK=>?_)
  have HLa:Hid (LevAt B D L (.slice ao L.blocks.length cap) u2 u3 u4 u5 (wx.alloc (.cells #[.string ⟨x.name.toArray⟩,.slice uo x.rows.length uc,.int .i64 (x.at_:Nat)] 51))):=hd (HLVx.out.keep (own:=[]) ((Chg.refl _ _).alloc _) (by simp) (by simp))
  have hba:B≤(wx.alloc (.cells #[.string ⟨x.name.toArray⟩,.slice uo x.rows.length uc,.int .i64 (x.at_:Nat)] 51)).heap.size:=by have h1:=HN.out;have h2:=(C1.out.alloc (.cells #[.string ⟨x.name.toArray⟩,.slice uo x.rows.length uc,.int .i64 (x.at_:Nat)] 51)).size;omega
  refine step_snoc2 rfl (.tmp 8) (.tmp 12) 52 rfl 51 ii (.agg #[.string ⟨#[]⟩,.slice none 0 0,.int .i64 0]) 3 48 Tryz.underlying52 hii iz0 iz1 iz2 rfl (by decide) (C:=(Cbk B)) (Es:=[48,45]) (.slice ao L.blocks.length cap) L.blocks.length rfl HLa.out.l1 rfl (kp_bk B) (by decide) x [.string ⟨x.name.toArray⟩,.slice uo x.rows.length uc,.int .i64 (x.at_:Nat)] ⟨_,rfl,HUx.out.keep (kp_rw _) ((Chg.refl [] _).alloc _) (TyB.nil _ _ _)⟩ rfl (by intro u hu;simp at hu;rcases hu with rfl|rfl|rfl <;> rfl) wx.heap.size rfl (Blk.new wx [.string ⟨x.name.toArray⟩,.slice uo x.rows.length uc,.int .i64 (x.at_:Nat)] 51) (by unfold maxLen;omega) (by omega) hba ?kk
  case kk =>
   intro g8 cap8 v8 hl8 hg8 ho8 hlt8
   have HL8:=hd hl8
   have HG8:=hd hg8
   have HOW8:=hd ho8
   clear hl8 hg8 ho8 hlt8 hba
   obtain ⟨css,hc1,hc2,hrow⟩:=HLa.out.l1
   have HRW:=hd hrow
   clear hc1 hc2 hrow
   have HCG:Hid (Chg (Value.ownBlock (.slice ao L.blocks.length cap)).toList (wx.alloc (.cells #[.string ⟨x.name.toArray⟩,.slice uo x.rows.length uc,.int .i64 (x.at_:Nat)] 51)) v8):=hd ((Chg.refl _ _).grown HG8.out (fun k hk=>.inl (by simp[hk])))
   have HGE:Hid (∀ k ∈ (Value.ownBlock (.slice ao L.blocks.length cap)).toList,B≤k):=hd (fun k hk=>own_geP HRW.out k (by simpa using hk))
   have HP8:Hid (Pp v8 b r5 en):=hd ((HPx.out.quiet ((Chg.refl [] _).alloc _)).keep HCG.out (fun k hk=>by have h1:=HGE.out k hk;have h2:=HbB.out;omega))
   have HD8:Hid (Blk v8 D [.string ⟨L.name.toArray⟩,.int .i64 (L.height:Nat),(.slice ao L.blocks.length cap),u2,u3,u4,u5,.int .i64 (L.at_:Nat)] 61):=hd (grown_blk HLa.out.blk HG8.out HRW.out (by decide))
   have HBL8:Hid (Blk v8 BL [.pointer (some ⟨D,0,none⟩)] 134):=hd (grown_blk (hHeld.1) HG8.out HRW.out (by decide))
   have HBP8:Hid (Blk v8 BP [.pointer (some ⟨b,0,none⟩)] 88):=hd (grown_blk (hHeld.2) HG8.out HRW.out (by decide))
   obtain ⟨v9,hv9⟩:∃ W,W=v8.setCell ⟨D,2,none⟩ (.slice (some ⟨g8,0,none⟩) (L.blocks.length+1) cap8):=⟨_,rfl⟩
   have HLV9:Hid (LevAt B D { L with blocks:=L.blocks++[x] } (.slice (some ⟨g8,0,none⟩) (L.blocks.length+1) cap8) u2 u3 u4 u5 v9):=hd (by rw[hv9];exact HLa.out.app1 HG8.out x HL8.out)
   have HP9:Hid (Pp v9 b r5 en):=hd (by rw[hv9];exact HP8.out.keep (own:=[D]) ((Chg.refl _ _).setCell _ _ (.inl (by simp))) (fun k hk=>by simp at hk;rw[hk];exact HN.out.1))
   have HBL9:=hd (HBL8.out.o1 hv9 NBL_D)
   have HBP9:=hd (HBP8.out.o1 hv9 NBP_D)
   have HCF9:Hid (CHF B b D w v9):=hd (fun Wb hWb hc=>by rw[hv9];exact (((hc.trans (C1.out.alloc (.cells #[.string ⟨x.name.toArray⟩,.slice uo x.rows.length uc,.int .i64 (x.at_:Nat)] 51)) (fun k hk=>.inl (by simp at hk;simp[hk]))).trans HCG.out (fun k hk=>.inr (Nat.le_trans hWb (HGE.out k hk)))).setCell _ _ (.inl (by simp))))
   refine kq hK (⟨HBL8.out,HBP8.out⟩) (fun hHeld=>?_)
   refine tq 10 ?_
   refine tq 11 ?_
   refine rd1 12 (fun K hK=>?_)
   have d0:=HD8.out.cell (i:=2) rfl
   have d1:=HD8.out.free 2
   go_simp
   rw[← hv9]
   refine kq hK (⟨HBL9.out,HBP9.out⟩) (fun hHeld=>?_)
   clear d0 d1 hv9
   refine dq ?_
   clear hHeld
   go_wp2_with fail
   refine bodyPost_end (results_none rfl _ _ _) rfl ?_
   first|exact .inl ⟨_,_,_,rfl,HMx.out,HP9.out,HLV9.out,HCF9.out⟩|exact .inl ⟨rfl,_,_,_,HMx.out,HP9.out,HLV9.out,HCF9.out⟩|exact .inl ⟨_,_,rfl,HMx.out,HP9.out,_,HLV9.out,HCF9.out⟩|exact .inl ⟨rfl,_,_,HMx.out,HP9.out,⟨_,HLV9.out⟩,HCF9.out⟩|(trace_state;fail)):G:=h
theorem it1_spec (w:World) (b en BL BP D B:Nat) (l:List Tk) (L:Pn.Lv) (u1 u2 u3 u4 u5:Value) (HP:Hid (Pp w b l en)) (HLV:Hid (LevAt B D L u1 u2 u3 u4 u5 w)) (HBL:Hid (Blk w BL [.pointer (some ⟨D,0,none⟩)] 134)) (HBP:Hid (Blk w BP [.pointer (some ⟨b,0,none⟩)] 88))
 (HN:Hid (b < D∧D < BP∧BP < BL∧BL < B∧B≤w.heap.size)) (HS:Hid (L.blocks.length≤1000000)) (at_:Nat) :
 Calls Tryz.prog 72 #[.int .i64 (at_:Nat),.pointer (some ⟨BL,0,none⟩),.pointer (some ⟨BP,0,none⟩)] w fun e w' =>
  (∃ x r v,e = .returned (.tuple #[])∧Pn.block at_ l = .ok x r∧Pp w' b r en∧LevAt B D { L with blocks:=L.blocks++[x] } v u2 u3 u4 u5 w'∧CHF B b D w w')∨(∃ c r,e = .panicked [{ v:=flt c r en,recovered:=false }]∧Pn.block at_ l = .bad c r∧CHF B b D w w'):=by
 obtain ⟨ii,hii,iz0,iz1,iz2⟩:=info_parts info_it1
 obtain ⟨ao,cap,hu⟩:=HLV.out.l1.form
 subst hu
 have NBL_b:BL≠b:=by have:=HN.out;omega
 have NBP_b:BP≠b:=by have:=HN.out;omega
 have NBL_D:BL≠D:=by have:=HN.out;omega
 have NBP_D:BP≠D:=by have:=HN.out;omega
 have HDb:Hid (D≠b):=hd (by have:=HN.out;omega)
 have HbB:Hid (b < B):=hd (by have:=HN.out;omega)
 have hsl:=HS.out
 go_enter Tryz.func72,Tryz.ntmps72
 go_upto_region 0 with fail
 have HLV0:Hid (LevAt B D L (.slice ao L.blocks.length cap) u2 u3 u4 u5 w):=hd (HLV.out.keep (own:=[b]) (Chg.refl [b] w) (by simp;exact HDb.out) (fun k hk=>by simp at hk;rw[hk];exact HbB.out))
 refine wp_region_held_drew (S:=fun W'=>Blk W' BL [.pointer (some ⟨D,0,none⟩)] 134∧Blk W' BP [.pointer (some ⟨b,0,none⟩)] 88) (by kernel_rfl) ⟨HBL.out.drew,HBP.out.drew⟩ (fun hHeld=>?_)
 refine tq1 0 (fun w9 hSw=>hSw.1.cell (i:=0) rfl) ?_
 refine tq1 1 (fun w9 hSw=>hSw.1.cell (i:=0) rfl) ?_
 refine tq 2 ?_
 refine tq 3 ?_
 refine tq1 5 (fun w9 hSw=>hSw.2.cell (i:=0) rfl) ?_
 refine tq 6 ?_
 refine rd2 4 7 (fun K hK=>?_) (fun K hK=>?_)
 · skip
   have x0:=(HLV0.out.blk.drew).cell (i:=2) rfl
   go_simp
   refine kq hK (hHeld) (fun hHeld=>?_)
   clear x0
   refine rd1 7 (fun K hK=>?_)
   go_simp
   refine block_two (hd (Pp.quiet HP.out (Chg.refl _ _).drew)) at_ B HN.out.2.2.2.2 (fun x uo uc r5 wx HMx HPx HCd HUx=>?_) (fun c r w9 HMb HCd=>?_)
   · have HCx:Hid (Chg [b] w wx):=hd (Chg.ofDrew HCd.out)
     have HBL_1:=hd (HCx.out.blk HBL.out (by simp[NBL_b]))
     have HBP_1:=hd (HCx.out.blk HBP.out (by simp[NBP_b]))
     have C1:=hd ((Chg.refl [b] w).trans HCx.out (al1 (.inl (by simp))))
     have HLVx:Hid (LevAt B D L (.slice ao L.blocks.length cap) u2 u3 u4 u5 wx):=hd (HLV0.out.keep HCx.out (by simp;exact HDb.out) (fun k hk=>by simp at hk;rw[hk];exact HbB.out))
     refine kq hK (⟨HBL_1.out,HBP_1.out⟩) (fun hHeld=>?_)
     refine rd1 8 (fun K hK=>?_)
     go_simp
     refine kq hK (⟨hHeld.1.alloc _,hHeld.2.alloc _⟩) (fun hHeld=>?_)
     exact mPnMO3
   have HCb:Hid (Chg [b] w w9):=hd (Chg.ofDrew HCd.out)
   exact ⟨rfl,.inr ⟨c,r,rfl,HMb.out,chf_b ((Chg.refl [b] w).trans HCb.out (al1 (.inl (by simp))))⟩⟩
 go_simp
 refine block_two (hd (Pp.quiet HP.out (Chg.refl _ _).drew)) at_ B HN.out.2.2.2.2 (fun x uo uc r5 wx HMx HPx HCd HUx=>?_) (fun c r w9 HMb HCd=>?_)
 · have HCx:Hid (Chg [b] w wx):=hd (Chg.ofDrew HCd.out)
   have HBL_1:=hd (HCx.out.blk HBL.out (by simp[NBL_b]))
   have HBP_1:=hd (HCx.out.blk HBP.out (by simp[NBP_b]))
   have C1:=hd ((Chg.refl [b] w).trans HCx.out (al1 (.inl (by simp))))
   have HLVx:Hid (LevAt B D L (.slice ao L.blocks.length cap) u2 u3 u4 u5 wx):=hd (HLV0.out.keep HCx.out (by simp;exact HDb.out) (fun k hk=>by simp at hk;rw[hk];exact HbB.out))
   refine kq hK (⟨HBL_1.out,HBP_1.out⟩) (fun hHeld=>?_)
   refine rd2 4 8 (fun K hK=>?_) (fun K hK=>?_)
   · skip
     have x0:=HLVx.out.blk.cell (i:=2) rfl
     go_simp
     refine kq hK (hHeld) (fun hHeld=>?_)
     clear x0
     refine rd1 8 (fun K hK=>?_)
     go_simp
     refine kq hK (⟨hHeld.1.alloc _,hHeld.2.alloc _⟩) (fun hHeld=>?_)
     exact mPnMO3
   go_simp
   refine kq hK (⟨hHeld.1.alloc _,hHeld.2.alloc _⟩) (fun hHeld=>?_)
   refine rd1 4 (fun K hK=>?_)
   have x0:=(HLVx.out.blk.alloc (.cells #[.string ⟨x.name.toArray⟩,.slice uo x.rows.length uc,.int .i64 (x.at_:Nat)] 51)).cell (i:=2) rfl
   go_simp
   refine kq hK (hHeld) (fun hHeld=>?_)
   clear x0
   exact mPnMO3
 have HCb:Hid (Chg [b] w w9):=hd (Chg.ofDrew HCd.out)
 exact ⟨rfl,.inr ⟨c,r,rfl,HMb.out,chf_b ((Chg.refl [b] w).trans HCb.out (al1 (.inl (by simp))))⟩⟩
theorem mPnMO7 {G:Prop} (h:G:=by
  have HLV6:=hd (HLV9.out.keep HC6.out (by simp;exact HDb.out) (fun k hk=>by simp at hk;rw[hk];exact HbB.out))
  have HCF6:=hd (HCF9.out.then HC6.out)
  go_wp2_with fail
  refine bodyPost_end (results_none rfl _ _ _) rfl ?_
  first|exact .inl ⟨_,_,_,rfl,HO2.out,HP6.out,HLV6.out,HCF6.out⟩|exact .inl ⟨rfl,_,_,_,HO2.out,HP6.out,HLV6.out,HCF6.out⟩|exact .inl ⟨rfl,_,_,HO2.out,HP6.out,⟨_,HLV6.out⟩,HCF6.out⟩):G:=h
theorem mPnMO2 {G:Prop} (h:G:=by
  refine rd1 8 (fun K hK=>?_)
  have HLa:Hid (LevAt B D L u1 u2 (.slice ao L.aisles.length cap) u4 u5 (wx.alloc (.cells #[.int .i64 (x.x:Nat),.int .i64 (x.y:Nat),.int .i64 (x.x2:Nat),.int .i64 (x.y2:Nat)] 54))):=hd (HLVx.out.keep (own:=[]) ((Chg.refl _ _).alloc _) (by simp) (by simp))
  have hba:B≤(wx.alloc (.cells #[.int .i64 (x.x:Nat),.int .i64 (x.y:Nat),.int .i64 (x.x2:Nat),.int .i64 (x.y2:Nat)] 54)).heap.size:=by have h1:=HN.out;have h2:=(C1.out.alloc (.cells #[.int .i64 (x.x:Nat),.int .i64 (x.y:Nat),.int .i64 (x.x2:Nat),.int .i64 (x.y2:Nat)] 54)).size;omega
  refine step_snoc2 rfl (.tmp 8) (.tmp 11) 58 rfl 54 ii (.agg #[.int .i64 0,.int .i64 0,.int .i64 0,.int .i64 0]) 4 32 Tryz.underlying58 hii iz0 iz1 iz2 rfl (by decide) (C:=Cbx) (Es:=[]) (.slice ao L.aisles.length cap) L.aisles.length rfl HLa.out.l3 rfl (kp_bx B) (by decide) x [.int .i64 (x.x:Nat),.int .i64 (x.y:Nat),.int .i64 (x.x2:Nat),.int .i64 (x.y2:Nat)] rfl rfl (by intro u hu;simp at hu;rcases hu with rfl|rfl|rfl|rfl <;> rfl) wx.heap.size rfl (Blk.new wx [.int .i64 (x.x:Nat),.int .i64 (x.y:Nat),.int .i64 (x.x2:Nat),.int .i64 (x.y2:Nat)] 54) (by unfold maxLen;omega) (by omega) hba ?kk
  case kk =>
   intro g8 cap8 v8 hl8 hg8 ho8 hlt8
   have HL8:=hd hl8
   have HG8:=hd hg8
   have HOW8:=hd ho8
   clear hl8 hg8 ho8 hlt8 hba
   obtain ⟨css,hc1,hc2,hrow⟩:=HLa.out.l3
   have HRW:=hd hrow
   clear hc1 hc2 hrow
   have HCG:Hid (Chg (Value.ownBlock (.slice ao L.aisles.length cap)).toList (wx.alloc (.cells #[.int .i64 (x.x:Nat),.int .i64 (x.y:Nat),.int .i64 (x.x2:Nat),.int .i64 (x.y2:Nat)] 54)) v8):=hd ((Chg.refl _ _).grown HG8.out (fun k hk=>.inl (by simp[hk])))
   have HGE:Hid (∀ k ∈ (Value.ownBlock (.slice ao L.aisles.length cap)).toList,B≤k):=hd (fun k hk=>own_geP HRW.out k (by simpa using hk))
   have HP8:Hid (Pp v8 b r5 en):=hd ((HPx.out.quiet ((Chg.refl [] _).alloc _)).keep HCG.out (fun k hk=>by have h1:=HGE.out k hk;have h2:=HbB.out;omega))
   have HD8:Hid (Blk v8 D [.string ⟨L.name.toArray⟩,.int .i64 (L.height:Nat),u1,u2,(.slice ao L.aisles.length cap),u4,u5,.int .i64 (L.at_:Nat)] 61):=hd (grown_blk HLa.out.blk HG8.out HRW.out (by decide))
   have HBL8:Hid (Blk v8 BL [.pointer (some ⟨D,0,none⟩)] 134):=hd (grown_blk (hHeld.1) HG8.out HRW.out (by decide))
   have HBP8:Hid (Blk v8 BP [.pointer (some ⟨b,0,none⟩)] 88):=hd (grown_blk (hHeld.2) HG8.out HRW.out (by decide))
   obtain ⟨v9,hv9⟩:∃ W,W=v8.setCell ⟨D,4,none⟩ (.slice (some ⟨g8,0,none⟩) (L.aisles.length+1) cap8):=⟨_,rfl⟩
   have HLV9:Hid (LevAt B D { L with aisles:=L.aisles++[x] } u1 u2 (.slice (some ⟨g8,0,none⟩) (L.aisles.length+1) cap8) u4 u5 v9):=hd (by rw[hv9];exact HLa.out.app3 HG8.out x HL8.out (fun k hk e=>by simp only[Value.ownBlock,Option.some.injEq] at hk;rw[← hk] at e;rcases HOW8.out with h1|h1;exact HLa.out.ne g8 h1 e;(have h2:=HLa.out.l4.below g8 e;omega)))
   have HP9:Hid (Pp v9 b r5 en):=hd (by rw[hv9];exact HP8.out.keep (own:=[D]) ((Chg.refl _ _).setCell _ _ (.inl (by simp))) (fun k hk=>by simp at hk;rw[hk];exact HN.out.1))
   have HBL9:=hd (HBL8.out.o1 hv9 NBL_D)
   have HBP9:=hd (HBP8.out.o1 hv9 NBP_D)
   have HCF9:Hid (CHF B b D w v9):=hd (fun Wb hWb hc=>by rw[hv9];exact (((hc.trans (C1.out.alloc (.cells #[.int .i64 (x.x:Nat),.int .i64 (x.y:Nat),.int .i64 (x.x2:Nat),.int .i64 (x.y2:Nat)] 54)) (fun k hk=>.inl (by simp at hk;simp[hk]))).trans HCG.out (fun k hk=>.inr (Nat.le_trans hWb (HGE.out k hk)))).setCell _ _ (.inl (by simp))))
   refine kq hK (⟨HBL8.out,HBP8.out⟩) (fun hHeld=>?_)
   refine tq 9 ?_
   refine tq 10 ?_
   refine rd1 11 (fun K hK=>?_)
   have d0:=HD8.out.cell (i:=4) rfl
   have d1:=HD8.out.free 4
   go_simp
   rw[← hv9]
   refine kq hK (⟨HBL9.out,HBP9.out⟩) (fun hHeld=>?_)
   clear d0 d1 hv9
   refine dq ?_
   clear hHeld
   have HO1:=hd (good5 (show Pn.boxS l=(Pn.box l).bind _ from rfl) HMx.out)
   have cBP_0:=HBP9.out.cell (i:=0) rfl
   go_wp2_with fail
   clear cBP_0
   refine must_two (hd HP9.out) [59] (fun r6 w6 HM6 HP6 HC6=>?_) (fun c r w9 HMb HCb=>?_)
   · have HO2:=hd (good5 HO1.out HM6.out)
     exact mPnMO7
   go_wp2_with fail
   exact ⟨rfl,.inr ⟨c,r,rfl,bad5 HO1.out HMb.out,HCF9.out.then HCb.out⟩⟩):G:=h
theorem it3_spec (w:World) (b en BL BP D B:Nat) (l:List Tk) (L:Pn.Lv) (u1 u2 u3 u4 u5:Value) (HP:Hid (Pp w b l en)) (HLV:Hid (LevAt B D L u1 u2 u3 u4 u5 w)) (HBL:Hid (Blk w BL [.pointer (some ⟨D,0,none⟩)] 134)) (HBP:Hid (Blk w BP [.pointer (some ⟨b,0,none⟩)] 88))
 (HN:Hid (b < D∧D < BP∧BP < BL∧BL < B∧B≤w.heap.size)) (HS:Hid (L.aisles.length≤1000000)) (at_:Nat) :
 Calls Tryz.prog 76 #[.int .i64 (at_:Nat),.pointer (some ⟨BL,0,none⟩),.pointer (some ⟨BP,0,none⟩)] w fun e w' =>
  (∃ x r v,e = .returned (.tuple #[])∧Pn.boxS l = .ok x r∧Pp w' b r en∧LevAt B D { L with aisles:=L.aisles++[x] } u1 u2 v u4 u5 w'∧CHF B b D w w')∨(∃ c r,e = .panicked [{ v:=flt c r en,recovered:=false }]∧Pn.boxS l = .bad c r∧CHF B b D w w'):=by
 obtain ⟨ii,hii,iz0,iz1,iz2⟩:=info_parts info_it3
 obtain ⟨ao,cap,hu⟩:=HLV.out.l3.form
 subst hu
 have NBL_b:BL≠b:=by have:=HN.out;omega
 have NBP_b:BP≠b:=by have:=HN.out;omega
 have NBL_D:BL≠D:=by have:=HN.out;omega
 have NBP_D:BP≠D:=by have:=HN.out;omega
 have HDb:Hid (D≠b):=hd (by have:=HN.out;omega)
 have HbB:Hid (b < B):=hd (by have:=HN.out;omega)
 have hsl:=HS.out
 go_enter Tryz.func76,Tryz.ntmps76
 go_upto_region 0 with fail
 have HLV0:Hid (LevAt B D L u1 u2 (.slice ao L.aisles.length cap) u4 u5 w):=hd (HLV.out.keep (own:=[b]) (Chg.refl [b] w) (by simp;exact HDb.out) (fun k hk=>by simp at hk;rw[hk];exact HbB.out))
 refine wp_region_held_drew (S:=fun W'=>Blk W' BL [.pointer (some ⟨D,0,none⟩)] 134∧Blk W' BP [.pointer (some ⟨b,0,none⟩)] 88) (by kernel_rfl) ⟨HBL.out.drew,HBP.out.drew⟩ (fun hHeld=>?_)
 refine tq1 0 (fun w9 hSw=>hSw.1.cell (i:=0) rfl) ?_
 refine tq1 1 (fun w9 hSw=>hSw.1.cell (i:=0) rfl) ?_
 refine tq 2 ?_
 refine tq 3 ?_
 refine tq1 5 (fun w9 hSw=>hSw.2.cell (i:=0) rfl) ?_
 refine rd2 4 6 (fun K hK=>?_) (fun K hK=>?_)
 · skip
   have x0:=(HLV0.out.blk.drew).cell (i:=4) rfl
   go_simp
   refine kq hK (hHeld) (fun hHeld=>?_)
   clear x0
   refine rd1 6 (fun K hK=>?_)
   go_simp
   refine box_two (hd (Pp.quiet HP.out (Chg.refl _ _).drew)) (fun x r5 wx HMx HPx HCd=>?_) (fun c r w9 HMb HCd=>?_)
   · have HCx:Hid (Chg [b] w wx):=hd (Chg.ofDrew HCd.out)
     have HBL_1:=hd (HCx.out.blk HBL.out (by simp[NBL_b]))
     have HBP_1:=hd (HCx.out.blk HBP.out (by simp[NBP_b]))
     have C1:=hd ((Chg.refl [b] w).trans HCx.out (al1 (.inl (by simp))))
     have HLVx:Hid (LevAt B D L u1 u2 (.slice ao L.aisles.length cap) u4 u5 wx):=hd (HLV0.out.keep HCx.out (by simp;exact HDb.out) (fun k hk=>by simp at hk;rw[hk];exact HbB.out))
     refine kq hK (⟨HBL_1.out,HBP_1.out⟩) (fun hHeld=>?_)
     refine rd1 7 (fun K hK=>?_)
     go_simp
     refine kq hK (⟨hHeld.1.alloc _,hHeld.2.alloc _⟩) (fun hHeld=>?_)
     exact mPnMO2
   have HCb:Hid (Chg [b] w w9):=hd (Chg.ofDrew HCd.out)
   exact ⟨rfl,.inr ⟨c,r,rfl,bad5 (show Pn.boxS l=(Pn.box l).bind _ from rfl) HMb.out,chf_b ((Chg.refl [b] w).trans HCb.out (al1 (.inl (by simp))))⟩⟩
 go_simp
 refine box_two (hd (Pp.quiet HP.out (Chg.refl _ _).drew)) (fun x r5 wx HMx HPx HCd=>?_) (fun c r w9 HMb HCd=>?_)
 · have HCx:Hid (Chg [b] w wx):=hd (Chg.ofDrew HCd.out)
   have HBL_1:=hd (HCx.out.blk HBL.out (by simp[NBL_b]))
   have HBP_1:=hd (HCx.out.blk HBP.out (by simp[NBP_b]))
   have C1:=hd ((Chg.refl [b] w).trans HCx.out (al1 (.inl (by simp))))
   have HLVx:Hid (LevAt B D L u1 u2 (.slice ao L.aisles.length cap) u4 u5 wx):=hd (HLV0.out.keep HCx.out (by simp;exact HDb.out) (fun k hk=>by simp at hk;rw[hk];exact HbB.out))
   refine kq hK (⟨HBL_1.out,HBP_1.out⟩) (fun hHeld=>?_)
   refine rd2 4 7 (fun K hK=>?_) (fun K hK=>?_)
   · skip
     have x0:=HLVx.out.blk.cell (i:=4) rfl
     go_simp
     refine kq hK (hHeld) (fun hHeld=>?_)
     clear x0
     refine rd1 7 (fun K hK=>?_)
     go_simp
     refine kq hK (⟨hHeld.1.alloc _,hHeld.2.alloc _⟩) (fun hHeld=>?_)
     exact mPnMO2
   go_simp
   refine kq hK (⟨hHeld.1.alloc _,hHeld.2.alloc _⟩) (fun hHeld=>?_)
   refine rd1 4 (fun K hK=>?_)
   have x0:=(HLVx.out.blk.alloc (.cells #[.int .i64 (x.x:Nat),.int .i64 (x.y:Nat),.int .i64 (x.x2:Nat),.int .i64 (x.y2:Nat)] 54)).cell (i:=4) rfl
   go_simp
   refine kq hK (hHeld) (fun hHeld=>?_)
   clear x0
   exact mPnMO2
 have HCb:Hid (Chg [b] w w9):=hd (Chg.ofDrew HCd.out)
 exact ⟨rfl,.inr ⟨c,r,rfl,bad5 (show Pn.boxS l=(Pn.box l).bind _ from rfl) HMb.out,chf_b ((Chg.refl [b] w).trans HCb.out (al1 (.inl (by simp))))⟩⟩
theorem mPnMO1 {G:Prop} (h:G:=by
  refine rd1 8 (fun K hK=>?_)
  have HLa:Hid (LevAt B D L u1 u2 u3 (.slice ao L.pillars.length cap) u5 (wx.alloc (.cells #[.int .i64 (x.x:Nat),.int .i64 (x.y:Nat),.int .i64 (x.x2:Nat),.int .i64 (x.y2:Nat)] 54))):=hd (HLVx.out.keep (own:=[]) ((Chg.refl _ _).alloc _) (by simp) (by simp))
  have hba:B≤(wx.alloc (.cells #[.int .i64 (x.x:Nat),.int .i64 (x.y:Nat),.int .i64 (x.x2:Nat),.int .i64 (x.y2:Nat)] 54)).heap.size:=by have h1:=HN.out;have h2:=(C1.out.alloc (.cells #[.int .i64 (x.x:Nat),.int .i64 (x.y:Nat),.int .i64 (x.x2:Nat),.int .i64 (x.y2:Nat)] 54)).size;omega
  refine step_snoc2 rfl (.tmp 8) (.tmp 11) 58 rfl 54 ii (.agg #[.int .i64 0,.int .i64 0,.int .i64 0,.int .i64 0]) 4 32 Tryz.underlying58 hii iz0 iz1 iz2 rfl (by decide) (C:=Cbx) (Es:=[]) (.slice ao L.pillars.length cap) L.pillars.length rfl HLa.out.l4 rfl (kp_bx B) (by decide) x [.int .i64 (x.x:Nat),.int .i64 (x.y:Nat),.int .i64 (x.x2:Nat),.int .i64 (x.y2:Nat)] rfl rfl (by intro u hu;simp at hu;rcases hu with rfl|rfl|rfl|rfl <;> rfl) wx.heap.size rfl (Blk.new wx [.int .i64 (x.x:Nat),.int .i64 (x.y:Nat),.int .i64 (x.x2:Nat),.int .i64 (x.y2:Nat)] 54) (by unfold maxLen;omega) (by omega) hba ?kk
  case kk =>
   intro g8 cap8 v8 hl8 hg8 ho8 hlt8
   have HL8:=hd hl8
   have HG8:=hd hg8
   have HOW8:=hd ho8
   clear hl8 hg8 ho8 hlt8 hba
   obtain ⟨css,hc1,hc2,hrow⟩:=HLa.out.l4
   have HRW:=hd hrow
   clear hc1 hc2 hrow
   have HCG:Hid (Chg (Value.ownBlock (.slice ao L.pillars.length cap)).toList (wx.alloc (.cells #[.int .i64 (x.x:Nat),.int .i64 (x.y:Nat),.int .i64 (x.x2:Nat),.int .i64 (x.y2:Nat)] 54)) v8):=hd ((Chg.refl _ _).grown HG8.out (fun k hk=>.inl (by simp[hk])))
   have HGE:Hid (∀ k ∈ (Value.ownBlock (.slice ao L.pillars.length cap)).toList,B≤k):=hd (fun k hk=>own_geP HRW.out k (by simpa using hk))
   have HP8:Hid (Pp v8 b r5 en):=hd ((HPx.out.quiet ((Chg.refl [] _).alloc _)).keep HCG.out (fun k hk=>by have h1:=HGE.out k hk;have h2:=HbB.out;omega))
   have HD8:Hid (Blk v8 D [.string ⟨L.name.toArray⟩,.int .i64 (L.height:Nat),u1,u2,u3,(.slice ao L.pillars.length cap),u5,.int .i64 (L.at_:Nat)] 61):=hd (grown_blk HLa.out.blk HG8.out HRW.out (by decide))
   have HBL8:Hid (Blk v8 BL [.pointer (some ⟨D,0,none⟩)] 134):=hd (grown_blk (hHeld.1) HG8.out HRW.out (by decide))
   have HBP8:Hid (Blk v8 BP [.pointer (some ⟨b,0,none⟩)] 88):=hd (grown_blk (hHeld.2) HG8.out HRW.out (by decide))
   obtain ⟨v9,hv9⟩:∃ W,W=v8.setCell ⟨D,5,none⟩ (.slice (some ⟨g8,0,none⟩) (L.pillars.length+1) cap8):=⟨_,rfl⟩
   have HLV9:Hid (LevAt B D { L with pillars:=L.pillars++[x] } u1 u2 u3 (.slice (some ⟨g8,0,none⟩) (L.pillars.length+1) cap8) u5 v9):=hd (by rw[hv9];exact HLa.out.app4 HG8.out x HL8.out (fun k hk e=>by simp only[Value.ownBlock,Option.some.injEq] at e;rw[← e] at hk;rcases HOW8.out with h1|h1;exact HLa.out.ne g8 hk h1;(have h2:=HLa.out.l3.below g8 hk;omega)))
   have HP9:Hid (Pp v9 b r5 en):=hd (by rw[hv9];exact HP8.out.keep (own:=[D]) ((Chg.refl _ _).setCell _ _ (.inl (by simp))) (fun k hk=>by simp at hk;rw[hk];exact HN.out.1))
   have HBL9:=hd (HBL8.out.o1 hv9 NBL_D)
   have HBP9:=hd (HBP8.out.o1 hv9 NBP_D)
   have HCF9:Hid (CHF B b D w v9):=hd (fun Wb hWb hc=>by rw[hv9];exact (((hc.trans (C1.out.alloc (.cells #[.int .i64 (x.x:Nat),.int .i64 (x.y:Nat),.int .i64 (x.x2:Nat),.int .i64 (x.y2:Nat)] 54)) (fun k hk=>.inl (by simp at hk;simp[hk]))).trans HCG.out (fun k hk=>.inr (Nat.le_trans hWb (HGE.out k hk)))).setCell _ _ (.inl (by simp))))
   refine kq hK (⟨HBL8.out,HBP8.out⟩) (fun hHeld=>?_)
   refine tq 9 ?_
   refine tq 10 ?_
   refine rd1 11 (fun K hK=>?_)
   have d0:=HD8.out.cell (i:=5) rfl
   have d1:=HD8.out.free 5
   go_simp
   rw[← hv9]
   refine kq hK (⟨HBL9.out,HBP9.out⟩) (fun hHeld=>?_)
   clear d0 d1 hv9
   refine dq ?_
   clear hHeld
   have HO1:=hd (good5 (show Pn.boxS l=(Pn.box l).bind _ from rfl) HMx.out)
   have cBP_0:=HBP9.out.cell (i:=0) rfl
   go_wp2_with fail
   clear cBP_0
   refine must_two (hd HP9.out) [59] (fun r6 w6 HM6 HP6 HC6=>?_) (fun c r w9 HMb HCb=>?_)
   · have HO2:=hd (good5 HO1.out HM6.out)
     exact mPnMO7
   go_wp2_with fail
   exact ⟨rfl,.inr ⟨c,r,rfl,bad5 HO1.out HMb.out,HCF9.out.then HCb.out⟩⟩):G:=h
theorem it4_spec (w:World) (b en BL BP D B:Nat) (l:List Tk) (L:Pn.Lv) (u1 u2 u3 u4 u5:Value) (HP:Hid (Pp w b l en)) (HLV:Hid (LevAt B D L u1 u2 u3 u4 u5 w)) (HBL:Hid (Blk w BL [.pointer (some ⟨D,0,none⟩)] 134)) (HBP:Hid (Blk w BP [.pointer (some ⟨b,0,none⟩)] 88))
 (HN:Hid (b < D∧D < BP∧BP < BL∧BL < B∧B≤w.heap.size)) (HS:Hid (L.pillars.length≤1000000)) (at_:Nat) :
 Calls Tryz.prog 77 #[.int .i64 (at_:Nat),.pointer (some ⟨BL,0,none⟩),.pointer (some ⟨BP,0,none⟩)] w fun e w' =>
  (∃ x r v,e = .returned (.tuple #[])∧Pn.boxS l = .ok x r∧Pp w' b r en∧LevAt B D { L with pillars:=L.pillars++[x] } u1 u2 u3 v u5 w'∧CHF B b D w w')∨(∃ c r,e = .panicked [{ v:=flt c r en,recovered:=false }]∧Pn.boxS l = .bad c r∧CHF B b D w w'):=by
 obtain ⟨ii,hii,iz0,iz1,iz2⟩:=info_parts info_it4
 obtain ⟨ao,cap,hu⟩:=HLV.out.l4.form
 subst hu
 have NBL_b:BL≠b:=by have:=HN.out;omega
 have NBP_b:BP≠b:=by have:=HN.out;omega
 have NBL_D:BL≠D:=by have:=HN.out;omega
 have NBP_D:BP≠D:=by have:=HN.out;omega
 have HDb:Hid (D≠b):=hd (by have:=HN.out;omega)
 have HbB:Hid (b < B):=hd (by have:=HN.out;omega)
 have hsl:=HS.out
 go_enter Tryz.func77,Tryz.ntmps77
 go_upto_region 0 with fail
 have HLV0:Hid (LevAt B D L u1 u2 u3 (.slice ao L.pillars.length cap) u5 w):=hd (HLV.out.keep (own:=[b]) (Chg.refl [b] w) (by simp;exact HDb.out) (fun k hk=>by simp at hk;rw[hk];exact HbB.out))
 refine wp_region_held_drew (S:=fun W'=>Blk W' BL [.pointer (some ⟨D,0,none⟩)] 134∧Blk W' BP [.pointer (some ⟨b,0,none⟩)] 88) (by kernel_rfl) ⟨HBL.out.drew,HBP.out.drew⟩ (fun hHeld=>?_)
 refine tq1 0 (fun w9 hSw=>hSw.1.cell (i:=0) rfl) ?_
 refine tq1 1 (fun w9 hSw=>hSw.1.cell (i:=0) rfl) ?_
 refine tq 2 ?_
 refine tq 3 ?_
 refine tq1 5 (fun w9 hSw=>hSw.2.cell (i:=0) rfl) ?_
 refine rd2 4 6 (fun K hK=>?_) (fun K hK=>?_)
 · skip
   have x0:=(HLV0.out.blk.drew).cell (i:=5) rfl
   go_simp
   refine kq hK (hHeld) (fun hHeld=>?_)
   clear x0
   refine rd1 6 (fun K hK=>?_)
   go_simp
   refine box_two (hd (Pp.quiet HP.out (Chg.refl _ _).drew)) (fun x r5 wx HMx HPx HCd=>?_) (fun c r w9 HMb HCd=>?_)
   · have HCx:Hid (Chg [b] w wx):=hd (Chg.ofDrew HCd.out)
     have HBL_1:=hd (HCx.out.blk HBL.out (by simp[NBL_b]))
     have HBP_1:=hd (HCx.out.blk HBP.out (by simp[NBP_b]))
     have C1:=hd ((Chg.refl [b] w).trans HCx.out (al1 (.inl (by simp))))
     have HLVx:Hid (LevAt B D L u1 u2 u3 (.slice ao L.pillars.length cap) u5 wx):=hd (HLV0.out.keep HCx.out (by simp;exact HDb.out) (fun k hk=>by simp at hk;rw[hk];exact HbB.out))
     refine kq hK (⟨HBL_1.out,HBP_1.out⟩) (fun hHeld=>?_)
     refine rd1 7 (fun K hK=>?_)
     go_simp
     refine kq hK (⟨hHeld.1.alloc _,hHeld.2.alloc _⟩) (fun hHeld=>?_)
     exact mPnMO1
   have HCb:Hid (Chg [b] w w9):=hd (Chg.ofDrew HCd.out)
   exact ⟨rfl,.inr ⟨c,r,rfl,bad5 (show Pn.boxS l=(Pn.box l).bind _ from rfl) HMb.out,chf_b ((Chg.refl [b] w).trans HCb.out (al1 (.inl (by simp))))⟩⟩
 go_simp
 refine box_two (hd (Pp.quiet HP.out (Chg.refl _ _).drew)) (fun x r5 wx HMx HPx HCd=>?_) (fun c r w9 HMb HCd=>?_)
 · have HCx:Hid (Chg [b] w wx):=hd (Chg.ofDrew HCd.out)
   have HBL_1:=hd (HCx.out.blk HBL.out (by simp[NBL_b]))
   have HBP_1:=hd (HCx.out.blk HBP.out (by simp[NBP_b]))
   have C1:=hd ((Chg.refl [b] w).trans HCx.out (al1 (.inl (by simp))))
   have HLVx:Hid (LevAt B D L u1 u2 u3 (.slice ao L.pillars.length cap) u5 wx):=hd (HLV0.out.keep HCx.out (by simp;exact HDb.out) (fun k hk=>by simp at hk;rw[hk];exact HbB.out))
   refine kq hK (⟨HBL_1.out,HBP_1.out⟩) (fun hHeld=>?_)
   refine rd2 4 7 (fun K hK=>?_) (fun K hK=>?_)
   · skip
     have x0:=HLVx.out.blk.cell (i:=5) rfl
     go_simp
     refine kq hK (hHeld) (fun hHeld=>?_)
     clear x0
     refine rd1 7 (fun K hK=>?_)
     go_simp
     refine kq hK (⟨hHeld.1.alloc _,hHeld.2.alloc _⟩) (fun hHeld=>?_)
     exact mPnMO1
   go_simp
   refine kq hK (⟨hHeld.1.alloc _,hHeld.2.alloc _⟩) (fun hHeld=>?_)
   refine rd1 4 (fun K hK=>?_)
   have x0:=(HLVx.out.blk.alloc (.cells #[.int .i64 (x.x:Nat),.int .i64 (x.y:Nat),.int .i64 (x.x2:Nat),.int .i64 (x.y2:Nat)] 54)).cell (i:=5) rfl
   go_simp
   refine kq hK (hHeld) (fun hHeld=>?_)
   clear x0
   exact mPnMO1
 have HCb:Hid (Chg [b] w w9):=hd (Chg.ofDrew HCd.out)
 exact ⟨rfl,.inr ⟨c,r,rfl,bad5 (show Pn.boxS l=(Pn.box l).bind _ from rfl) HMb.out,chf_b ((Chg.refl [b] w).trans HCb.out (al1 (.inl (by simp))))⟩⟩
end Go.Proofs.YtglepipfdmphhaaGreatDoor
namespace Go.Proofs.YtglepipfdmphhaaGreatDoor
set_option linter.unusedVariables false
set_option linter.unusedSimpArgs false
open Go Go.RowKit Go.Shelf
open Lx (Tk)
theorem mPnMO5 {G:Prop} (h:G:=by
  refine rd1 7 (fun K hK=>?_)
  have HLa:Hid (LevAt B D L u1 u2 u3 u4 (.slice ao L.doors.length cap) (wx.alloc (.cells #[.int .i64 (x1:Nat),.int .i64 (y1:Nat)] 23))):=hd (HLVx.out.keep (own:=[]) ((Chg.refl _ _).alloc _) (by simp) (by simp))
  have hba:B≤(wx.alloc (.cells #[.int .i64 (x1:Nat),.int .i64 (y1:Nat)] 23)).heap.size:=by have h1:=HN.out;have h2:=(C5.out.alloc (.cells #[.int .i64 (x1:Nat),.int .i64 (y1:Nat)] 23)).size;omega
  refine step_snoc2 rfl (.tmp 16) (.tmp 18) 59 rfl 23 ii (.agg #[.int .i64 0,.int .i64 0]) 2 16 Tryz.underlying59 hii iz0 iz1 iz2 rfl (by decide) (C:=Cpt) (Es:=[]) (.slice ao L.doors.length cap) L.doors.length rfl HLa.out.l5 rfl (kp_pt B) (by decide) (x1,y1) [.int .i64 (x1:Nat),.int .i64 (y1:Nat)] rfl rfl (by intro u hu;simp at hu;rcases hu with rfl|rfl <;> rfl) wx.heap.size rfl (Blk.new wx [.int .i64 (x1:Nat),.int .i64 (y1:Nat)] 23) (by unfold maxLen;omega) (by omega) hba ?kk
  case kk =>
   intro g8 cap8 v8 hl8 hg8 ho8 hlt8
   have HL8:=hd hl8
   have HG8:=hd hg8
   have HOW8:=hd ho8
   clear hl8 hg8 ho8 hlt8 hba
   obtain ⟨css,hc1,hc2,hrow⟩:=HLa.out.l5
   have HRW:=hd hrow
   clear hc1 hc2 hrow
   have HCG:Hid (Chg (Value.ownBlock (.slice ao L.doors.length cap)).toList (wx.alloc (.cells #[.int .i64 (x1:Nat),.int .i64 (y1:Nat)] 23)) v8):=hd ((Chg.refl _ _).grown HG8.out (fun k hk=>.inl (by simp[hk])))
   have HGE:Hid (∀ k ∈ (Value.ownBlock (.slice ao L.doors.length cap)).toList,B≤k):=hd (fun k hk=>own_geP HRW.out k (by simpa using hk))
   have HP8:Hid (Pp v8 b r2 en):=hd ((HPx.out.quiet ((Chg.refl [] _).alloc _)).keep HCG.out (fun k hk=>by have h1:=HGE.out k hk;have h2:=HbB.out;omega))
   have HD8:Hid (Blk v8 D [.string ⟨L.name.toArray⟩,.int .i64 (L.height:Nat),u1,u2,u3,u4,(.slice ao L.doors.length cap),.int .i64 (L.at_:Nat)] 61):=hd (grown_blk HLa.out.blk HG8.out HRW.out (by decide))
   have HBL8:Hid (Blk v8 BL [.pointer (some ⟨D,0,none⟩)] 134):=hd (grown_blk (hHeld.1) HG8.out HRW.out (by decide))
   have HBP8:Hid (Blk v8 BP [.pointer (some ⟨b,0,none⟩)] 88):=hd (grown_blk (hHeld.2.1) HG8.out HRW.out (by decide))
   have HX8:Hid (Blk v8 T4 [.int .i64 (x1:Nat),.int .i64 (y1:Nat)] 23):=hd ((HG8.out.block T4 hHeld.2.2.lt (fun e=>by have h1:=HLV.out.l5.below T4 e.symm;have h2:=OT4.out;omega)).trans hHeld.2.2)
   have NX_D:T4≠D:=by have h1:=OT4.out;have h2:=HN.out;omega
   obtain ⟨v9,hv9⟩:∃ W,W=v8.setCell ⟨D,6,none⟩ (.slice (some ⟨g8,0,none⟩) (L.doors.length+1) cap8):=⟨_,rfl⟩
   have HLV9:Hid (LevAt B D { L with doors:=L.doors++[(x1,y1)] } u1 u2 u3 u4 (.slice (some ⟨g8,0,none⟩) (L.doors.length+1) cap8) v9):=hd (by rw[hv9];exact HLa.out.app5 HG8.out (x1,y1) HL8.out)
   have HP9:Hid (Pp v9 b r2 en):=hd (by rw[hv9];exact HP8.out.keep (own:=[D]) ((Chg.refl _ _).setCell _ _ (.inl (by simp))) (fun k hk=>by simp at hk;rw[hk];exact HN.out.1))
   have HBL9:=hd (HBL8.out.o1 hv9 NBL_D)
   have HBP9:=hd (HBP8.out.o1 hv9 NBP_D)
   have HCF9:Hid (CHF B b D w v9):=hd (fun Wb hWb hc=>by rw[hv9];exact (((hc.trans (C5.out.alloc (.cells #[.int .i64 (x1:Nat),.int .i64 (y1:Nat)] 23)) (fun k hk=>.inl (by simp at hk;simp[hk]))).trans HCG.out (fun k hk=>.inr (Nat.le_trans hWb (HGE.out k hk)))).setCell _ _ (.inl (by simp))))
   refine kq hK (⟨HBL8.out,HBP8.out,HX8.out⟩) (fun hHeld=>?_)
   refine tq 8 ?_
   refine tq 9 ?_
   refine rd1 10 (fun K hK=>?_)
   have d0:=HD8.out.cell (i:=6) rfl
   have d1:=HD8.out.free 6
   go_simp
   rw[← hv9]
   refine kq hK (⟨HBL9.out,HBP9.out,by rw[hv9];exact HX8.out.other _ _ NX_D⟩) (fun hHeld=>?_)
   clear d0 d1 hv9
   refine dq ?_
   clear hHeld
   go_wp2_with fail
   refine bodyPost_end (results_none rfl _ _ _) rfl ?_
   first|exact .inl ⟨_,_,_,rfl,HO2.out,HP9.out,HLV9.out,HCF9.out⟩|exact .inl ⟨rfl,_,_,_,HO2.out,HP9.out,HLV9.out,HCF9.out⟩|exact .inl ⟨rfl,_,_,HO2.out,HP9.out,⟨_,HLV9.out⟩,HCF9.out⟩):G:=h
theorem it5_spec (w:World) (b en BL BP D B:Nat) (l:List Tk) (L:Pn.Lv) (u1 u2 u3 u4 u5:Value) (HP:Hid (Pp w b l en)) (HLV:Hid (LevAt B D L u1 u2 u3 u4 u5 w)) (HBL:Hid (Blk w BL [.pointer (some ⟨D,0,none⟩)] 134)) (HBP:Hid (Blk w BP [.pointer (some ⟨b,0,none⟩)] 88))
 (HN:Hid (b < D∧D < BP∧BP < BL∧BL < B∧B≤w.heap.size)) (HS:Hid (L.doors.length≤1000000)) (at_:Nat) :
 Calls Tryz.prog 78 #[.int .i64 (at_:Nat),.pointer (some ⟨BP,0,none⟩),.pointer (some ⟨BL,0,none⟩)] w fun e w' =>
  (∃ x r v,e = .returned (.tuple #[])∧Pn.door l = .ok x r∧Pp w' b r en∧LevAt B D { L with doors:=L.doors++[x] } u1 u2 u3 u4 v w'∧CHF B b D w w')∨(∃ c r,e = .panicked [{ v:=flt c r en,recovered:=false }]∧Pn.door l = .bad c r∧CHF B b D w w'):=by
 obtain ⟨ii,hii,iz0,iz1,iz2⟩:=info_parts info_it5
 obtain ⟨ao,cap,hu⟩:=HLV.out.l5.form
 subst hu
 have HBW:Hid (b < w.heap.size):=hd HP.out.lt
 have HOBL:Hid (BL < w.heap.size):=hd HBL.out.lt
 have HOBP:Hid (BP < w.heap.size):=hd HBP.out.lt
 have BBL:Hid (b < BL):=hd (by have:=HN.out;omega)
 have BBP:Hid (b < BP):=hd (by have:=HN.out;omega)
 have NBL_b:BL≠b:=by have:=HN.out;omega
 have NBP_b:BP≠b:=by have:=HN.out;omega
 have NBL_D:BL≠D:=by have:=HN.out;omega
 have NBP_D:BP≠D:=by have:=HN.out;omega
 have HDb:Hid (D≠b):=hd (by have:=HN.out;omega)
 have HbB:Hid (b < B):=hd (by have:=HN.out;omega)
 have hsl:=HS.out
 go_enter Tryz.func78,Tryz.ntmps78
 have HO:Hid (Pn.door l=_):=hd (Pn.door.eq_1 l)
 go_upto_region 1 with fail
 obtain ⟨W1,hW⟩:∃ W,W=(w.alloc (.cells #[.int .i64 0,.int .i64 0] 23)):=⟨_,rfl⟩
 rw[← hW]
 obtain ⟨T4,hT4⟩:∃ T,T=w.heap.size:=⟨_,rfl⟩
 try rw[← hT4]
 have OT4:Hid (w.heap.size≤T4):=hd (by rw[hT4];exact Nat.le_refl _)
 have HBL_1:=hd (HBL.out.alE hW)
 have HBP_1:=hd (HBP.out.alE hW)
 have HT4_1:Hid (Blk W1 T4 [.int .i64 0,.int .i64 0] 23):=hd (by
  have h1:=Blk.new w [.int .i64 0,.int .i64 0] 23
  have h2:w.heap.size=T4:=by simp[hT4]
  rw[h2] at h1
  rw[hW]
  exact h1)
 have BT4:Hid (b < T4):=hd (by have h1:=HBW.out;have OT4_:=OT4.out;omega)
 have C1:Hid (Chg [b] w W1):=hd (by rw[hW];exact ((Chg.refl [b] w).alloc _))
 have KP_1:Hid (Chg [BL,BP] w W1):=hd (by rw[hW];exact ((Chg.refl [BL,BP] w).alloc _))
 clear hW hT4
 have cBP_0:=HBP_1.out.cell (i:=0) rfl
 go_wp2_with fail
 obtain ⟨W2,hW⟩:∃ W,W=(W1.alloc (.cells #[.pointer (some ⟨T4,0,none⟩),.pointer (some ⟨T4,1,none⟩)] 96)):=⟨_,rfl⟩
 rw[← hW]
 obtain ⟨Q1,hQ1⟩:∃ T,T=W1.heap.size:=⟨_,rfl⟩
 try rw[← hQ1]
 have OQ1:Hid (T4 < Q1):=hd (by rw[hQ1];exact HT4_1.out.lt)
 have HBL_2:=hd (HBL_1.out.alE hW)
 have HBP_2:=hd (HBP_1.out.alE hW)
 have HT4_2:Hid (Blk W2 T4 [.int .i64 0,.int .i64 0] 23):=hd (by rw[hW];exact (HT4_1.out.alloc _))
 have HQ1_2:Hid (Blk W2 Q1 [.pointer (some ⟨T4,0,none⟩),.pointer (some ⟨T4,1,none⟩)] 96):=hd (by
  have h1:=Blk.new W1 [.pointer (some ⟨T4,0,none⟩),.pointer (some ⟨T4,1,none⟩)] 96
  have h2:W1.heap.size=Q1:=by simp[hQ1]
  rw[h2] at h1
  rw[hW]
  exact h1)
 have C2:=hd (C1.out.alE hW)
 have KP_2:=hd (KP_1.out.alE hW)
 clear hW hQ1
 have NQ1_b:Q1≠b:=by have h1:=HBW.out;have OT4_:=OT4.out;have OQ1_:=OQ1.out;omega
 have Nb_Q1:b≠Q1:=NQ1_b.symm
 have NQ1_T4:Q1≠T4:=by have OQ1_:=OQ1.out;omega
 refine num2_two (o:=0) (p:=1) (hd (HP.out.keep KP_2.out (al2 BBL.out BBP.out))) HQ1_2 HT4_2 (by simp) (by simp) (hd ⟨BT4.out,NQ1_b,NQ1_T4⟩) (fun x1 y1 r1 w1 HM1 HP1 HD1 HC1=>?_) (fun c r w9 HMb HCb=>?_)
 · skip
   have NBL_T4:BL≠T4:=by have h1:=HOBL.out;have OT4_:=OT4.out;omega
   have NT4_BL:T4≠BL:=NBL_T4.symm
   have NBP_T4:BP≠T4:=by have h1:=HOBP.out;have OT4_:=OT4.out;omega
   have NT4_BP:T4≠BP:=NBP_T4.symm
   have NT4_b:T4≠b:=by have h1:=HBW.out;have OT4_:=OT4.out;omega
   have Nb_T4:b≠T4:=NT4_b.symm
   have HBL_3:=hd (HC1.out.blk HBL_2.out (by simp[NBL_b,NBL_T4]))
   have HBP_3:=hd (HC1.out.blk HBP_2.out (by simp[NBP_b,NBP_T4]))
   have HQ1_3:Hid (Blk w1 Q1 [.pointer (some ⟨T4,0,none⟩),.pointer (some ⟨T4,1,none⟩)] 96):=hd (HC1.out.blk HQ1_2.out (by simp[NQ1_b,NQ1_T4]))
   have C3:=hd (C2.out.trans HC1.out (al2 (.inl (by simp)) (.inr (by have OT4_:=OT4.out;show w.heap.size≤T4;omega))))
   clear HQ1_3
   have HO1:=hd (good5 HO.out HM1.out)
   clear cBP_0
   have cBP_0:=HBP_3.out.cell (i:=0) rfl
   go_wp2_with fail
   refine must_two (hd HP1.out) [59] (fun r2 w2 HM2 HP2 HC2=>?_) (fun c r w9 HMb HCb=>?_)
   · skip
     have HBL_4:=hd (HC2.out.blk HBL_3.out (by simp[NBL_b]))
     have HBP_4:=hd (HC2.out.blk HBP_3.out (by simp[NBP_b]))
     have HT4_4:Hid (Blk w2 T4 [.int .i64 (x1:Nat),.int .i64 (y1:Nat)] 23):=hd (HC2.out.blk HD1.out (by simp[NT4_b]))
     have C4:=hd (C3.out.trans HC2.out (al1 (.inl (by simp))))
     have HO2:=hd (good5 HO1.out HM2.out)
     go_upto_region 3 with fail
     clear cBP_0
     have HLV0:Hid (LevAt B D L u1 u2 u3 u4 (.slice ao L.doors.length cap) w2):=hd (HLV.out.keep (own:=[b]) C4.out (by simp;exact HDb.out) (fun k hk=>by simp at hk;rw[hk];exact HbB.out))
     refine wp_region_held_drew (S:=fun W'=>Blk W' BL [.pointer (some ⟨D,0,none⟩)] 134∧Blk W' BP [.pointer (some ⟨b,0,none⟩)] 88∧Blk W' T4 [.int .i64 (x1:Nat),.int .i64 (y1:Nat)] 23) (by kernel_rfl) ⟨HBL_4.out.drew,HBP_4.out.drew,HT4_4.out.drew⟩ (fun hHeld=>?_)
     refine tq1 0 (fun w9 hSw=>hSw.1.cell (i:=0) rfl) ?_
     refine tq1 1 (fun w9 hSw=>hSw.1.cell (i:=0) rfl) ?_
     refine tq 2 ?_
     refine tq 3 ?_
     refine tq 5 ?_ (hy:=by intro w9 hSw;have e0:=hSw.2.2.cell (i:=0) rfl;have e1:=hSw.2.2.cell (i:=1) rfl;go_simp;try with_reducible rfl)
     obtain ⟨wx,hwx⟩:∃ W,W=w2.drew:=⟨_,rfl⟩
     rw[← hwx] at hHeld ⊢
     have HCx:Hid (Chg [] w2 wx):=hd (by rw[hwx];exact (Chg.refl _ _).drew)
     clear hwx
     have C5:=hd (C4.out.trans HCx.out (by simp))
     have HPx:Hid (Pp wx b r2 en):=hd (Pp.quiet HP2.out HCx.out)
     have HLVx:Hid (LevAt B D L u1 u2 u3 u4 (.slice ao L.doors.length cap) wx):=hd (HLV0.out.keep HCx.out (by simp) (by simp))
     refine rd2 4 6 (fun K hK=>?_) (fun K hK=>?_)
     · skip
       have x0:=HLVx.out.blk.cell (i:=6) rfl
       go_simp
       refine kq hK (hHeld) (fun hHeld=>?_)
       clear x0
       refine rd1 6 (fun K hK=>?_)
       go_simp
       refine kq hK (⟨hHeld.1.alloc _,hHeld.2.1.alloc _,hHeld.2.2.alloc _⟩) (fun hHeld=>?_)
       exact mPnMO5
     go_simp
     refine kq hK (⟨hHeld.1.alloc _,hHeld.2.1.alloc _,hHeld.2.2.alloc _⟩) (fun hHeld=>?_)
     refine rd1 4 (fun K hK=>?_)
     have x0:=(HLVx.out.blk.alloc (.cells #[.int .i64 (x1:Nat),.int .i64 (y1:Nat)] 23)).cell (i:=6) rfl
     go_simp
     refine kq hK (hHeld) (fun hHeld=>?_)
     clear x0
     exact mPnMO5
   go_wp2_with fail
   exact ⟨rfl,.inr ⟨c,r,rfl,bad5 HO1.out HMb.out,chf_b (C3.out.trans HCb.out (al1 (.inl (by simp))))⟩⟩
 go_wp2_with fail
 exact ⟨rfl,.inr ⟨c,r,rfl,bad5 HO.out HMb.out,chf_b (C2.out.trans HCb.out (al2 (.inl (by simp)) (.inr (by have OT4_:=OT4.out;show w.heap.size≤T4;omega))))⟩⟩
theorem mPnMO4 {G:Prop} (h:G:=by
  refine rd1 7 (fun K hK=>?_)
  have HLa:Hid (LevAt B D L u1 (.slice ao L.areas.length cap) u3 u4 u5 (wx.alloc (.cells #[.string ⟨t2.text.toArray⟩,.int .i64 (x5.x:Nat),.int .i64 (x5.y:Nat),.int .i64 (x5.x2:Nat),.int .i64 (x5.y2:Nat),.int .i64 (x7:Nat),.int .i64 (at_:Nat)] 56))):=hd (HLVx.out.keep (own:=[]) ((Chg.refl _ _).alloc _) (by simp) (by simp))
  have hba:B≤(wx.alloc (.cells #[.string ⟨t2.text.toArray⟩,.int .i64 (x5.x:Nat),.int .i64 (x5.y:Nat),.int .i64 (x5.x2:Nat),.int .i64 (x5.y2:Nat),.int .i64 (x7:Nat),.int .i64 (at_:Nat)] 56)).heap.size:=by have h1:=HN.out;have h2:=(C10.out.alloc (.cells #[.string ⟨t2.text.toArray⟩,.int .i64 (x5.x:Nat),.int .i64 (x5.y:Nat),.int .i64 (x5.x2:Nat),.int .i64 (x5.y2:Nat),.int .i64 (x7:Nat),.int .i64 (at_:Nat)] 56)).size;omega
  refine step_snoc2 rfl (.tmp 24) (.tmp 26) 57 rfl 56 ii (.agg #[.string ⟨#[]⟩,.int .i64 0,.int .i64 0,.int .i64 0,.int .i64 0,.int .i64 0,.int .i64 0]) 7 64 Tryz.underlying57 hii iz0 iz1 iz2 rfl (by decide) (C:=Car) (Es:=[]) (.slice ao L.areas.length cap) L.areas.length rfl HLa.out.l2 rfl (kp_ar B) (by decide) ⟨t2.text,x5,x7,at_⟩ [.string ⟨t2.text.toArray⟩,.int .i64 (x5.x:Nat),.int .i64 (x5.y:Nat),.int .i64 (x5.x2:Nat),.int .i64 (x5.y2:Nat),.int .i64 (x7:Nat),.int .i64 (at_:Nat)] rfl rfl (by intro u hu;simp at hu;rcases hu with rfl|rfl|rfl|rfl|rfl|rfl|rfl <;> rfl) wx.heap.size rfl (Blk.new wx [.string ⟨t2.text.toArray⟩,.int .i64 (x5.x:Nat),.int .i64 (x5.y:Nat),.int .i64 (x5.x2:Nat),.int .i64 (x5.y2:Nat),.int .i64 (x7:Nat),.int .i64 (at_:Nat)] 56) (by unfold maxLen;omega) (by omega) hba ?kk
  case kk =>
   intro g8 cap8 v8 hl8 hg8 ho8 hlt8
   have HL8:=hd hl8
   have HG8:=hd hg8
   have HOW8:=hd ho8
   clear hl8 hg8 ho8 hlt8 hba
   obtain ⟨css,hc1,hc2,hrow⟩:=HLa.out.l2
   have HRW:=hd hrow
   clear hc1 hc2 hrow
   have HCG:Hid (Chg (Value.ownBlock (.slice ao L.areas.length cap)).toList (wx.alloc (.cells #[.string ⟨t2.text.toArray⟩,.int .i64 (x5.x:Nat),.int .i64 (x5.y:Nat),.int .i64 (x5.x2:Nat),.int .i64 (x5.y2:Nat),.int .i64 (x7:Nat),.int .i64 (at_:Nat)] 56)) v8):=hd ((Chg.refl _ _).grown HG8.out (fun k hk=>.inl (by simp[hk])))
   have HGE:Hid (∀ k ∈ (Value.ownBlock (.slice ao L.areas.length cap)).toList,B≤k):=hd (fun k hk=>own_geP HRW.out k (by simpa using hk))
   have HP8:Hid (Pp v8 b r8 en):=hd ((HPx.out.quiet ((Chg.refl [] _).alloc _)).keep HCG.out (fun k hk=>by have h1:=HGE.out k hk;have h2:=HbB.out;omega))
   have HD8:Hid (Blk v8 D [.string ⟨L.name.toArray⟩,.int .i64 (L.height:Nat),u1,(.slice ao L.areas.length cap),u3,u4,u5,.int .i64 (L.at_:Nat)] 61):=hd (grown_blk HLa.out.blk HG8.out HRW.out (by decide))
   have HBL8:Hid (Blk v8 BL [.pointer (some ⟨D,0,none⟩)] 134):=hd (grown_blk (hHeld.1) HG8.out HRW.out (by decide))
   have HBP8:Hid (Blk v8 BP [.pointer (some ⟨b,0,none⟩)] 88):=hd (grown_blk (hHeld.2.1) HG8.out HRW.out (by decide))
   have HX8:Hid (Blk v8 T4 [.string ⟨t2.text.toArray⟩,.int .i64 (x5.x:Nat),.int .i64 (x5.y:Nat),.int .i64 (x5.x2:Nat),.int .i64 (x5.y2:Nat),.int .i64 (x7:Nat),.int .i64 (at_:Nat)] 56):=hd ((HG8.out.block T4 hHeld.2.2.lt (fun e=>by have h1:=HLV.out.l2.below T4 e.symm;have h2:=OT4.out;omega)).trans hHeld.2.2)
   have NX_D:T4≠D:=by have h1:=OT4.out;have h2:=HN.out;omega
   obtain ⟨v9,hv9⟩:∃ W,W=v8.setCell ⟨D,3,none⟩ (.slice (some ⟨g8,0,none⟩) (L.areas.length+1) cap8):=⟨_,rfl⟩
   have HLV9:Hid (LevAt B D { L with areas:=L.areas++[⟨t2.text,x5,x7,at_⟩] } u1 (.slice (some ⟨g8,0,none⟩) (L.areas.length+1) cap8) u3 u4 u5 v9):=hd (by rw[hv9];exact HLa.out.app2 HG8.out ⟨t2.text,x5,x7,at_⟩ HL8.out)
   have HP9:Hid (Pp v9 b r8 en):=hd (by rw[hv9];exact HP8.out.keep (own:=[D]) ((Chg.refl _ _).setCell _ _ (.inl (by simp))) (fun k hk=>by simp at hk;rw[hk];exact HN.out.1))
   have HBL9:=hd (HBL8.out.o1 hv9 NBL_D)
   have HBP9:=hd (HBP8.out.o1 hv9 NBP_D)
   have HCF9:Hid (CHF B b D w v9):=hd (fun Wb hWb hc=>by rw[hv9];exact (((hc.trans (C10.out.alloc (.cells #[.string ⟨t2.text.toArray⟩,.int .i64 (x5.x:Nat),.int .i64 (x5.y:Nat),.int .i64 (x5.x2:Nat),.int .i64 (x5.y2:Nat),.int .i64 (x7:Nat),.int .i64 (at_:Nat)] 56)) (fun k hk=>.inl (by simp at hk;simp[hk]))).trans HCG.out (fun k hk=>.inr (Nat.le_trans hWb (HGE.out k hk)))).setCell _ _ (.inl (by simp))))
   refine kq hK (⟨HBL8.out,HBP8.out,HX8.out⟩) (fun hHeld=>?_)
   refine tq 8 ?_
   refine tq 9 ?_
   refine rd1 10 (fun K hK=>?_)
   have d0:=HD8.out.cell (i:=3) rfl
   have d1:=HD8.out.free 3
   go_simp
   rw[← hv9]
   refine kq hK (⟨HBL9.out,HBP9.out,by rw[hv9];exact HX8.out.other _ _ NX_D⟩) (fun hHeld=>?_)
   clear d0 d1 hv9
   refine dq ?_
   clear hHeld
   go_wp2_with fail
   refine bodyPost_end (results_none rfl _ _ _) rfl ?_
   first|exact .inl ⟨⟨t2.text,x5,x7,at_⟩,r8,_,rfl,HO8.out,HP9.out,HLV9.out,HCF9.out⟩|exact .inl ⟨rfl,⟨t2.text,x5,x7,at_⟩,r8,_,HO8.out,HP9.out,HLV9.out,HCF9.out⟩|exact .inl ⟨⟨t2.text,x5,x7,at_⟩,rfl,r8,HO8.out,HP9.out,_,HLV9.out,HCF9.out⟩|exact .inl ⟨⟨t2.text,x5,x7,at_⟩,r8,rfl,HO8.out,HP9.out,⟨_,HLV9.out⟩,HCF9.out⟩|(trace_state;exact .inl ⟨⟨t2.text,x5,x7,at_⟩,r8,_,rfl,HO8.out,HP9.out,HLV9.out,HCF9.out⟩)):G:=h
theorem mPnMO0 {G:Prop} (h:G:=by
  have HBL_6:=hd (HC6.out.blk HBL_5.out (by simp[NBL_b]))
  have HBP_6:=hd (HC6.out.blk HBP_5.out (by simp[NBP_b]))
  have HT4_6:=hd (HC6.out.blk HT4_5.out (by simp[NT4_b]))
  have C6:=hd (C5.out.trans HC6.out (al1 (.inl (by simp))))
  have HO6:=hd (good5 HO5.out HM6.out)
  clear cBP_0
  have cBP_0:=HBP_6.out.cell (i:=0) rfl
  go_wp2_with fail
  obtain ⟨W7,hW⟩:∃ W,W=(w6.alloc (.cells #[.pointer (some ⟨T4,5,none⟩)] 96)):=⟨_,rfl⟩
  rw[← hW]
  obtain ⟨Q7,hQ7⟩:∃ T,T=w6.heap.size:=⟨_,rfl⟩
  try rw[← hQ7]
  have OQ7:Hid (T4 < Q7):=hd (by rw[hQ7];exact HT4_6.out.lt)
  have HBL_7:=hd (HBL_6.out.alE hW)
  have HBP_7:=hd (HBP_6.out.alE hW)
  have HT4_7:=hd (HT4_6.out.alE hW)
  have HQ7_7:Hid (Blk W7 Q7 [.pointer (some ⟨T4,5,none⟩)] 96):=hd (by
   have h1:=Blk.new w6 [.pointer (some ⟨T4,5,none⟩)] 96
   have h2:w6.heap.size=Q7:=by simp[hQ7]
   rw[h2] at h1
   rw[hW]
   exact h1)
  have C7:=hd (C6.out.alE hW)
  have KP_7:Hid (Chg [BL,BP,T4] w6 W7):=hd (by rw[hW];exact ((Chg.refl [BL,BP,T4] w6).alloc _))
  clear hW hQ7
  have NQ7_b:Q7≠b:=by have h1:=HBW.out;have OT4_:=OT4.out;have OQ7_:=OQ7.out;omega
  have Nb_Q7:b≠Q7:=NQ7_b.symm
  have NQ7_T4:Q7≠T4:=by have OQ7_:=OQ7.out;omega
  refine num1_two (o:=5) (hd (HP6.out.keep KP_7.out (al3 BBL.out BBP.out BT4.out))) HQ7_7 HT4_7 (by simp) (hd ⟨BT4.out,NQ7_b,NQ7_T4⟩) (fun x7 r7 w7 HM7 HP7 HD7 HC7=>?_) (fun c r w9 HMb HCb=>?_)
  · skip
    have HBL_8:=hd (HC7.out.blk HBL_7.out (by simp[NBL_b,NBL_T4]))
    have HBP_8:=hd (HC7.out.blk HBP_7.out (by simp[NBP_b,NBP_T4]))
    have HQ7_8:Hid (Blk w7 Q7 [.pointer (some ⟨T4,5,none⟩)] 96):=hd (HC7.out.blk HQ7_7.out (by simp[NQ7_b,NQ7_T4]))
    have C8:=hd (C7.out.trans HC7.out (al2 (.inl (by simp)) (.inr (by have OT4_:=OT4.out;show w.heap.size≤T4;omega))))
    clear HQ7_8
    have HO7:=hd (good5 HO6.out HM7.out)
    clear cBP_0
    have cBP_0:=HBP_8.out.cell (i:=0) rfl
    go_wp2_with fail
    refine must_two (hd HP7.out) [59] (fun r8 w8 HM8 HP8 HC8=>?_) (fun c r w9 HMb HCb=>?_)
    · skip
      have HBL_9:=hd (HC8.out.blk HBL_8.out (by simp[NBL_b]))
      have HBP_9:=hd (HC8.out.blk HBP_8.out (by simp[NBP_b]))
      have HT4_9:Hid (Blk w8 T4 [.string ⟨t2.text.toArray⟩,.int .i64 (x5.x:Nat),.int .i64 (x5.y:Nat),.int .i64 (x5.x2:Nat),.int .i64 (x5.y2:Nat),.int .i64 (x7:Nat),.int .i64 (at_:Nat)] 56):=hd (HC8.out.blk HD7.out (by simp[NT4_b]))
      have C9:=hd (C8.out.trans HC8.out (al1 (.inl (by simp))))
      have HO8:=hd (good5 HO7.out HM8.out)
      go_upto_region 4 with fail
      clear cBP_0
      have HLV0:Hid (LevAt B D L u1 (.slice ao L.areas.length cap) u3 u4 u5 w8):=hd (HLV.out.keep (own:=[b]) C9.out (by simp;exact HDb.out) (fun k hk=>by simp at hk;rw[hk];exact HbB.out))
      refine wp_region_held_drew (S:=fun W'=>Blk W' BL [.pointer (some ⟨D,0,none⟩)] 134∧Blk W' BP [.pointer (some ⟨b,0,none⟩)] 88∧Blk W' T4 [.string ⟨t2.text.toArray⟩,.int .i64 (x5.x:Nat),.int .i64 (x5.y:Nat),.int .i64 (x5.x2:Nat),.int .i64 (x5.y2:Nat),.int .i64 (x7:Nat),.int .i64 (at_:Nat)] 56) (by kernel_rfl) ⟨HBL_9.out.drew,HBP_9.out.drew,HT4_9.out.drew⟩ (fun hHeld=>?_)
      refine tq1 0 (fun w9 hSw=>hSw.1.cell (i:=0) rfl) ?_
      refine tq1 1 (fun w9 hSw=>hSw.1.cell (i:=0) rfl) ?_
      refine tq 2 ?_
      refine tq 3 ?_
      refine tq 5 ?_ (hy:=by intro w9 hSw;have e0:=hSw.2.2.cell (i:=0) rfl;have e1:=hSw.2.2.cell (i:=1) rfl;have e2:=hSw.2.2.cell (i:=2) rfl;have e3:=hSw.2.2.cell (i:=3) rfl;have e4:=hSw.2.2.cell (i:=4) rfl;have e5:=hSw.2.2.cell (i:=5) rfl;have e6:=hSw.2.2.cell (i:=6) rfl;go_simp;try with_reducible rfl)
      obtain ⟨wx,hwx⟩:∃ W,W=w8.drew:=⟨_,rfl⟩
      rw[← hwx] at hHeld ⊢
      have HCx:Hid (Chg [] w8 wx):=hd (by rw[hwx];exact (Chg.refl _ _).drew)
      clear hwx
      have C10:=hd (C9.out.trans HCx.out (by simp))
      have HPx:Hid (Pp wx b r8 en):=hd (Pp.quiet HP8.out HCx.out)
      have HLVx:Hid (LevAt B D L u1 (.slice ao L.areas.length cap) u3 u4 u5 wx):=hd (HLV0.out.keep HCx.out (by simp) (by simp))
      refine rd2 4 6 (fun K hK=>?_) (fun K hK=>?_)
      · skip
        have x0:=HLVx.out.blk.cell (i:=3) rfl
        go_simp
        refine kq hK (hHeld) (fun hHeld=>?_)
        clear x0
        refine rd1 6 (fun K hK=>?_)
        go_simp
        refine kq hK (⟨hHeld.1.alloc _,hHeld.2.1.alloc _,hHeld.2.2.alloc _⟩) (fun hHeld=>?_)
        exact mPnMO4
      go_simp
      refine kq hK (⟨hHeld.1.alloc _,hHeld.2.1.alloc _,hHeld.2.2.alloc _⟩) (fun hHeld=>?_)
      refine rd1 4 (fun K hK=>?_)
      have x0:=(HLVx.out.blk.alloc (.cells #[.string ⟨t2.text.toArray⟩,.int .i64 (x5.x:Nat),.int .i64 (x5.y:Nat),.int .i64 (x5.x2:Nat),.int .i64 (x5.y2:Nat),.int .i64 (x7:Nat),.int .i64 (at_:Nat)] 56)).cell (i:=3) rfl
      go_simp
      refine kq hK (hHeld) (fun hHeld=>?_)
      clear x0
      exact mPnMO4
    go_wp2_with fail
    exact ⟨rfl,.inr ⟨c,r,rfl,bad5 HO7.out HMb.out,chf_b (C8.out.trans HCb.out (al1 (.inl (by simp))))⟩⟩
  go_wp2_with fail
  exact ⟨rfl,.inr ⟨c,r,rfl,bad5 HO6.out HMb.out,chf_b (C7.out.trans HCb.out (al2 (.inl (by simp)) (.inr (by have OT4_:=OT4.out;show w.heap.size≤T4;omega))))⟩⟩):G:=h
theorem mPnMO6 {G:Prop} (h:G:=by
  have C4:=hd (C3.out.trans HC5.out (al1 (.inl (by simp))))
  have HO5:=hd (good5 HO2.out HM5.out)
  refine kq hK (⟨HBL_4.out,HBP_4.out⟩) (fun hHeld=>?_)
  refine tq 6 ?_
  refine rd1 8 (fun K hK=>?_)
  have NBL_T4:BL≠T4:=by have h1:=HOBL.out;have OT4_:=OT4.out;omega
  have NT4_BL:T4≠BL:=NBL_T4.symm
  have NBP_T4:BP≠T4:=by have h1:=HOBP.out;have OT4_:=OT4.out;omega
  have NT4_BP:T4≠BP:=NBP_T4.symm
  obtain ⟨cT4_0,cT4_1,cT4_2,cT4_3,cT4_4,cT4_5,cT4_6⟩:=HT4_4.out.c7
  obtain ⟨cT4_f0,cT4_f1,cT4_f2,cT4_f3,cT4_f4,cT4_f5,cT4_f6⟩:=HT4_4.out.f7
  go_simp
  refine kq hK (⟨(((((((HBL_4.out.other _ _ NBL_T4).other _ _ NBL_T4).other _ _ NBL_T4).other _ _ NBL_T4).other _ _ NBL_T4).other _ _ NBL_T4).other _ _ NBL_T4),(((((((HBP_4.out.other _ _ NBP_T4).other _ _ NBP_T4).other _ _ NBP_T4).other _ _ NBP_T4).other _ _ NBP_T4).other _ _ NBP_T4).other _ _ NBP_T4)⟩) (fun hHeld=>?_)
  clear cT4_0 cT4_1 cT4_2 cT4_3 cT4_4 cT4_5 cT4_6 cT4_f0 cT4_f1 cT4_f2 cT4_f3 cT4_f4 cT4_f5 cT4_f6
  obtain ⟨W5,hW⟩:∃ W,W=(((((((wb.setCell ⟨T4,0,none⟩ (.string ⟨t2.text.toArray⟩)).setCell ⟨T4,1,none⟩ (.int .i64 (x5.x:Nat))).setCell ⟨T4,2,none⟩ (.int .i64 (x5.y:Nat))).setCell ⟨T4,3,none⟩ (.int .i64 (x5.x2:Nat))).setCell ⟨T4,4,none⟩ (.int .i64 (x5.y2:Nat))).setCell ⟨T4,5,none⟩ (.int .i64 0)).setCell ⟨T4,6,none⟩ (.int .i64 (at_:Nat))):=⟨_,rfl⟩
  rw[← hW] at hHeld ⊢
  have HBL_5:=hd (HBL_4.out.o7 hW NBL_T4)
  have HBP_5:=hd (HBP_4.out.o7 hW NBP_T4)
  have HT4_5:Hid (Blk W5 T4 [.string ⟨t2.text.toArray⟩,.int .i64 (x5.x:Nat),.int .i64 (x5.y:Nat),.int .i64 (x5.x2:Nat),.int .i64 (x5.y2:Nat),.int .i64 0,.int .i64 (at_:Nat)] 56):=hd (by rw[hW];exact (((((((HT4_4.out.set 0 (.string ⟨t2.text.toArray⟩)).set 1 (.int .i64 (x5.x:Nat))).set 2 (.int .i64 (x5.y:Nat))).set 3 (.int .i64 (x5.x2:Nat))).set 4 (.int .i64 (x5.y2:Nat))).set 5 (.int .i64 0)).set 6 (.int .i64 (at_:Nat))))
  have C5:=hd (C4.out.s7 hW (.inr (by have OT4_:=OT4.out;show w.heap.size≤T4;omega)))
  have KP_5:=hd ((Chg.refl [BL,BP,T4] wb).s7 hW (.inl (by simp)))
  clear hW
  refine dq ?_
  clear hHeld
  have cBP_0:=HBP_5.out.cell (i:=0) rfl
  go_wp2_with fail
  refine must_two (hd (HP5.out.keep KP_5.out (al3 BBL.out BBP.out BT4.out))) [104,111,108,100,115] (fun r6 w6 HM6 HP6 HC6=>?_) (fun c r w9 HMb HCb=>?_)
  · skip
    exact mPnMO0
  go_wp2_with fail
  exact ⟨rfl,.inr ⟨c,r,rfl,bad5 HO5.out HMb.out,chf_b (C5.out.trans HCb.out (al1 (.inl (by simp))))⟩⟩):G:=h
theorem it2_spec (w:World) (b en BL BP D B:Nat) (l:List Tk) (L:Pn.Lv) (u1 u2 u3 u4 u5:Value) (HP:Hid (Pp w b l en)) (HLV:Hid (LevAt B D L u1 u2 u3 u4 u5 w)) (HBL:Hid (Blk w BL [.pointer (some ⟨D,0,none⟩)] 134)) (HBP:Hid (Blk w BP [.pointer (some ⟨b,0,none⟩)] 88))
 (HN:Hid (b < D∧D < BP∧BP < BL∧BL < B∧B≤w.heap.size)) (HS:Hid (L.areas.length≤1000000)) (at_:Nat) :
 Calls Tryz.prog 74 #[.int .i64 (at_:Nat),.pointer (some ⟨BP,0,none⟩),.pointer (some ⟨BL,0,none⟩)] w fun e w' =>
  (∃ x r v,e = .returned (.tuple #[])∧Pn.area at_ l = .ok x r∧Pp w' b r en∧LevAt B D { L with areas:=L.areas++[x] } u1 v u3 u4 u5 w'∧CHF B b D w w')∨(∃ c r,e = .panicked [{ v:=flt c r en,recovered:=false }]∧Pn.area at_ l = .bad c r∧CHF B b D w w'):=by
 obtain ⟨ii,hii,iz0,iz1,iz2⟩:=info_parts info_it2
 obtain ⟨ao,cap,hu⟩:=HLV.out.l2.form
 subst hu
 have HBW:Hid (b < w.heap.size):=hd HP.out.lt
 have HOBL:Hid (BL < w.heap.size):=hd HBL.out.lt
 have HOBP:Hid (BP < w.heap.size):=hd HBP.out.lt
 have BBL:Hid (b < BL):=hd (by have:=HN.out;omega)
 have BBP:Hid (b < BP):=hd (by have:=HN.out;omega)
 have NBL_b:BL≠b:=by have:=HN.out;omega
 have NBP_b:BP≠b:=by have:=HN.out;omega
 have NBL_D:BL≠D:=by have:=HN.out;omega
 have NBP_D:BP≠D:=by have:=HN.out;omega
 have HDb:Hid (D≠b):=hd (by have:=HN.out;omega)
 have HbB:Hid (b < B):=hd (by have:=HN.out;omega)
 have hsl:=HS.out
 go_enter Tryz.func74,Tryz.ntmps74
 have HO:Hid (Pn.area at_ l=_):=hd (Pn.area.eq_1 at_ l)
 go_upto_region 0 with fail
 refine wp_region_held_drew (S:=fun W'=>Blk W' BL [.pointer (some ⟨D,0,none⟩)] 134∧Blk W' BP [.pointer (some ⟨b,0,none⟩)] 88) (by kernel_rfl) ⟨HBL.out.drew,HBP.out.drew⟩ (fun hHeld=>?_)
 refine tq 0 ?_
 refine tq1 1 (fun w9 hSw=>hSw.2.cell (i:=0) rfl) ?_
 refine tq1 4 (fun w9 hSw=>hSw.2.cell (i:=0) rfl) ?_
 obtain ⟨z0,hz0⟩:∃ W,W=w.drew:=⟨_,rfl⟩
 rw[← hz0] at hHeld ⊢
 have HCz:Hid (Chg [] w z0):=hd (by rw[hz0];exact (Chg.refl _ _).drew)
 clear hz0
 have HBL_1:=hd (HCz.out.blk HBL.out (by simp))
 have HBP_1:=hd (HCz.out.blk HBP.out (by simp))
 have C1:=hd ((Chg.refl [b] w).trans HCz.out (by simp))
 have KP_1:=hd ((Chg.refl [BL,BP] w).trans HCz.out (by simp))
 refine rd2 2 7 (fun K hK=>?_) (fun K hK=>?_)
 · skip
   go_simp
   refine take_two (hd (HP.out.keep KP_1.out (al2 BBL.out BBP.out))) 1 (fun t2 r2 wn HM2 HP2 HC2=>?_) (fun c r w9 HMb HCb=>?_)
   · skip
     have HBL_2:=hd (HC2.out.blk HBL_1.out (by simp[NBL_b]))
     have HBP_2:=hd (HC2.out.blk HBP_1.out (by simp[NBP_b]))
     have C2:=hd (C1.out.trans HC2.out (al1 (.inl (by simp))))
     have HO2:=hd (good5 HO.out (name_ok HM2.out))
     refine kq hK (⟨HBL_2.out,HBP_2.out⟩) (fun hHeld=>?_)
     refine tq1 3 (fun w9 hSw=>field_text (.int .i64 (t2.kind:Nat)) (.string ⟨t2.text.toArray⟩) (.int .i64 (t2.n:Nat)) (.int .i64 (t2.at_:Nat)) w9) ?_
     refine rd2 5 7 (fun K hK=>?_) (fun K hK=>?_)
     · skip
       go_simp
       refine box_two (hd HP2.out) (fun x5 r5 wb HM5 HP5 HC5=>?_) (fun c r w9 HMb HCb=>?_)
       · skip
         have HBL_3:=hd (HC5.out.blk HBL_2.out (by simp[NBL_b]))
         have HBP_3:=hd (HC5.out.blk HBP_2.out (by simp[NBP_b]))
         have C3:=hd (C2.out.trans HC5.out (al1 (.inl (by simp))))
         have HO5:=hd (good5 HO2.out HM5.out)
         refine kq hK (⟨HBL_3.out,HBP_3.out⟩) (fun hHeld=>?_)
         refine tq 6 ?_
         refine rd1 7 (fun K hK=>?_)
         go_simp
         refine kq hK (⟨hHeld.1.alloc _,hHeld.2.alloc _⟩) (fun hHeld=>?_)
         obtain ⟨W4,hW⟩:∃ W,W=(wb.alloc (.cells #[.string ⟨#[]⟩,.int .i64 0,.int .i64 0,.int .i64 0,.int .i64 0,.int .i64 0,.int .i64 0] 56)):=⟨_,rfl⟩
         rw[← hW] at hHeld ⊢
         obtain ⟨T4,hT4⟩:∃ T,T=wb.heap.size:=⟨_,rfl⟩
         try rw[← hT4]
         have OT4:Hid (w.heap.size≤T4):=hd (by rw[hT4];exact C3.out.size)
         have HBL_4:=hd (HBL_3.out.alE hW)
         have HBP_4:=hd (HBP_3.out.alE hW)
         have HT4_4:Hid (Blk W4 T4 [.string ⟨#[]⟩,.int .i64 0,.int .i64 0,.int .i64 0,.int .i64 0,.int .i64 0,.int .i64 0] 56):=hd (by
          have h1:=Blk.new wb [.string ⟨#[]⟩,.int .i64 0,.int .i64 0,.int .i64 0,.int .i64 0,.int .i64 0,.int .i64 0] 56
          have h2:wb.heap.size=T4:=by simp[hT4]
          rw[h2] at h1
          rw[hW]
          exact h1)
         have BT4:Hid (b < T4):=hd (by have h1:=HBW.out;have OT4_:=OT4.out;omega)
         have C4:=hd (C3.out.alE hW)
         have KP_4:Hid (Chg [BL,BP] wb W4):=hd (by rw[hW];exact ((Chg.refl [BL,BP] wb).alloc _))
         have MP_T4:Hid (wb.heap.size≤T4):=hd (by rw[hT4];have h1:=(Chg.refl [BL,BP] wb).size;omega)
         clear hW hT4
         refine rd1 8 (fun K hK=>?_)
         have NBL_T4:BL≠T4:=by have h1:=HOBL.out;have OT4_:=OT4.out;omega
         have NT4_BL:T4≠BL:=NBL_T4.symm
         have NBP_T4:BP≠T4:=by have h1:=HOBP.out;have OT4_:=OT4.out;omega
         have NT4_BP:T4≠BP:=NBP_T4.symm
         obtain ⟨cT4_0,cT4_1,cT4_2,cT4_3,cT4_4,cT4_5,cT4_6⟩:=HT4_4.out.c7
         obtain ⟨cT4_f0,cT4_f1,cT4_f2,cT4_f3,cT4_f4,cT4_f5,cT4_f6⟩:=HT4_4.out.f7
         go_simp
         refine kq hK (⟨(((((((HBL_4.out.other _ _ NBL_T4).other _ _ NBL_T4).other _ _ NBL_T4).other _ _ NBL_T4).other _ _ NBL_T4).other _ _ NBL_T4).other _ _ NBL_T4),(((((((HBP_4.out.other _ _ NBP_T4).other _ _ NBP_T4).other _ _ NBP_T4).other _ _ NBP_T4).other _ _ NBP_T4).other _ _ NBP_T4).other _ _ NBP_T4)⟩) (fun hHeld=>?_)
         clear cT4_0 cT4_1 cT4_2 cT4_3 cT4_4 cT4_5 cT4_6 cT4_f0 cT4_f1 cT4_f2 cT4_f3 cT4_f4 cT4_f5 cT4_f6
         obtain ⟨W5,hW⟩:∃ W,W=(((((((W4.setCell ⟨T4,0,none⟩ (.string ⟨t2.text.toArray⟩)).setCell ⟨T4,1,none⟩ (.int .i64 (x5.x:Nat))).setCell ⟨T4,2,none⟩ (.int .i64 (x5.y:Nat))).setCell ⟨T4,3,none⟩ (.int .i64 (x5.x2:Nat))).setCell ⟨T4,4,none⟩ (.int .i64 (x5.y2:Nat))).setCell ⟨T4,5,none⟩ (.int .i64 0)).setCell ⟨T4,6,none⟩ (.int .i64 (at_:Nat))):=⟨_,rfl⟩
         rw[← hW] at hHeld ⊢
         have HBL_5:=hd (HBL_4.out.o7 hW NBL_T4)
         have HBP_5:=hd (HBP_4.out.o7 hW NBP_T4)
         have HT4_5:Hid (Blk W5 T4 [.string ⟨t2.text.toArray⟩,.int .i64 (x5.x:Nat),.int .i64 (x5.y:Nat),.int .i64 (x5.x2:Nat),.int .i64 (x5.y2:Nat),.int .i64 0,.int .i64 (at_:Nat)] 56):=hd (by rw[hW];exact (((((((HT4_4.out.set 0 (.string ⟨t2.text.toArray⟩)).set 1 (.int .i64 (x5.x:Nat))).set 2 (.int .i64 (x5.y:Nat))).set 3 (.int .i64 (x5.x2:Nat))).set 4 (.int .i64 (x5.y2:Nat))).set 5 (.int .i64 0)).set 6 (.int .i64 (at_:Nat))))
         have C5:=hd (C4.out.s7 hW (.inr (by have OT4_:=OT4.out;show w.heap.size≤T4;omega)))
         have KP_5:=hd (KP_4.out.s7 hW (.inr (by have:=MP_T4.out;omega)))
         clear hW
         refine dq ?_
         clear hHeld
         have cBP_0:=HBP_5.out.cell (i:=0) rfl
         go_wp2_with fail
         refine must_two (hd (HP5.out.keep KP_5.out (al2 BBL.out BBP.out))) [104,111,108,100,115] (fun r6 w6 HM6 HP6 HC6=>?_) (fun c r w9 HMb HCb=>?_)
         · skip
           have NT4_b:T4≠b:=by have h1:=HBW.out;have OT4_:=OT4.out;omega
           have Nb_T4:b≠T4:=NT4_b.symm
           exact mPnMO0
         go_wp2_with fail
         exact ⟨rfl,.inr ⟨c,r,rfl,bad5 HO5.out HMb.out,chf_b (C5.out.trans HCb.out (al1 (.inl (by simp))))⟩⟩
       go_wp2_with fail
       exact ⟨rfl,.inr ⟨c,r,rfl,bad5 HO2.out HMb.out,chf_b (C2.out.trans HCb.out (al1 (.inl (by simp))))⟩⟩
     go_simp
     refine kq hK (⟨hHeld.1.alloc _,hHeld.2.alloc _⟩) (fun hHeld=>?_)
     obtain ⟨W3,hW⟩:∃ W,W=(wn.alloc (.cells #[.string ⟨#[]⟩,.int .i64 0,.int .i64 0,.int .i64 0,.int .i64 0,.int .i64 0,.int .i64 0] 56)):=⟨_,rfl⟩
     rw[← hW] at hHeld ⊢
     obtain ⟨T4,hT4⟩:∃ T,T=wn.heap.size:=⟨_,rfl⟩
     try rw[← hT4]
     have OT4:Hid (w.heap.size≤T4):=hd (by rw[hT4];exact C2.out.size)
     have HBL_3:=hd (HBL_2.out.alE hW)
     have HBP_3:=hd (HBP_2.out.alE hW)
     have HT4_3:Hid (Blk W3 T4 [.string ⟨#[]⟩,.int .i64 0,.int .i64 0,.int .i64 0,.int .i64 0,.int .i64 0,.int .i64 0] 56):=hd (by
      have h1:=Blk.new wn [.string ⟨#[]⟩,.int .i64 0,.int .i64 0,.int .i64 0,.int .i64 0,.int .i64 0,.int .i64 0] 56
      have h2:wn.heap.size=T4:=by simp[hT4]
      rw[h2] at h1
      rw[hW]
      exact h1)
     have BT4:Hid (b < T4):=hd (by have h1:=HBW.out;have OT4_:=OT4.out;omega)
     have C3:=hd (C2.out.alE hW)
     have KP_3:Hid (Chg [BL,BP] wn W3):=hd (by rw[hW];exact ((Chg.refl [BL,BP] wn).alloc _))
     clear hW hT4
     refine rd1 5 (fun K hK=>?_)
     go_simp
     refine box_two (hd (HP2.out.keep KP_3.out (al2 BBL.out BBP.out))) (fun x5 r5 wb HM5 HP5 HC5=>?_) (fun c r w9 HMb HCb=>?_)
     · skip
       have NT4_b:T4≠b:=by have h1:=HBW.out;have OT4_:=OT4.out;omega
       have Nb_T4:b≠T4:=NT4_b.symm
       have HBL_4:=hd (HC5.out.blk HBL_3.out (by simp[NBL_b]))
       have HBP_4:=hd (HC5.out.blk HBP_3.out (by simp[NBP_b]))
       have HT4_4:Hid (Blk wb T4 [.string ⟨#[]⟩,.int .i64 0,.int .i64 0,.int .i64 0,.int .i64 0,.int .i64 0,.int .i64 0] 56):=hd (HC5.out.blk HT4_3.out (by simp[NT4_b]))
       exact mPnMO6
     go_wp2_with fail
     exact ⟨rfl,.inr ⟨c,r,rfl,bad5 HO2.out HMb.out,chf_b (C3.out.trans HCb.out (al1 (.inl (by simp))))⟩⟩
   go_wp2_with fail
   exact ⟨rfl,.inr ⟨c,r,rfl,bad5 HO.out (name_bad HMb.out),chf_b (C1.out.trans HCb.out (al1 (.inl (by simp))))⟩⟩
 go_simp
 refine kq hK (⟨hHeld.1.alloc _,hHeld.2.alloc _⟩) (fun hHeld=>?_)
 obtain ⟨W2,hW⟩:∃ W,W=(z0.alloc (.cells #[.string ⟨#[]⟩,.int .i64 0,.int .i64 0,.int .i64 0,.int .i64 0,.int .i64 0,.int .i64 0] 56)):=⟨_,rfl⟩
 rw[← hW] at hHeld ⊢
 obtain ⟨T4,hT4⟩:∃ T,T=z0.heap.size:=⟨_,rfl⟩
 try rw[← hT4]
 have OT4:Hid (w.heap.size≤T4):=hd (by rw[hT4];exact C1.out.size)
 have HBL_2:=hd (HBL_1.out.alE hW)
 have HBP_2:=hd (HBP_1.out.alE hW)
 have HT4_2:Hid (Blk W2 T4 [.string ⟨#[]⟩,.int .i64 0,.int .i64 0,.int .i64 0,.int .i64 0,.int .i64 0,.int .i64 0] 56):=hd (by
  have h1:=Blk.new z0 [.string ⟨#[]⟩,.int .i64 0,.int .i64 0,.int .i64 0,.int .i64 0,.int .i64 0,.int .i64 0] 56
  have h2:z0.heap.size=T4:=by simp[hT4]
  rw[h2] at h1
  rw[hW]
  exact h1)
 have BT4:Hid (b < T4):=hd (by have h1:=HBW.out;have OT4_:=OT4.out;omega)
 have C2:=hd (C1.out.alE hW)
 have KP_2:=hd (KP_1.out.alE hW)
 clear hW hT4
 refine rd1 2 (fun K hK=>?_)
 go_simp
 refine take_two (hd (HP.out.keep KP_2.out (al2 BBL.out BBP.out))) 1 (fun t2 r2 wn HM2 HP2 HC2=>?_) (fun c r w9 HMb HCb=>?_)
 · skip
   have NT4_b:T4≠b:=by have h1:=HBW.out;have OT4_:=OT4.out;omega
   have Nb_T4:b≠T4:=NT4_b.symm
   have HBL_3:=hd (HC2.out.blk HBL_2.out (by simp[NBL_b]))
   have HBP_3:=hd (HC2.out.blk HBP_2.out (by simp[NBP_b]))
   have HT4_3:Hid (Blk wn T4 [.string ⟨#[]⟩,.int .i64 0,.int .i64 0,.int .i64 0,.int .i64 0,.int .i64 0,.int .i64 0] 56):=hd (HC2.out.blk HT4_2.out (by simp[NT4_b]))
   have C3:=hd (C2.out.trans HC2.out (al1 (.inl (by simp))))
   have HO2:=hd (good5 HO.out (name_ok HM2.out))
   refine kq hK (⟨HBL_3.out,HBP_3.out⟩) (fun hHeld=>?_)
   refine tq1 3 (fun w9 hSw=>field_text (.int .i64 (t2.kind:Nat)) (.string ⟨t2.text.toArray⟩) (.int .i64 (t2.n:Nat)) (.int .i64 (t2.at_:Nat)) w9) ?_
   refine rd1 5 (fun K hK=>?_)
   go_simp
   refine box_two (hd HP2.out) (fun x5 r5 wb HM5 HP5 HC5=>?_) (fun c r w9 HMb HCb=>?_)
   · skip
     have HBL_4:=hd (HC5.out.blk HBL_3.out (by simp[NBL_b]))
     have HBP_4:=hd (HC5.out.blk HBP_3.out (by simp[NBP_b]))
     have HT4_4:=hd (HC5.out.blk HT4_3.out (by simp[NT4_b]))
     exact mPnMO6
   go_wp2_with fail
   exact ⟨rfl,.inr ⟨c,r,rfl,bad5 HO2.out HMb.out,chf_b (C3.out.trans HCb.out (al1 (.inl (by simp))))⟩⟩
 go_wp2_with fail
 exact ⟨rfl,.inr ⟨c,r,rfl,bad5 HO.out (name_bad HMb.out),chf_b (C2.out.trans HCb.out (al1 (.inl (by simp))))⟩⟩
end Go.Proofs.YtglepipfdmphhaaGreatDoor
