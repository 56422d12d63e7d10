/-
 Layer 13: the contract of Lex.
-/
import Derived.Test.YtglepipfdmphhaaGreatDoorLxI
set_option maxRecDepth 100000
set_option maxHeartbeats 40000000
namespace Go.Proofs.YtglepipfdmphhaaGreatDoor
set_option linter.unusedVariables false
set_option linter.unusedSimpArgs false
open Go Go.RowKit Go.Shelf
attribute [local go_sem] Oper.semAt_some
attribute [local irreducible] Lx.tab Lx.tab0 Lx.cls
namespace Lx
theorem fin_all:∀ (l:List (Tk × Nat)) (k:Nat) (out:List Tk),(∀ x ∈ l,x.2=0)→k+l.length≤5000→fin k out l=(out++l.map Prod.fst,0,0)
 | [],k,out,_,_=>by simp[fin]
 | (t,e) :: r,k,out,h,hk=>by
  have he:e=0:=h (t,e) (by simp)
  simp only[List.length_cons] at hk
  unfold fin
  rw[if_neg (by simpa using he),if_neg (by omega),fin_all r (k+1) _ (fun x hx=>h x (by simp[hx])) (by omega)]
  simp
theorem fin_stop:∀ (p:List (Tk × Nat)) (x:Tk × Nat) (post:List (Tk × Nat)) (k:Nat) (out:List Tk),(∀ y ∈ p,y.2=0)→k+p.length≤5000 →
 fin k out (p++x :: post)=if x.2≠0 then (([]:List Tk),x.2,(x.1.at_:Int)) else if k+p.length=5000 then (([]:List Tk),3,(x.1.at_:Int)) else fin (k+p.length+1) (out++p.map Prod.fst++[x.1]) post
 | [],(t,e),post,k,out,_,_=>by simp[fin]
 | (t,e) :: r,x,post,k,out,h,hk=>by
  have he:e=0:=h (t,e) (by simp)
  simp only[List.length_cons] at hk ⊢
  rw[List.cons_append,fin,if_neg (by simpa using he),if_neg (by omega),fin_stop r x post (k+1) _ (fun y hy=>h y (by simp[hy])) (by omega)]
  simp only[show k+1+r.length=k+(r.length+1) by omega,List.map_cons,List.append_assoc,List.singleton_append,List.cons_append,List.nil_append]
end Lx
theorem lex_long (w:World) (s:Bytes) (hs:20000 < s.length) (hs2:s.length≤1000000) :
 Calls Tryz.prog 20 #[.string ⟨s.toArray⟩] w fun e w'=>e = .returned (.tuple #[.slice none 0 0,.int .i64 3,.int .i64 (-1)])∧Chg [] w w':=by
 obtain ⟨sb,hsb⟩:∃ sb:ByteArray,sb=⟨s.toArray⟩:=⟨_,rfl⟩
 have hsz:(20000:Int) < (sb.size:Int):=by rw[hsb];show (20000:Int) < (s.toArray.size:Int);rw[List.size_toArray];omega
 rw[← hsb]
 clear hsb hs hs2
 go_enter Tryz.func20,Tryz.ntmps20
 go_wp2_with fail
 refine bodyPost_ret (v:=.tuple #[.slice none 0 0,.int .i64 3,.int .i64 (-1)]) ?_ rfl ⟨rfl,?_⟩
 · simp[results,Tryz.results20,go_sem]
 exact (((Chg.refl _ _).alloc _).alloc _).alloc _
def Mid (b5:Nat) (w0:World) (pre:List (Lx.Tk × Nat)) (W:World):Prop:=∃ v,Blk W b5 [v] 83∧W.ownsRow 0 93 4 v pre.length ((pre.map Prod.fst).flatMap tkc)∧(∀ b ∈ v.ownBlock.toList,w0.heap.size≤b)∧Chg [b5] w0 W∧(∀ x ∈ pre,x.2=0)∧pre.length≤5000
def Out (b2 b3 b4 b5:Nat) (w0:World) (pre:List (Lx.Tk × Nat)) (W:World):Prop:=∃ (p:List (Lx.Tk × Nat)) (x:Lx.Tk × Nat) (er:Nat),pre=p++[x]∧(∀ y ∈ p,y.2=0)∧p.length≤5000∧((x.2≠0∧er=x.2)∨(x.2=0∧p.length=5000∧er=3)) ∧
 Blk W b2 [.slice none 0 0] 83∧Blk W b3 [.int .i64 er] 29∧Blk W b4 [.int .i64 x.1.at_] 3∧Chg [b2,b3,b4,b5] w0 W
theorem chg_put {own:List Nat} {w0 W:World} {l:Nat} {o':Obj} (h:Chg own w0 W) (hl:w0.heap.size≤l):Chg own w0 (W.putObj l o') :=
 ⟨h.os,h.tape,h.output,by simpa using h.size,fun k hk hn=>(World.putObj_heap_other (by omega)).trans (h.block k hk hn)⟩
theorem mid_cellish {b5:Nat} {w0:World} (hb:b5 < w0.heap.size) (pre:List (Lx.Tk × Nat)):Cellish w0.heap.size (Mid b5 w0 pre):=by
 refine ⟨?_,?_,?_⟩
 · rintro W o ⟨v,h1,h2,h3,h4,h5⟩
   exact ⟨v,h1.alloc _,row_keptB h2 ((Chg.refl _ _).alloc _),h3,h4.alloc _,h5⟩
 · rintro W W' ⟨v,h1,h2,h3,h4,h5⟩ hg
   exact ⟨v,(grown0_chg hg).blk h1 (by simp),row_keptB h2 (grown0_chg hg),h3,h4.trans (grown0_chg hg) (by simp),h5⟩
 rintro W l o o' hl ho hoc ⟨v,h1,h2,h3,h4,h5⟩
 refine ⟨v,put_cells ho hoc h1,⟨h2.1,?_⟩,h3,chg_put h4 hl,h5⟩
 rcases h2.2 with h0|⟨g,cap,cur,rfl,hb,hg,rest⟩
 · exact .inl h0
 exact .inr ⟨g,cap,cur,rfl,hb,put_cells ho hoc hg,rest⟩
theorem out_cellish {b2 b3 b4 b5:Nat} {w0:World} (pre:List (Lx.Tk × Nat)):Cellish w0.heap.size (Out b2 b3 b4 b5 w0 pre):=by
 refine ⟨?_,?_,?_⟩
 · rintro W o ⟨p,x,er,h1,h2,h3,h4,h5,h6,h7,h8⟩
   exact ⟨p,x,er,h1,h2,h3,h4,h5.alloc _,h6.alloc _,h7.alloc _,h8.alloc _⟩
 · rintro W W' ⟨p,x,er,h1,h2,h3,h4,h5,h6,h7,h8⟩ hg
   have hc:=grown0_chg hg
   exact ⟨p,x,er,h1,h2,h3,h4,hc.blk h5 (by simp),hc.blk h6 (by simp),hc.blk h7 (by simp),h8.trans hc (by simp)⟩
 rintro W l o o' hl ho hoc ⟨p,x,er,h1,h2,h3,h4,h5,h6,h7,h8⟩
 exact ⟨p,x,er,h1,h2,h3,h4,put_cells ho hoc h5,put_cells ho hoc h6,put_cells ho hoc h7,chg_put h8 hl⟩
theorem mid_wf {b5:Nat} {w0 W:World} {pre:List (Lx.Tk × Nat)} (hb:b5 < w0.heap.size) (h:Mid b5 w0 pre W):WfP 0 b5 b5 W:=by
 obtain ⟨v,h1,h2,h3,h4,h5⟩:=h
 refine ⟨h1.lt,h1.lt,Nat.zero_le _,Nat.zero_le _,fun u k hu hk=>⟨Nat.zero_le _,?_⟩⟩
 rw[h1.cell (i:=0) rfl] at hu
 cases hu
 rcases h2.2 with ⟨rfl,_⟩|⟨g,cap,cur,rfl,_,hg,_⟩
 · cases hk
 simp[Value.ownBlock] at hk
 subst hk
 exact (Array.getElem?_eq_some_iff.1 hg).1
theorem kp_alloc {bo:Nat} {W:World} (o:Obj) (hb:bo < W.heap.size):KpP bo bo W (W.alloc o):=by
 refine ⟨fun k q n1 n2 hn hq hc=>(Below.heap_alloc W o k (Array.getElem?_eq_some_iff.1 hq).1).trans hq,fun v' k hv hk=>.inl ⟨v',?_,hk⟩,by simp⟩
 exact (World.cell?_of_block (a:=⟨bo,0,none⟩) (Below.heap_alloc W o bo hb)).symm.trans hv
theorem mid_step {b5:Nat} {w0 W w10:World} {v5:Value} {pre:List (Lx.Tk × Nat)} {x:Lx.Tk × Nat} {g9 cap9:Nat}
 (HB5:Hid (Blk W b5 [v5] 83)) (HR5:Hid (W.ownsRow 0 93 4 v5 pre.length ((pre.map Prod.fst).flatMap tkc))) (HO5:Hid (∀ b ∈ v5.ownBlock.toList,w0.heap.size≤b)) (HC5:Hid (Chg [b5] w0 W)) (HZ:Hid ((∀ y ∈ pre,y.2=0)∧pre.length≤5000)) (hx:x.2=0) (hl:pre.length≠5000)
 (HOW:Hid (b5 < w0.heap.size)) (hown:w10.ownsRow 0 93 4 (.slice (some ⟨g9,0,none⟩) (pre.length+1) cap9) (pre.length+1) ((pre.map Prod.fst).flatMap tkc++tkc x.1))
 (hgrow:(W.alloc (.cells (tkc x.1).toArray 93)).grownBy w10 v5.ownBlock) (hat:v5.ownBlock=some g9∨g9=W.heap.size+1) (hlt:g9 < w10.heap.size) :
 KeepsFrom w0.heap.size W (w10.setCell ⟨b5,0,none⟩ (.slice (some ⟨g9,0,none⟩) (pre.length+1) cap9))∧KpP b5 b5 W (w10.setCell ⟨b5,0,none⟩ (.slice (some ⟨g9,0,none⟩) (pre.length+1) cap9)) ∧
  Mid b5 w0 (pre++[x]) (w10.setCell ⟨b5,0,none⟩ (.slice (some ⟨g9,0,none⟩) (pre.length+1) cap9)):=by
 have h1:Chg [] W (W.alloc (.cells (tkc x.1).toArray 93)):=(Chg.refl _ _).alloc _
 have h2:Chg v5.ownBlock.toList W w10:=(h1.mono (by simp)).grown hgrow (fun k hk=>.inl (by rw[hk];simp))
 have h3:Chg (b5 :: v5.ownBlock.toList) W (w10.setCell ⟨b5,0,none⟩ (.slice (some ⟨g9,0,none⟩) (pre.length+1) cap9)):=(h2.mono (fun k hk=>by simp[hk])).setCell _ _ (.inl (by simp))
 have hnb:b5 ∉ v5.ownBlock.toList:=fun hm=>by have:=HO5.out b5 hm;have:=HOW.out;omega
 have hW0:=HC5.out.size
 have hg9:w0.heap.size≤g9:=by
  rcases hat with h|h
  · exact HO5.out g9 (by rw[h];simp)
  omega
 have hb11:=(h2.blk HB5.out hnb).set 0 (.slice (some ⟨g9,0,none⟩) (pre.length+1) cap9)
 refine ⟨⟨h3.size,fun k o hk0 ho hoc=>(h3.block k (Array.getElem?_eq_some_iff.1 ho).1 (fun hm=>?_)).trans ho⟩,⟨fun k o n1 _ hn ho hc=>?_,fun v' k hv' hk=>?_,h3.size⟩,_,hb11,?_,?_,HC5.out.trans h3 (fun k hk=>?_),?_,?_⟩
 · rcases List.mem_cons.1 hm with h|h
   · have:=HOW.out
     omega
   rcases HR5.out.2 with ⟨h0,_⟩|⟨g,cap,cur,h0,_,hg,_⟩
   · rw[h0] at h;simp[Value.ownBlock] at h
   rw[h0] at h
   simp[Value.ownBlock] at h
   subst h
   rw[ho] at hg
   cases hg
   cases hoc
 · refine (h3.block k (Array.getElem?_eq_some_iff.1 ho).1 (fun hm=>?_)).trans ho
   rcases List.mem_cons.1 hm with h|h
   · exact n1 h
   exact hn v5 (HB5.out.cell (i:=0) rfl) (by simpa using h)
 · rw[hb11.cell (i:=0) rfl] at hv'
   cases hv'
   simp[Value.ownBlock] at hk
   subst hk
   rcases hat with h|h
   · exact .inl ⟨v5,HB5.out.cell (i:=0) rfl,h⟩
   exact .inr ⟨by omega,by simpa using hlt⟩
 · have hr:(w10.setCell ⟨b5,0,none⟩ (.slice (some ⟨g9,0,none⟩) (pre.length+1) cap9)).ownsRow 0 93 4 (.slice (some ⟨g9,0,none⟩) (pre.length+1) cap9) (pre.length+1) ((pre.map Prod.fst).flatMap tkc++tkc x.1):=by
    refine ⟨hown.1,?_⟩
    rcases hown.2 with h0|⟨g,cap,cur,h0,hb,hg,rest⟩
    · exact .inl h0
    refine .inr ⟨g,cap,cur,h0,hb,(heap_setCell_other w10 _ g _ ?_).trans hg,rest⟩
    simp at h0
    have:=HOW.out
    show g≠b5
    omega
   simp only[List.length_append,List.length_cons,List.length_nil,List.map_append,List.map_cons,List.map_nil,List.flatMap_append,List.flatMap_cons,List.flatMap_nil,List.append_nil]
   exact hr
 · intro b hb
   simp[Value.ownBlock] at hb
   subst hb
   exact hg9
 · rcases List.mem_cons.1 hk with h|h
   · exact .inl (by simp[h])
   exact .inr (HO5.out k h)
 · intro y hy
   rcases List.mem_append.1 hy with h|h
   · exact HZ.out.1 y h
   simp at h
   rw[h]
   exact hx
 have:=HZ.out.2
 simp
 omega
theorem out_step {b2 b3 b4 b5:Nat} {w0 W:World} {pre:List (Lx.Tk × Nat)} {x:Lx.Tk × Nat} {er:Nat} (hn:b2≠b3∧b2≠b4∧b2≠b5∧b3≠b4∧b3≠b5∧b4≠b5)
 (H2:Blk w0 b2 [.slice none 0 0] 83) (H3:Blk w0 b3 [.int .i64 0] 29) (H4:Blk w0 b4 [.int .i64 0] 3) (HC5:Chg [b5] w0 W) (HZ:(∀ y ∈ pre,y.2=0)∧pre.length≤5000)
 (he:(x.2≠0∧er=x.2)∨(x.2=0∧pre.length=5000∧er=3)) :
 KeepsFrom w0.heap.size W (((W.drew.setCell ⟨b2,0,none⟩ (.slice none 0 0)).setCell ⟨b3,0,none⟩ (.int .i64 er)).setCell ⟨b4,0,none⟩ (.int .i64 x.1.at_)) ∧
 Out b2 b3 b4 b5 w0 (pre++[x]) (((W.drew.setCell ⟨b2,0,none⟩ (.slice none 0 0)).setCell ⟨b3,0,none⟩ (.int .i64 er)).setCell ⟨b4,0,none⟩ (.int .i64 x.1.at_)):=by
 obtain ⟨n1,n2,n3,n4,n5,n6⟩:=hn
 have k2:=HC5.blk H2 (by simpa using n3)
 have k3:=HC5.blk H3 (by simpa using n5)
 have k4:=HC5.blk H4 (by simpa using n6)
 have hc:Chg [b2,b3,b4] W (((W.drew.setCell ⟨b2,0,none⟩ (.slice none 0 0)).setCell ⟨b3,0,none⟩ (.int .i64 er)).setCell ⟨b4,0,none⟩ (.int .i64 x.1.at_)) :=
  ((((Chg.refl _ _).drew).setCell _ _ (.inl (by simp))).setCell _ _ (.inl (by simp))).setCell _ _ (.inl (by simp))
 refine ⟨⟨hc.size,fun k o hk0 ho hoc=>(hc.block k (Array.getElem?_eq_some_iff.1 ho).1 (fun hm=>?_)).trans ho⟩,pre,x,er,rfl,HZ.1,HZ.2,he,?_,?_,(k4.drew.other _ _ (Ne.symm n2) |>.other _ _ (Ne.symm n4)).set 0 _,(HC5.mono (by simp)).trans hc (fun k hk=>?_)⟩
 · have:=H2.lt
   have:=H3.lt
   have:=H4.lt
   simp at hm
   omega
 · exact ((k2.drew.set 0 _).other _ _ n1).other _ _ n2
 · exact ((k3.drew.other _ _ (Ne.symm n1)).set 0 _).other _ _ n4
 simp at hk
 rcases hk with h|h|h <;> exact .inl (by simp[h])
theorem owns_setCell {w:World} {base:Nat} {e:TypeId} {size:Nat} {v:Value} {n:Nat} {xs:List Value} {a:Addr} {u:Value} (h:w.ownsRow base e size v n xs) (hn:∀ b ∈ v.ownBlock.toList,b≠a.block):(w.setCell a u).ownsRow base e size v n xs:=by
 refine ⟨h.1,?_⟩
 rcases h.2 with h0|⟨g,cap,cur,rfl,hb,hg,rest⟩
 · exact .inl h0
 exact .inr ⟨g,cap,cur,rfl,hb,(heap_setCell_other w a g u (hn g (by simp[Value.ownBlock]))).trans hg,rest⟩
theorem owns_put {W:World} {base:Nat} {e:TypeId} {size:Nat} {v:Value} {n:Nat} {xs:List Value} {l:Nat} {o o':Obj} (hl:W.heap[l]? = some o) (ho:o.isCells=false) (h:W.ownsRow base e size v n xs):(W.putObj l o').ownsRow base e size v n xs:=by
 refine ⟨h.1,?_⟩
 rcases h.2 with h0|⟨g,cap,cur,rfl,hb,hg,rest⟩
 · exact .inl h0
 exact .inr ⟨g,cap,cur,rfl,hb,put_cells hl ho hg,rest⟩
theorem mLxJ0 {G:Prop} (h:G:=by
  refine hK _ _ ?_
  clear hK K
  refine wpAny_all (rs:=[6]) (by kernel_rfl) (by decide) (AllReady.cons rfl (fun K hK=>?_) AllReady.nil)
  · go_simp
    refine hK _ _ ?_
    clear hK K
    refine wpAny_all (rs:=[7]) (by kernel_rfl) (by decide) (AllReady.cons rfl (fun K hK=>?_) AllReady.nil)
    · go_simp
      refine hK _ _ ?_
      clear hK K
      refine wpAny_done (by kernel_rfl) ?_ _
      gi_wp2
      exact hfin):G:=h
theorem mLxJ1 {G:Prop} (h:G:=by
  refine hK _ _ ?_
  clear hK K
  refine wpAny_all (rs:=[4,6]) (by kernel_rfl) (by decide) (AllReady.cons rfl (fun K hK=>?_) (AllReady.cons rfl (fun K hK=>?_) AllReady.nil))
  · go_simp
    exact mLxJ0
  go_simp
  refine hK _ _ ?_
  clear hK K
  refine wpAny_all (rs:=[4]) (by kernel_rfl) (by decide) (AllReady.cons rfl (fun K hK=>?_) AllReady.nil)
  · go_simp
    refine hK _ _ ?_
    clear hK K
    refine wpAny_all (rs:=[7]) (by kernel_rfl) (by decide) (AllReady.cons rfl (fun K hK=>?_) AllReady.nil)
    · go_simp
      refine hK _ _ ?_
      clear hK K
      refine wpAny_done (by kernel_rfl) ?_ _
      gi_wp2
      exact hfin):G:=h
theorem mLxJ2 {G:Prop} (h:G:=by
  refine hK _ _ ?_
  clear hK K
  refine wpAny_all (rs:=[5]) (by kernel_rfl) (by decide) (AllReady.cons rfl (fun K hK=>?_) AllReady.nil)
  · go_simp
    refine hK _ _ ?_
    clear hK K
    refine wpAny_done (by kernel_rfl) ?_ _
    gi_wp2
    exact hfin):G:=h
theorem lex_short (w:World) (s:Bytes) (hs:s.length≤20000) :
 Calls Tryz.prog 20 #[.string ⟨s.toArray⟩] w fun e w'=>∃ v,e = .returned (.tuple #[v,.int .i64 (Lx.lex s).2.1,.int .i64 (Lx.lex s).2.2])∧TokS w' v (Lx.lex s).1∧Chg [] w w':=by
 obtain ⟨sb,hsb⟩:∃ sb:ByteArray,sb=⟨s.toArray⟩:=⟨_,rfl⟩
 have hsz:¬ (20000:Int) < (sb.size:Int):=by rw[hsb];show ¬ (20000:Int) < (s.toArray.size:Int);rw[List.size_toArray];omega
 rw[← hsb]
 have HSB:=Lib.hid hsb
 have HS:=Lib.hid hs
 have HLX:Hid (Lx.lex s=Lx.fin 0 [] (Lx.from' s 0)):=Lib.hid (by unfold Lx.lex;rw[if_neg (by omega)];rfl)
 clear hsb hs
 obtain ⟨n,hn⟩:∃ n:Nat,6≤n:=⟨6,Nat.le_refl _⟩
 refine callsIn_wide.1 (callsIn_of_wp_marks Tryz.func20 rfl trivial ?_ rfl:CallsIn Fence.wide n _ _ _ _ _)
 simp only[Tryz.ntmps20,List.size_toArray,List.length_cons,List.length_nil,Nat.reduceAdd,Nat.reduceSub,Array.replicate_succ,Array.replicate_zero,List.push_toArray,List.append_toArray,List.nil_append,List.cons_append]
 gi_wp2
 have hb2:=(((Blk.new w [.slice none 0 0] 83).alloc (.cells #[.int .i64 0] 29)).alloc (.cells #[.int .i64 0] 3)).alloc (.cells #[.slice none 0 0] 83)
 have hb3:=((Blk.new (w.alloc (.cells #[.slice none 0 0] 83)) [.int .i64 0] 29).alloc (.cells #[.int .i64 0] 3)).alloc (.cells #[.slice none 0 0] 83)
 have hb4:=(Blk.new ((w.alloc (.cells #[.slice none 0 0] 83)).alloc (.cells #[.int .i64 0] 29)) [.int .i64 0] 3).alloc (.cells #[.slice none 0 0] 83)
 have hb5:=Blk.new (((w.alloc (.cells #[.slice none 0 0] 83)).alloc (.cells #[.int .i64 0] 29)).alloc (.cells #[.int .i64 0] 3)) [.slice none 0 0] 83
 have hcc:Chg [] w ((((w.alloc (.cells #[.slice none 0 0] 83)).alloc (.cells #[.int .i64 0] 29)).alloc (.cells #[.int .i64 0] 3)).alloc (.cells #[.slice none 0 0] 83)):=((((Chg.refl _ _).alloc _).alloc _).alloc _).alloc _
 simp only[World.size_alloc] at hb3 hb4 hb5 ⊢
 obtain ⟨w1,hw1⟩:∃ w1,w1=((((w.alloc (.cells #[.slice none 0 0] 83)).alloc (.cells #[.int .i64 0] 29)).alloc (.cells #[.int .i64 0] 3)).alloc (.cells #[.slice none 0 0] 83)):=⟨_,rfl⟩
 rw[← hw1] at hb2 hb3 hb4 hb5 hcc ⊢
 clear hw1
 obtain ⟨b2,e2⟩:∃ b2,b2=w.heap.size:=⟨_,rfl⟩
 obtain ⟨b3,e3⟩:∃ b3,b3=b2+1:=⟨_,rfl⟩
 obtain ⟨b4,e4⟩:∃ b4,b4=b3+1:=⟨_,rfl⟩
 obtain ⟨b5,e5⟩:∃ b5,b5=b4+1:=⟨_,rfl⟩
 rw[← e2,← e3,← e4,← e5] at hb5 ⊢
 rw[← e2,← e3,← e4] at hb4
 rw[← e2,← e3] at hb3
 rw[← e2] at hb2
 refine ⟨trivial,(fun h0=>by cases h0),?_⟩
 refine (callsIn_wide.2 (tokens_spec _ _)).mono ?_
 rintro e w0 ⟨bt,bc,ba,rfl,hbt,hbc,hba,l1,l2,l3,hc0⟩
 have HB2:=Lib.hid (hc0.blk hb2 (by simp))
 have HB3:=Lib.hid (hc0.blk hb3 (by simp))
 have HB4:=Lib.hid (hc0.blk hb4 (by simp))
 have HB5:=Lib.hid (hc0.blk hb5 (by simp))
 have HC0:=Lib.hid (hcc.trans hc0 (by simp))
 have HBC:=Lib.hid hbc
 have l5:b5 < w1.heap.size:=hb5.lt
 have lt:bt < w0.heap.size:=World.block_lt_of_cell? _ _ hbt
 have la:ba < w0.heap.size:=World.block_lt_of_cell? _ _ hba
 have l50:b5 < w0.heap.size:=HB5.out.lt
 have ht5:bt≠b5:=by omega
 have hc5:bc≠b5:=by omega
 have ha5:ba≠b5:=by omega
 have HBT:=Lib.hid hbt
 have HBA:=Lib.hid hba
 have hbw:w.heap.size≤b2:=by omega
 have HN:Hid (b2≠b3∧b2≠b4∧b2≠b5∧b3≠b4∧b3≠b5∧b4≠b5∧b2 < b5∧b3 < b5∧b4 < b5∧w.heap.size≤b2∧w.heap.size≤b3∧w.heap.size≤b4):=Lib.hid (by omega)
 clear hb2 hb3 hb4 hb5 hcc hc0 l1 l2 l3 hbt hbc hba e2 e3 e4 e5 l5
 gi_wp2
 refine range_gives (I:=Mid b5 w0) (Ix:=Out b2 b3 b4 b5 w0) (Pr:=fun A=>A.cell? ⟨bt,0,none⟩=some (.string sb)∧Blk A bc Lx.tab 157∧A.cell? ⟨ba,0,none⟩=some (atv bt bc)) (Kp:=KpP b5 b5) (all:=Lx.from' s 0) (enc:=fnd)
  (w₁:=fun x W=>W.alloc (.cells #[.int .i64 x.1.kind,.string ⟨x.1.text.toArray⟩,.int .i64 x.1.n,.int .i64 x.1.at_,.int .i64 x.2] 129))
  (by omega) rfl (enters_of Tryz.func70 (by kernel_rfl) rfl) ?seq (fun h k=>h.trans k) ?kb (mid_cellish l50) (fun pre=>out_cellish pre) ?pr ?kk ?h0 ?a1 ?w1g ?kw ?assign ?body ?done ?stop
 case assign =>
  intro l2 x W5 K hK
  unfold fnd
  gi_wp2
  exact hK
 case seq =>
  intro l J Jx W hJ hPr hKK hY h0
  refine toks_in (n - 1) (by omega) l bt bc ba s (by have:=HS.out;omega) J Jx (KpP b5 b5) (Lib.hid hJ) (Lib.hid fun pre A h=>?_) (Lib.hid hKK) (Lib.hid hY) W h0
  rw[← HSB.out]
  exact hPr pre A h
 case kb =>
  intro W6 l6 o6 o6' hl6 ho6 hoc6
  exact KpP.put (by omega) ho6 hoc6
 case pr =>
  rintro pre A ⟨v,_,_,_,hc,_⟩
  exact ⟨(World.cell?_of_block (a:=⟨bt,0,none⟩) (hc.block bt lt (by simp[ht5]))).trans HBT.out,hc.blk HBC.out (by simp[hc5]),(World.cell?_of_block (a:=⟨ba,0,none⟩) (hc.block ba la (by simp[ha5]))).trans HBA.out⟩
 case kk =>
  rintro pre V A B g hm hg h1 h2 ⟨i,u,hu⟩ hk
  have hV:=mid_wf l50 hm
  have hA:A.heap[b5]? = V.heap[b5]?:=hg.block b5 hV.lo (by simp)
  unfold World.cell? at hu
  cases hh:A.heap[g]? with
  | none=>rw[hh] at hu;cases hu
  | some o =>
   have hoc:o.isCells=true:=by
    cases o <;> first|rfl|(rw[hh] at hu;cases hu)
   have:=hV.li
   refine hk.same g o (by omega) (by omega) (fun v hv e=>?_) hh hoc
   have:=(hV.own v g ((World.cell?_of_block (a:=⟨b5,0,none⟩) hA).symm.trans hv) e).2
   omega
 case h0=>exact ⟨_,HB5.out,⟨rfl,.inl ⟨rfl,rfl⟩⟩,by simp[Value.ownBlock],Chg.refl _ _,by simp,by simp⟩
 case w1g=>exact fun x W=>World.grownBy_alloc W _ none
 case kw =>
  intro pre x W hm
  exact kp_alloc _ (mid_wf l50 hm).li
 case body =>
  intro l2 pre x W W' hm0 hm hheap hpre
  have hWs:w0.heap.size≤W.heap.size:=by obtain ⟨_,_,_,_,h,_⟩:=hm0;exact h.size
  obtain ⟨g,hg⟩:∃ g,g=W.heap.size:=⟨_,rfl⟩
  have hbg:Blk W' g [.int .i64 x.1.kind,.string ⟨x.1.text.toArray⟩,.int .i64 x.1.n,.int .i64 x.1.at_,.int .i64 x.2] 129:=by
   rw[hg]
   exact (hheap _ (Nat.le_refl _)).trans (Blk.new W _ _)
  rw[← hg] at hWs ⊢
  obtain ⟨v5,hb5,hr5,ho5,hc5',hz⟩:=hm
  obtain ⟨ao,cap,rfl⟩:=owns_form hr5
  have p0:=hbg.cell (i:=0) rfl
  have p1:=hbg.cell (i:=1) rfl
  have p2:=hbg.cell (i:=2) rfl
  have p3:=hbg.cell (i:=3) rfl
  have p4:=hbg.cell (i:=4) rfl
  have lg:=hbg.lt
  have HN':=HN.out
  have c5:=hb5.cell (i:=0) rfl
  have f5:=hb5.free 0
  have c2:=(hc5'.blk HB2.out (by simp;omega)).cell (i:=0) rfl
  have f2:=(hc5'.blk HB2.out (by simp;omega)).free 0
  have c3:=(hc5'.blk HB3.out (by simp;omega)).cell (i:=0) rfl
  have f3:=(hc5'.blk HB3.out (by simp;omega)).free 0
  have c4:=(hc5'.blk HB4.out (by simp;omega)).cell (i:=0) rfl
  have f4:=(hc5'.blk HB4.out (by simp;omega)).free 0
  have g2:¬ g=b2:=by omega
  have g3:¬ g=b3:=by omega
  have g4:¬ g=b4:=by omega
  have g5:¬ g=b5:=by omega
  have m23:¬ b3=b2:=by omega
  have m24:¬ b4=b2:=by omega
  have m34:¬ b4=b3:=by omega
  have HB5':=Lib.hid hb5
  have HR5:=Lib.hid hr5
  have HO5:=Lib.hid ho5
  have HC5:=Lib.hid hc5'
  have HZ:=Lib.hid hz
  have H50:=Lib.hid l50
  obtain ⟨q,hq⟩:∃ q,q=pre.length:=⟨_,rfl⟩
  have HQ:=Lib.hid hq
  have hq5:q≤5000:=by rw[hq];exact hz.2
  clear hb5 hr5 ho5 hc5' hz hbg hheap hm0 HN' hg
  by_cases h0:x.2=0
  · have n0:((x.2:Int) != 0)=false:=by rw[h0];rfl
    by_cases h5:q=5000
    · have hfin:=out_step (er:=3) (by have:=HN.out;omega) HB2.out HB3.out HB4.out HC5.out HZ.out (.inr ⟨h0,by rw[← HQ.out,h5],rfl⟩)
      rw[← hq] at c5
      subst h5
      clear hq
      gi_wp2
      refine region_round' (by kernel_rfl) (by kernel_rfl) ?hno9 ?_
      case hno9 =>
       rintro ⟨a9,w9,h9⟩
       exact h9
      refine wpAny_take (i:=0) (v:=?vb0) rfl (by kernel_rfl) (by kernel_rfl) (by kernel_rfl) (fun _ _ _ h=>h) (Or.inl ⟨by rfl,?hyb0⟩) ?rstb0
      case hyb0=>(intro w9;go_simp;try with_reducible rfl)
      try simp only[Act.put,List.setIfInBounds_toArray,List.set_cons_zero,List.set_cons_succ]
      refine wpAny_take (i:=1) (v:=?vb1) rfl (by kernel_rfl) (by kernel_rfl) (by kernel_rfl) (fun _ _ _ h=>h) (Or.inl ⟨by rfl,?hyb1⟩) ?rstb1
      case hyb1=>(intro w9;go_simp;try with_reducible rfl)
      try simp only[Act.put,List.setIfInBounds_toArray,List.set_cons_zero,List.set_cons_succ]
      refine wpAny_all (rs:=[2,3]) (by kernel_rfl) (by decide) (AllReady.cons rfl (fun K hK=>?_) (AllReady.cons rfl (fun K hK=>?_) AllReady.nil))
      · go_simp
        refine hK _ _ ?_
        clear hK K
        refine wpAny_all (rs:=[3]) (by kernel_rfl) (by decide) (AllReady.cons rfl (fun K hK=>?_) AllReady.nil)
        · go_simp
          refine hK _ _ ?_
          clear hK K
          refine wpAny_all (rs:=[4]) (by kernel_rfl) (by decide) (AllReady.cons rfl (fun K hK=>?_) AllReady.nil)
          · go_simp
            exact mLxJ2
      go_simp
      refine hK _ _ ?_
      clear hK K
      refine wpAny_all (rs:=[2,4]) (by kernel_rfl) (by decide) (AllReady.cons rfl (fun K hK=>?_) (AllReady.cons rfl (fun K hK=>?_) AllReady.nil))
      · go_simp
        refine hK _ _ ?_
        clear hK K
        refine wpAny_all (rs:=[4]) (by kernel_rfl) (by decide) (AllReady.cons rfl (fun K hK=>?_) AllReady.nil)
        · go_simp
          exact mLxJ2
      go_simp
      refine hK _ _ ?_
      clear hK K
      refine wpAny_all (rs:=[2]) (by kernel_rfl) (by decide) (AllReady.cons rfl (fun K hK=>?_) AllReady.nil)
      · go_simp
        exact mLxJ2
    rw[← hq] at c5
    have n5:((q:Int) == 5000)=false:=beq_eq_false_iff_ne.2 (by omega)
    have hH:=HR5.out
    obtain ⟨i0,hi,hz0,hz1,hz2⟩:=info_parts info_tok
    clear hq
    gi_upto_region 10 with fail
    have l5':b5 < W'.heap.size:=World.block_lt_of_cell? _ _ c5
    have hqp:(Value.slice ao q cap).ownBlock≠some b5:=fun e=>by have:=HO5.out b5 (by rw[← HQ.out,e];simp);have:=H50.out;omega
    gi_wp2_with (gi_at_builtin;refine wpListIn_append_lies (W'.alloc (.cells (tkc x.1).toArray 93)) rfl (.tmp 29) (.tmp 32) 83 rfl 0 93 i0 (.agg #[.int .i64 0,.string ⟨#[]⟩,.int .i64 0,.int .i64 0]) 4 40 Tryz.underlying83 hi hz0 hz1 hz2 rfl (by decide) (.slice ao q cap) q ((pre.map Prod.fst).flatMap tkc) rfl (row_keptB (by rw[HQ.out];exact HR5.out) ((Chg.refl _ _).alloc _)) ⟨W'.heap.size,0,none⟩ 1 1 (tkc x.1) rfl rfl (fun j u hj=>by rw[addr_add,Nat.zero_add];exact (Blk.new W' (tkc x.1) _).cell hj) (by intro u hu;simp[tkc] at hu;rcases hu with rfl|rfl|rfl|rfl <;> rfl) (by decide) (by unfold maxLen;omega) (by omega) (Nat.zero_le _) _ rfl ?kk)
    case' kk=>intro g9 cap9 w10 hown hgrow hat hlt10
    have e2:w10.cell? ⟨b5,0,none⟩=some (.slice ao q cap):=(hgrow.cell_far ⟨b5,0,none⟩ (by simp;omega) (fun e=>hqp e.symm)).trans ((World.cell?_alloc_past _ b5 0 l5').trans c5)
    have ef:w10.frozen? ⟨b5,0,none⟩=false:=(hgrow.frozen_far ⟨b5,0,none⟩ (by simp;omega) (fun e=>hqp e.symm)).trans ((World.frozen?_alloc_past _ b5 0 l5').trans f5)
    have hfin:=mid_step (x:=x) HB5' HR5 HO5 HC5 HZ h0 (by rw[← HQ.out];exact h5) H50 (g9:=g9) (cap9:=cap9) (w10:=w10) (by rw[← HQ.out];exact hown) (by rw[← HQ.out];exact hgrow) (by rw[← HQ.out];simpa using hat) hlt10
    rw[← HQ.out] at hfin
    clear hown hgrow hat
    gi_wp2
    exact hfin
  have n0:((x.2:Int) != 0)=true:=bne_iff_ne.2 (by omega)
  have hfin:=out_step (er:=x.2) (by have:=HN.out;omega) HB2.out HB3.out HB4.out HC5.out HZ.out (.inl ⟨h0,rfl⟩)
  gi_wp2
  refine region_round' (by kernel_rfl) (by kernel_rfl) ?hno7 ?_
  case hno7 =>
   rintro ⟨a9,w9,h9⟩
   exact h9
  refine wpAny_take (i:=0) (v:=?va0) rfl (by kernel_rfl) (by kernel_rfl) (by kernel_rfl) (fun _ _ _ h=>h) (Or.inl ⟨by rfl,?hya0⟩) ?rsta0
  case hya0=>(intro w9;go_simp;try with_reducible rfl)
  try simp only[Act.put,List.setIfInBounds_toArray,List.set_cons_zero,List.set_cons_succ]
  refine wpAny_take (i:=2) (v:=?va2) rfl (by kernel_rfl) (by kernel_rfl) (by kernel_rfl) (fun _ _ _ h=>h) (Or.inl ⟨by rfl,?hya2⟩) ?rsta2
  case hya2=>(intro w9;go_simp;try with_reducible rfl)
  try simp only[Act.put,List.setIfInBounds_toArray,List.set_cons_zero,List.set_cons_succ]
  refine wpAny_take (i:=3) (v:=?va3) rfl (by kernel_rfl) (by kernel_rfl) (by kernel_rfl) (fun _ _ _ h=>h) (Or.inl ⟨by rfl,?hya3⟩) ?rsta3
  case hya3=>(intro w9;go_simp;try with_reducible rfl)
  try simp only[Act.put,List.setIfInBounds_toArray,List.set_cons_zero,List.set_cons_succ]
  refine wpAny_all (rs:=[1,4,5]) (by kernel_rfl) (by decide) (AllReady.cons rfl (fun K hK=>?_) (AllReady.cons rfl (fun K hK=>?_) (AllReady.cons rfl (fun K hK=>?_) AllReady.nil)))
  · go_simp
    refine hK _ _ ?_
    clear hK K
    refine wpAny_all (rs:=[4,5]) (by kernel_rfl) (by decide) (AllReady.cons rfl (fun K hK=>?_) (AllReady.cons rfl (fun K hK=>?_) AllReady.nil))
    · go_simp
      refine hK _ _ ?_
      clear hK K
      refine wpAny_all (rs:=[5]) (by kernel_rfl) (by decide) (AllReady.cons rfl (fun K hK=>?_) AllReady.nil)
      · go_simp
        exact mLxJ0
    go_simp
    exact mLxJ1
  · go_simp
    refine hK _ _ ?_
    clear hK K
    refine wpAny_all (rs:=[1,5]) (by kernel_rfl) (by decide) (AllReady.cons rfl (fun K hK=>?_) (AllReady.cons rfl (fun K hK=>?_) AllReady.nil))
    · go_simp
      refine hK _ _ ?_
      clear hK K
      refine wpAny_all (rs:=[5]) (by kernel_rfl) (by decide) (AllReady.cons rfl (fun K hK=>?_) AllReady.nil)
      · go_simp
        exact mLxJ0
    go_simp
    refine hK _ _ ?_
    clear hK K
    refine wpAny_all (rs:=[1]) (by kernel_rfl) (by decide) (AllReady.cons rfl (fun K hK=>?_) AllReady.nil)
    · go_simp
      exact mLxJ0
  go_simp
  refine hK _ _ ?_
  clear hK K
  refine wpAny_all (rs:=[1,4]) (by kernel_rfl) (by decide) (AllReady.cons rfl (fun K hK=>?_) (AllReady.cons rfl (fun K hK=>?_) AllReady.nil))
  · go_simp
    exact mLxJ1
  go_simp
  refine hK _ _ ?_
  clear hK K
  refine wpAny_all (rs:=[1]) (by kernel_rfl) (by decide) (AllReady.cons rfl (fun K hK=>?_) AllReady.nil)
  · go_simp
    exact mLxJ0
 case done =>
  intro D W6 hD hm hd
  obtain ⟨v6,hb6,hr6,ho6,hc6,hz6,hl6⟩:=hm
  have hlex:Lx.lex s=((Lx.from' s 0).map Prod.fst,0,0):=by rw[HLX.out,Lx.fin_all _ _ _ hz6 (by omega)];simp
  obtain ⟨ao,cap,rfl⟩:=owns_form hr6
  have c6:=hb6.cell (i:=0) rfl
  have k2:=hc6.blk HB2.out (by simp;have:=HN.out;omega)
  have k3:=hc6.blk HB3.out (by simp;have:=HN.out;omega)
  have k4:=hc6.blk HB4.out (by simp;have:=HN.out;omega)
  have y2:=k2.cell (i:=0) rfl
  have y3:=k3.cell (i:=0) rfl
  have y4:=k4.cell (i:=0) rfl
  have z2:=k2.free 0
  have z3:=k3.free 0
  have z4:=k4.free 0
  have HN':=HN.out
  have m23:¬ b3=b2:=by omega
  have m24:¬ b4=b2:=by omega
  have m34:¬ b4=b3:=by omega
  have m32:¬ b2=b3:=by omega
  have m42:¬ b2=b4:=by omega
  have m43:¬ b3=b4:=by omega
  have HK2:=Lib.hid k2
  have HK3:=Lib.hid k3
  have HK4:=Lib.hid k4
  have HR6:=Lib.hid hr6
  have HO6:=Lib.hid ho6
  have HC6:=Lib.hid hc6
  have HLE:=Lib.hid hlex
  have HDD:Hid (W6.heap[D]? = some (.deferred (some []))):=Lib.hid hd
  clear k2 k3 k4 hr6 ho6 hc6 hz6 hb6 hd HN' hlex
  gi_wp2
  have HN9:=HN.out
  have hown:∀ b ∈ (Value.slice ao (Lx.from' s 0).length cap).ownBlock.toList,b≠b2∧b≠b3∧b≠b4:=fun b hb=>by have:=HO6.out b hb;omega
  refine leaves_mark1 (B:=w.heap.size) (J:=fun W=>Blk W b2 [.slice ao (Lx.from' s 0).length cap] 83∧Blk W b3 [.int .i64 0] 29∧Blk W b4 [.int .i64 0] 3∧W.ownsRow 0 93 4 (.slice ao (Lx.from' s 0).length cap) (Lx.from' s 0).length (((Lx.from' s 0).map Prod.fst).flatMap tkc)∧Chg [] w W)
   ?hj ?hr D _ ?hm ?hJ
  case hj =>
   rintro A D' hD' hd' ⟨h2,h3,h4,hr,hc⟩
   exact ⟨put_cells hd' rfl h2,put_cells hd' rfl h3,put_cells hd' rfl h4,owns_put hd' rfl hr,chg_put hc hD'⟩
  case hr =>
   rintro W ⟨h2,h3,h4,hr,hc⟩
   have y2:=h2.cell (i:=0) rfl
   have y3:=h3.cell (i:=0) rfl
   have y4:=h4.cell (i:=0) rfl
   refine ⟨.tuple #[.slice ao (Lx.from' s 0).length cap,.int .i64 0,.int .i64 0],by simp[results,Tryz.results20,go_sem,y2,y3,y4],.slice ao (Lx.from' s 0).length cap,?_,?_,hc⟩
   · rw[HLE.out]
     rfl
   rw[HLE.out]
   exact toks_of_owns (by rw[List.length_map];exact hr)
  case hm=>exact (Marked.nil _ _).cons (by simp) (by have:=HC0.out.size;omega) (((heap_setCell_other _ ⟨b4,0,none⟩ D (.int .i64 0) (by have:=HB4.out.lt;show D≠b4;omega)).trans ((heap_setCell_other _ ⟨b3,0,none⟩ D (.int .i64 0) (by have:=HB3.out.lt;show D≠b3;omega)).trans (heap_setCell_other W6 ⟨b2,0,none⟩ D (.slice ao (Lx.from' s 0).length cap) (by have:=HB2.out.lt;show D≠b2;omega)))).trans HDD.out)
  case hJ =>
   refine ⟨((HK2.out.set 0 _).other _ _ (by show b2≠b3;omega)).other _ _ (by show b2≠b4;omega),((HK3.out.other _ _ (by show b3≠b2;omega)).set 0 _).other _ _ (by show b3≠b4;omega),((HK4.out.other _ _ (by show b4≠b2;omega)).other _ _ (by show b4≠b3;omega)).set 0 _,?_,?_⟩
   · exact owns_setCell (owns_setCell (owns_setCell HR6.out (fun b hb=>(hown b hb).1)) (fun b hb=>(hown b hb).2.1)) (fun b hb=>(hown b hb).2.2)
   exact (((HC0.out.trans HC6.out (fun k hk=>.inr (by simp at hk;omega))).setCell _ _ (.inr (by show _≤b2;omega))).setCell _ _ (.inr (by show _≤b3;omega))).setCell _ _ (.inr (by show _≤b4;omega))
 case stop =>
  rintro D pre W6 hD hpre ⟨p,x,er,rfl,hz6,hl6,he6,k2,k3,k4,hc6⟩ hd
  obtain ⟨post,hpost⟩:=hpre
  have hlex:Lx.lex s=([],er,(x.1.at_:Int)):=by
   rw[HLX.out,← hpost,List.append_assoc,List.singleton_append,Lx.fin_stop p x post 0 [] hz6 (by omega)]
   rcases he6 with ⟨h1,rfl⟩|⟨h1,h2,rfl⟩
   · rw[if_pos h1]
   rw[if_neg (by simpa using h1),if_pos (by omega)]
  have HK2:=Lib.hid k2
  have HK3:=Lib.hid k3
  have HK4:=Lib.hid k4
  have HC6:=Lib.hid hc6
  have HLE:=Lib.hid hlex
  have HDD:Hid (W6.heap[D]? = some (.deferred (some []))):=Lib.hid hd
  clear k2 k3 k4 hc6 hz6 hd hlex hpost he6
  gi_wp2
  have HN9:=HN.out
  refine leaves_mark1 (B:=w.heap.size) (J:=fun W=>Blk W b2 [.slice none 0 0] 83∧Blk W b3 [.int .i64 er] 29∧Blk W b4 [.int .i64 x.1.at_] 3∧Chg [] w W)
   ?hj2 ?hr2 D _ ?hm2 ?hJ2
  case hj2 =>
   rintro A D' hD' hd' ⟨h2,h3,h4,hc⟩
   exact ⟨put_cells hd' rfl h2,put_cells hd' rfl h3,put_cells hd' rfl h4,chg_put hc hD'⟩
  case hr2 =>
   rintro W ⟨h2,h3,h4,hc⟩
   have y2:=h2.cell (i:=0) rfl
   have y3:=h3.cell (i:=0) rfl
   have y4:=h4.cell (i:=0) rfl
   refine ⟨.tuple #[.slice none 0 0,.int .i64 er,.int .i64 x.1.at_],by simp[results,Tryz.results20,go_sem,y2,y3,y4],.slice none 0 0,?_,?_,hc⟩
   · rw[HLE.out]
   rw[HLE.out]
   exact ⟨none,0,rfl,Nat.le_refl _,fun i t h=>by simp at h⟩
  case hm2=>exact (Marked.nil _ _).cons (by simp) (by have:=HC0.out.size;omega) HDD.out
  case hJ2=>exact ⟨HK2.out,HK3.out,HK4.out,HC0.out.trans HC6.out (fun k hk=>.inr (by simp at hk;omega))⟩
theorem lex_spec (w:World) (s:Bytes) (hs:s.length≤1000000) :
 Calls Tryz.prog 20 #[.string ⟨s.toArray⟩] w fun e w'=>∃ v,e = .returned (.tuple #[v,.int .i64 (Lx.lex s).2.1,.int .i64 (Lx.lex s).2.2])∧TokS w' v (Lx.lex s).1∧Chg [] w w':=by
 by_cases h:s.length≤20000
 · exact lex_short w s h
 refine (lex_long w s (by omega) hs).mono ?_
 rintro e w' ⟨rfl,hc⟩
 have hl:Lx.lex s=([],3,-1):=by unfold Lx.lex;rw[if_pos (by omega)]
 rw[hl]
 exact ⟨_,rfl,⟨none,0,rfl,Nat.le_refl _,fun i t h=>by simp at h⟩,hc⟩
end Go.Proofs.YtglepipfdmphhaaGreatDoor
