/-
  PrD, PrE in one text.
-/
import Derived.Test.YtglepipfdmphhaaGreatDoorPrTk
import Derived.Test.YtglepipfdmphhaaGreatDoorPrB
import Derived.Test.YtglepipfdmphhaaGreatDoorShelf
import Derived.Lib.Builder
import Derived.Lib.AppendStr
import Derived.Lib.AppendIntMem
import Derived.Lib.UnsafeStr
import Derived.BigCall
import Derived.Deep.DrawnRows
import Derived.Deep.RegionHeld3
set_option maxRecDepth 100000
set_option maxHeartbeats 40000000
namespace Go.Proofs.YtglepipfdmphhaaGreatDoor
set_option linter.unusedVariables false
set_option linter.unusedSimpArgs false
open Go Go.RowKit Go.Shelf
attribute [local irreducible] Go.wpStill
theorem u8_parts:∃ i,Tryz.prog.info? 5=some i∧i.zero=some (.int .u8 0)∧i.size=1∧i.bytes=1:=by
 have h:(Tryz.prog.info? 5).map (fun i=>(i.zero,i.size,i.bytes))=some (some (.int .u8 0),1,1):=by kernel_rfl
 obtain ⟨i,h1,h2⟩:=Option.map_eq_some_iff.1 h
 simp only[Prod.mk.injEq] at h2
 exact ⟨i,h1,h2.1,h2.2.1,h2.2.2⟩
theorem size_bld:(Tryz.prog.info? 73).map (·.size)=some 2:=by kernel_rfl
def Bty (T:TypeId) (n:Nat):Prop:=(T=73∧n=0)∨(T=77∧n=2)∨(T=107∧n=2)
theorem Bty.lies {T:TypeId} {n:Nat} (h:Bty T n):liesAt Tryz.prog Tryz.prog.depth T ((n+2) / Tryz.prog.cellsOf T) 0 73 1=true:=by
 rcases h with ⟨rfl,rfl⟩|⟨rfl,rfl⟩|⟨rfl,rfl⟩ <;> kernel_rfl
theorem Bty.ne {T:TypeId} {n:Nat} (h:Bty T n):T≠5:=by
 rcases h with ⟨rfl,rfl⟩|⟨rfl,rfl⟩|⟨rfl,rfl⟩ <;> decide
theorem owns_keep {own:List Nat} {w w':World} {B:Nat} {e:TypeId} {size:Nat} {v:Value} {n:Nat} {xs:List Value} (h:w.ownsRow B e size v n xs) (hc:Chg own w w') (hn:∀ k,v.ownBlock=some k→k ∉ own):w'.ownsRow B e size v n xs:=by
 refine ⟨h.1,?_⟩
 rcases h.2 with h0|⟨g,cap,cur,rfl,hb,hg,rest⟩
 · exact .inl h0
 exact .inr ⟨g,cap,cur,rfl,hb,(hc.block g (Array.getElem?_eq_some_iff.1 hg).1 (hn g rfl)).trans hg,rest⟩
theorem owns_ge {w:World} {B:Nat} {e:TypeId} {size:Nat} {v:Value} {n:Nat} {xs:List Value} (h:w.ownsRow B e size v n xs):∀ k,v.ownBlock=some k→B≤k∧k < w.heap.size:=fun k hk=>by
 rcases h.2 with ⟨rfl,_⟩|⟨g,cap,cur,rfl,hb,hg,_⟩
 · simp[Value.ownBlock] at hk
 simp only[Value.ownBlock,Option.some.injEq] at hk
 subst hk
 exact ⟨hb,(Array.getElem?_eq_some_iff.1 hg).1⟩
theorem append_str_own {P:Program} {w:World} {base:Nat} {t u ty e:TypeId} {i:TypeInfo} (ht:P.underlying t=some (.slice e)) (hu:P.underlying u=some .string) (hi:P.info? e=some i) (hz:i.zero=some (.int .u8 0))
 (hsize:i.size=1) (hby:i.bytes=1) {v:Value} {n:Nat} {xs:List Value} (hown:w.ownsRow base e 1 v n xs) {s:ByteArray} (h63:n+s.size≤maxLen) (hbytes:n+s.size≤140737488355328)
 {v':Value} {w':World} (hr:(Builtin.append_ #[t,u] ty #[v,.string s]).run P w = .ok v' w'):∀ k,v'.ownBlock=some k→v.ownBlock=some k∨w.heap.size≤k:=by
 have hsmall:n+s.size≤9223372036854775807:=by simp only[maxLen] at h63;omega
 have hxl:xs.length=n:=by simpa using hown.1
 rcases hown.2 with ⟨rfl,rfl⟩|⟨g,cap,cur,rfl,hbg,hg,hnc,hcm,hcs,htake⟩
 · have hx:xs=[]:=List.eq_nil_of_length_eq_zero hxl
   subst hx
   obtain ⟨v2,w2,hr2,ho2,_⟩:=Lib.run_append_own_string (P:=P) w w.heap.size t u ty e i ht hu hi hz hsize hby _ 0 [] (World.ownsRow_nil w _ e 1) s h63 hbytes (Nat.le_refl _)
   rw[hr2] at hr
   cases hr
   exact fun k hk=>.inr (owns_ge ho2 k hk).1
 by_cases hroom:n+s.size≤cap
 · have hcs':cur.size=cap:=by simpa using hcs
   have hr2:=Lib.run_append_room_string (P:=P) w t u ty e i ht hu hi hsize g n cap cur hg s hroom (by omega)
   rw[hr2] at hr
   cases hr
   exact fun k hk=>.inl hk
 have holds:∀ j u,xs[j]? = some u→w.cell? ((⟨g,0,none⟩:Addr).add j)=some u:=hown.cells (g:=g) rfl
 have hr2:=Lib.run_append_grow_string (P:=P) w t u ty e i (.int .u8 0) ht hu hi hz ⟨g,0,none⟩ n cap xs (by rw[hsize];simpa using hxl) holds s (by omega) (by omega) (by rw[hby];exact growslice_fits (by omega) (by omega))
 rw[hr2] at hr
 cases hr
 exact fun k hk=>.inr (by simp only[Value.ownBlock,Option.some.injEq] at hk;omega)
theorem wpList_append_str {P:Program} {w:World} {ops:Array Oper} {rest:List Oper} {o:Oper} {a:Act} {Q:Exit→Act→World→Prop} (hgd:o.guard=none) (sl x:Operand) (t u:TypeId)
 (ho:o.op = .call { callee:=.builtin .append,args:=#[sl,x],argTypes:=#[t,u] })
 (base:Nat) (e:TypeId) (i:TypeInfo) (ht:P.underlying t=some (.slice e)) (hu:P.underlying u=some .string) (hi:P.info? e=some i) (hz:i.zero=some (.int .u8 0))
 (hsize:i.size=1) (hby:i.bytes=1)
 (v:Value) (n:Nat) (xs:List Value) (hs:a.eval sl=v) (hown:w.ownsRow base e 1 v n xs) (s:ByteArray) (hx:a.eval x = .string s)
 (h63:n+s.size≤maxLen) (hbytes:n+s.size≤140737488355328) (hbase:base≤w.heap.size)
 (h:∀ v' w',w'.ownsRow base e 1 v' (n+s.size) (xs++Lib.strCells s)→w.grownBy w' v.ownBlock→(∀ k,v'.ownBlock=some k→v.ownBlock=some k∨w.heap.size≤k)→wpList P ops Q rest (a.put o.dst v') w'):wpList P ops Q (o :: rest) a w:=by
 refine wpList_plain hgd fun K hK=>?_
 obtain ⟨v',w',hr,h2,h3,h4⟩:=Lib.run_append_own_string (P:=P) w base t u o.type e i ht hu hi hz hsize hby v n xs hown s h63 hbytes hbase
 have h5:=append_str_own ht hu hi hz hsize hby hown h63 hbytes hr
 unfold Oper.wp execOp
 simp only[ho,resolve,invoke,builtin,Sem.run_bind,Sem.run_pure,Result.andThen_ok,List.map_toArray,List.map_cons,List.map_nil,hs,hx,hr]
 exact hK _ _ (h v' w' h2 h3 h5)
structure BW (T:TypeId) (b:Nat) (out:Bytes) (rest:List Value) (v:Value) (w:World):Prop where
 blk:∃ p,(p = .pointer none∨p = .pointer (some ⟨b,0,none⟩))∧Blk w b (p :: v :: rest) T
 own:w.ownsRow (b+1) 5 1 v out.length (Lib.byteCells out)
 nil:out=[]→v = .slice none 0 0
theorem BW.lt {T:TypeId} {b:Nat} {out:Bytes} {rest:List Value} {v:Value} {w:World} (h:BW T b out rest v w):b < w.heap.size:=by
 obtain ⟨p,_,hb⟩:=h.blk
 exact hb.lt
theorem BW.ge {T:TypeId} {b:Nat} {out:Bytes} {rest:List Value} {v:Value} {w:World} (h:BW T b out rest v w):∀ k,v.ownBlock=some k→b+1≤k∧k < w.heap.size:=owns_ge h.own
theorem BW.ne {T:TypeId} {b:Nat} {out:Bytes} {rest:List Value} {v:Value} {w:World} (h:BW T b out rest v w) {X:Nat} {cs:List Value} {e:TypeId} (hb:Blk w X cs e) (he:e≠5):v.ownBlock≠some X:=Lib.ownBlock_ne h.own hb he
theorem BW.form {T:TypeId} {b:Nat} {out:Bytes} {rest:List Value} {v:Value} {w:World} (h:BW T b out rest v w):∃ ao cap,v = .slice ao out.length cap:=by
 rcases h.own.2 with ⟨hv,h0⟩|⟨g,cap,cur,hv,_⟩
 · exact ⟨none,0,by rw[hv,h0]⟩
 exact ⟨_,_,hv⟩
theorem BW.new (w:World) (T:TypeId) (rest:List Value):BW T w.heap.size [] rest (.slice none 0 0) (w.alloc (.cells (.pointer none :: .slice none 0 0 :: rest).toArray T)) :=
 ⟨⟨_,.inl rfl,Blk.new w _ T⟩,World.ownsRow_nil _ _ _ _,fun _=>rfl⟩
structure Wr (b:Nat) (v:Value) (w:World) (v':Value) (w':World):Prop where
 chg:Chg (b :: v.ownBlock.toList) w w'
 own:∀ k,v'.ownBlock=some k→v.ownBlock=some k∨w.heap.size≤k
theorem Wr.refl (b:Nat) (v:Value) (w:World):Wr b v w v w:=⟨Chg.refl _ _,fun k h=>.inl h⟩
theorem Wr.trans {b:Nat} {v v1 v2:Value} {w w1 w2:World} (h:Wr b v w v1 w1) (h1:Wr b v1 w1 v2 w2):Wr b v w v2 w2 :=
 ⟨h.chg.trans h1.chg (fun k hk=>by
  rcases List.mem_cons.1 hk with rfl|hk
  · exact .inl (by simp)
  · rw[Option.mem_toList] at hk
    rcases h.own k hk with h2|h2
    · exact .inl (by simp[h2])
    exact .inr h2),fun k hk=>by
  rcases h1.own k hk with h2|h2
  · exact h.own k h2
  exact .inr (Nat.le_trans h.chg.size h2)⟩
theorem Wr.cell {b:Nat} {v:Value} {w w':World} (h:Chg [b] w w'):Wr b v w v w':=⟨h.mono (fun k hk=>by simp at hk;simp[hk]),fun k hk=>.inl hk⟩
theorem Wr.blk {b:Nat} {v v':Value} {w w':World} (h:Wr b v w v' w') {X:Nat} {cs:List Value} {e:TypeId} (hb:Blk w X cs e) (h1:X≠b) (h2:v.ownBlock≠some X):Blk w' X cs e :=
 h.chg.blk hb (by simp[h1,h2])
theorem Wr.quiet {b:Nat} {v v':Value} {w0 w w':World} (h:Wr b v w v' w') (hc:Chg [] w0 w) (hb:w0.heap.size≤b) (hv:∀ k,v.ownBlock=some k→b≤k):Chg [] w0 w' :=
 hc.trans h.chg (fun k hk=>.inr (by
  rcases List.mem_cons.1 hk with rfl|hk
  · exact hb
  rw[Option.mem_toList] at hk
  have:=hv k hk
  omega))
theorem copyCheck_w {T:TypeId} {n:Nat} (hT:Bty T n) (b:Nat) (w:World) (p v:Value) (rest:List Value) (hr:rest.length=n) (hb:Blk w b (p :: v :: rest) T) (hp:p = .pointer none∨p = .pointer (some ⟨b,0,none⟩)) :
 Calls Tryz.prog 65 #[.pointer (some ⟨b,0,none⟩)] w fun e w'=>e = .returned (.tuple #[])∧Blk w' b (.pointer (some ⟨b,0,none⟩) :: v :: rest) T∧Chg [b] w w':=by
 obtain ⟨j,hj,hjs⟩:=Option.map_eq_some_iff.1 size_bld
 have h0:=hb.cell (i:=0) rfl
 have hfz:=hb.free 0
 have HB:=hd hb
 have hl:=hT.lies
 have HL:=hd hl
 clear hl hb
 rcases hp with rfl|rfl
 · have hsh:w.shape? b=some (T,n+2):=by
    have:=HB.out
    unfold Blk at this
    simp[World.shape?,this,hr]
   go_enter Tryz.func65,Tryz.ntmps65
   go_wp2_with fail
   rw[Lib.run_to_unsafe w ⟨b,0,none⟩ Tryz.underlying70 Tryz.underlying172 hj (by rw[hjs];decide) hsh (Nat.zero_lt_succ _)]
   simp only[Result.andThen]
   rw[Oper.upon_value]
   go_wp2_with fail
   rw[run_callFunc_extern Tryz.func88 (by kernel_rfl) (by kernel_rfl) (by kernel_rfl) (e:=Extern.AbiNoEscape.same) (by kernel_rfl)]
   rw[Lib.run_noEscape]
   simp only[Result.andThen]
   rw[Oper.upon_value]
   go_wp2_with fail
   rw[Lib.run_from_unsafe w ⟨b,0,none⟩ Tryz.underlying172 Tryz.underlying70 hj hsh HL.out]
   simp only[Result.andThen]
   rw[Oper.upon_value]
   go_wp2_with fail
   go_end0
   exact ⟨rfl,HB.out.set 0 _,(Chg.refl _ _).setCell _ _ (.inl (by simp))⟩
 go_enter Tryz.func65,Tryz.ntmps65
 go_wp2_with fail
 rw[Lib.run_neq_ptr_same w _ Tryz.underlying70 hj]
 go_wp2_with fail
 go_end0
 exact ⟨rfl,HB.out,Chg.refl _ _⟩
theorem len_w {T:TypeId} (b:Nat) (w:World) (out:Bytes) (rest:List Value) (v:Value) (HW:Hid (BW T b out rest v w)) :
 Calls Tryz.prog 63 #[.pointer (some ⟨b,0,none⟩)] w fun e w'=>e = .returned (.int .i64 out.length)∧w'=w:=by
 obtain ⟨ao,cap,rfl⟩:=HW.out.form
 obtain ⟨p,_,hb⟩:=HW.out.blk
 have c1:=hb.cell (i:=1) rfl
 clear hb
 go_enter Tryz.func63,Tryz.ntmps63
 go_wp2_with fail
 go_ret
 exact ⟨rfl,rfl⟩
theorem writeString_w {T:TypeId} {n:Nat} (hT:Bty T n) (b:Nat) (w:World) (out:Bytes) (rest:List Value) (hr:rest.length=n) (v:Value) (s:ByteArray) (hs:s.data.toList≠[]) (HW:Hid (BW T b out rest v w)) (hlen:out.length+s.size≤140737488355328) :
 Calls Tryz.prog 37 #[.pointer (some ⟨b,0,none⟩),.string s] w fun e w'=>∃ v',e = .returned (.tuple #[.int .i64 s.size,.nilIface])∧BW T b (out++s.data.toList) rest v' w'∧Wr b v w v' w':=by
 obtain ⟨i0,hi,hz0,hz1,hz2⟩:=u8_parts
 obtain ⟨p,hp,hb⟩:=HW.out.blk
 have HN:=hd hT.ne
 have hge:=HW.out.ge
 go_enter Tryz.func37,Tryz.ntmps37
 go_wp2_with fail
 refine (copyCheck_w hT b w p v rest hr hb hp).mono ?_
 rintro e w1 ⟨rfl,h1,hc1⟩
 have hown:=owns_keep HW.out.own hc1 (fun k hk=>by have:=hge k hk;simp;omega)
 have c1:=h1.cell (i:=1) rfl
 have HB1:=hd h1
 have HC1:=hd hc1
 have HGE:=hd hge
 have HP:=hd hp
 have HHB:=hd hb
 clear hb hp hge h1 hc1
 go_wp2_with (at_builtin;refine wpList_append_str rfl _ _ 71 9 rfl (b+1) 5 i0 Tryz.underlying71 Tryz.underlying9 hi hz0 hz1 hz2 _ _ _ rfl hown s rfl ?c3 ?c4 ?c5 ?kk)
 case c3=>unfold maxLen;omega
 case c4=>omega
 case c5=>have h3:=HC1.out.size;have h4:=HHB.out.lt;omega
 case kk =>
  intro v' w2 hown' hgrow hlies
  obtain ⟨ao,n',cap,rfl⟩:∃ ao n' cap,v' = .slice ao n' cap:=by
   rcases hown'.2 with ⟨hv,_⟩|⟨g,cap,cur,hv,_⟩
   · exact ⟨_,_,_,hv⟩
   exact ⟨_,_,_,hv⟩
  have hne1:v.ownBlock≠some b:=fun e=>by have:=HGE.out b e;omega
  have HB2:Hid (Blk w2 b (.pointer (some ⟨b,0,none⟩) :: v :: rest) T):=hd ((hgrow.block b HB1.out.lt (fun e=>hne1 e.symm)).trans HB1.out)
  have d1:=HB2.out.cell (i:=1) rfl
  have f1:=HB2.out.free 1
  have HO2:=hd hown'
  have HG2:=hd hgrow
  have hne2:(Value.slice ao n' cap).ownBlock≠some b:=fun e=>by have:=owns_ge hown' b e;omega
  have HNE2:=hd hne2
  have HLI:=hd hlies
  clear hown hown' hgrow c1 hne2 hne1 hlies
  go_wp2_with fail
  go_ret2
  have hO3:(w2.setCell ⟨b,1,none⟩ (.slice ao n' cap)).ownsRow (b+1) 5 1 (.slice ao n' cap) (out++s.data.toList).length (Lib.byteCells (out++s.data.toList)):=by
   have h5:=HO2.out
   rw[Lib.strCells_eq,← Lib.byteCells_append] at h5
   have h6:=owns_keep h5 ((Chg.refl [b] w2).setCell ⟨b,1,none⟩ (.slice ao n' cap) (.inl (by simp))) (fun k hk=>by simp;intro e;subst e;exact HNE2.out hk)
   simpa [Lib.byteCells_length] using h6
  refine ⟨_,rfl,⟨⟨_,.inr rfl,HB2.out.set 1 _⟩,hO3,fun e=>absurd (List.append_eq_nil_iff.1 e).2 hs⟩,?_,?_⟩
  · exact (Chg.trans (own:=b :: v.ownBlock.toList) (own1:=b :: v.ownBlock.toList) (HC1.out.mono (al1 (by simp))) ((Chg.refl _ _).grown HG2.out (fun k hk=>.inl (by simp[hk]))) (fun k hk=>.inl hk)).setCell _ _ (.inl (by simp))
  intro k hk
  rcases HLI.out k hk with h7|h7
  · exact .inl h7
  exact .inr (Nat.le_trans HC1.out.size h7)
end Go.Proofs.YtglepipfdmphhaaGreatDoor
namespace Go.Proofs.YtglepipfdmphhaaGreatDoor
set_option linter.unusedVariables false
set_option linter.unusedSimpArgs false
open Go Go.RowKit Go.Shelf
attribute [local irreducible] Go.wpStill
theorem own_freeze {w:World} {g n:Nat}:Chg [g] w (w.freeze ⟨g,0,none⟩ n):=by
 unfold World.freeze
 split
 · exact Chg.refl _ _
 exact ⟨rfl,rfl,rfl,by simp,fun k hk hn=>by
  simp only[Array.getElem?_modify]
  rw[if_neg (fun e=>hn (by simp[e]))]⟩
theorem string_w {T:TypeId} (b:Nat) (w:World) (out:Bytes) (rest:List Value) (v:Value) (HW:Hid (BW T b out rest v w)) :
 Calls Tryz.prog 39 #[.pointer (some ⟨b,0,none⟩)] w fun e w'=>e = .returned (.string ⟨out.toArray⟩)∧Chg v.ownBlock.toList w w':=by
 have mixed:Tryz.prog.follows .mixedOrders=true:=by kernel_rfl
 obtain ⟨p,_,hb⟩:=HW.out.blk
 by_cases h0:out=[]
 · have hv:=HW.out.nil h0
   subst h0
   subst hv
   have hUS:(Builtin.unsafeString_ #[154,3] 9 #[.pointer none,.int .i64 0]).run Tryz.prog w.drew = .ok (.string .empty) w.drew:=Lib.run_unsafeString_none w.drew _ _ _ none
   have c1:w.drew.cell? ⟨b,1,none⟩=some (.slice none 0 0):=hb.drew.cell (i:=1) rfl
   have hSD:(Builtin.unsafeSliceData_ #[71] 154 #[.slice none 0 0]).run Tryz.prog w.drew = .ok (.pointer none) w.drew:=rfl
   clear hb
   go_enter Tryz.func39,Tryz.ntmps39
   go_wp2_with fail
   go_region_o
   all_goals (go_wp2_with fail;go_ret;exact ⟨rfl,(Chg.refl _ _).drew⟩)
 have hl0:out.length≠0:=by simpa using h0
 have hown:=HW.out.own
 obtain ⟨g,cap,cur,rfl,hbg,hg,hnc,hcm,hcs,htake⟩:∃ g cap cur,v = .slice (some ⟨g,0,none⟩) out.length cap∧b+1≤g∧w.heap[g]? = some (.cells cur 5 (0,0))∧out.length≤cap∧cap≤maxLen∧cur.size=cap*1∧cur.toList.take (out.length*1)=Lib.byteCells out:=by
  rcases hown.2 with ⟨_,hz⟩|⟨g,cap,cur,hv,r⟩
  · exact absurd hz hl0
  exact ⟨g,cap,cur,hv,r⟩
 have c1:w.drew.cell? ⟨b,1,none⟩=some (.slice (some ⟨g,0,none⟩) out.length cap):=hb.drew.cell (i:=1) rfl
 have hSD:(Builtin.unsafeSliceData_ #[71] 154 #[.slice (some ⟨g,0,none⟩) out.length cap]).run Tryz.prog w.drew = .ok (.pointer (some ⟨g,0,none⟩)) w.drew :=
  Lib.run_unsafeSliceData_row _ _ _ _ _ _ (by omega)
 have hUS:(Builtin.unsafeString_ #[154,3] 9 #[.pointer (some ⟨g,0,none⟩),.int .i64 out.length]).run Tryz.prog w.drew = .ok (.string ⟨out.toArray⟩) (w.drew.freeze ⟨g,0,none⟩ out.length):=by
  refine Lib.run_unsafeString_row w.drew 154 3 9 5 Tryz.underlying154 (by kernel_rfl) g cur.size (by have hg':w.drew.heap[g]? = some (.cells cur 5 (0,0)):=hg;simp[World.shape?,hg']) out h0 (by omega) (by unfold maxLen at hcm;omega) ?_
  intro j x hx
  exact hown.cells (g:=g) rfl j (.int .u8 x.toNat) (by simp[Lib.byteCells,hx])
 have HGL:Hid (g < w.heap.size):=hd (Array.getElem?_eq_some_iff.1 hg).1
 clear hb hown hg htake hcs hcm hnc hbg
 go_enter Tryz.func39,Tryz.ntmps39
 go_wp2_with fail
 go_region_o
 all_goals (go_wp2_with fail;go_ret;exact ⟨rfl,show Chg [g] w _ from ((Chg.refl [g] w).drew).trans (own_freeze (g:=g)) (fun k hk=>.inl hk)⟩)
end Go.Proofs.YtglepipfdmphhaaGreatDoor
