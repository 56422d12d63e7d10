/-
 Printer, layer 18: rules.
-/
import Derived.Test.YtglepipfdmphhaaGreatDoorPrWw
import Derived.Test.YtglepipfdmphhaaGreatDoorPrX
import Derived.Test.YtglepipfdmphhaaGreatDoorPrL
import Derived.Deep.AppendLies
set_option maxRecDepth 100000
set_option maxHeartbeats 40000000
namespace Go.Proofs.YtglepipfdmphhaaGreatDoor
set_option linter.unusedVariables false
set_option linter.unusedSimpArgs false
open Go Go.RowKit Go.Shelf
attribute [local irreducible] Go.wpStill
theorem info_str8:∃ i,Tryz.prog.info? 9=some i∧i.zero=some (.string ⟨#[]⟩)∧i.size=1∧i.bytes=16:=by
 have h:(Tryz.prog.info? 9).map (fun i=>(i.zero,i.size,i.bytes))=some (some (.string ⟨#[]⟩),1,16):=by kernel_rfl
 cases hi:Tryz.prog.info? 9 with
 | none=>rw[hi] at h;cases h
 | some i =>
  rw[hi] at h
  simp only[Option.map_some,Option.some.injEq,Prod.mk.injEq] at h
  exact ⟨i,rfl,h⟩
def OwS (B:Nat) (l:List Bytes) (v:Value) (w:World):Prop:=w.ownsRow B 9 1 v l.length (l.map Pr.sv)
theorem OwS.nil (B:Nat) (w:World):OwS B [] (.slice none 0 0) w:=⟨by simp,.inl ⟨rfl,rfl⟩⟩
theorem OwS.form {B:Nat} {l:List Bytes} {v:Value} {w:World} (h:OwS B l v w):∃ ao cap,v = .slice ao l.length cap:=by
 rcases h.2 with ⟨rfl,h0⟩|⟨g,cap,cur,rfl,_⟩
 · exact ⟨none,0,by rw[h0]⟩
 exact ⟨_,_,rfl⟩
theorem OwS.wr {B b:Nat} {l:List Bytes} {u v:Value} {w w':World} {T:TypeId} {deep:Nat} {bad:Bool} {out:Bytes} (h:OwS B l u w) (hw:Wst T b deep bad out v w) (hr:Chg (b :: v.ownBlock.toList) w w') (hb:b < B):OwS B l u w':=by
 refine owns_keep h hr (fun k hk=>?_)
 have h1:=owns_ge h k hk
 rcases h.2 with ⟨rfl,_⟩|⟨g,cap,cur,rfl,hB,hg,_⟩
 · simp[Value.ownBlock] at hk
 simp only[Value.ownBlock,Option.some.injEq] at hk
 subst hk
 simp only[List.mem_cons,Option.mem_toList,not_or]
 refine ⟨by omega,?_⟩
 obtain ⟨o,h2,_⟩:=hw
 exact Lib.ownBlock_ne h2.own hg (by decide)
theorem OwS.quiet {B:Nat} {l:List Bytes} {u:Value} {w w':World} (h:OwS B l u w) (hr:Chg [] w w'):OwS B l u w':=owns_keep h hr (fun k hk=>by simp)
theorem Wst.grown {T:TypeId} {b deep B:Nat} {bad:Bool} {out:Bytes} {v u:Value} {w w':World} {l:List Bytes} (h:Wst T b deep bad out v w) (ho:OwS B l u w) (hb:b < B) (hg:w.grownBy w' u.ownBlock):Wst T b deep bad out v w':=by
 have hc:Chg u.ownBlock.toList w w':=⟨hg.os,hg.tape,hg.output,hg.size,fun k hk hn=>hg.block k hk (by
  intro e
  rw[← e] at hn
  simp at hn)⟩
 obtain ⟨o,h1,h2⟩:=h
 refine ⟨o,h1.keep hc ?_ ?_,h2⟩
 · intro hm
   rw[Option.mem_toList] at hm
   have:=owns_ge ho b hm
   omega
 intro k hk hm
 rw[Option.mem_toList] at hm
 rcases ho.2 with ⟨rfl,_⟩|⟨g,cap,cur,rfl,hB,hg2,_⟩
 · simp[Value.ownBlock] at hm
 simp only[Value.ownBlock,Option.some.injEq] at hm
 subst hm
 exact Lib.ownBlock_ne h1.own hg2 (by decide) hk
theorem OwS.chg {B:Nat} {l:List Bytes} {u:Value} {w0 w w':World} (ho:OwS B l u w) (hc:Chg [] w0 w) (hB:w0.heap.size≤B) (hg:w.grownBy w' u.ownBlock):Chg [] w0 w':=hc.grown hg (fun k hk=>.inr (by have:=owns_ge ho k hk;omega))
theorem OwS.cells {B:Nat} {l:List Bytes} {ao:Option Addr} {n cap:Nat} {w:World} (h:OwS B l (.slice ao n cap) w) (hl:l≠[]):∃ g,ao=some ⟨g,0,none⟩∧n=l.length∧l.length≤cap∧g < w.heap.size∧∀ (j:Nat) (x:ByteArray),(l.map (fun s:Bytes=>(⟨s.toArray⟩:ByteArray)))[j]? = some x→w.cell? ⟨g,0+j,none⟩=some (.string x):=by
 rcases h.2 with ⟨he,h0⟩|⟨g,cap',cur,he,hB,hg,hle,hm,hsz,ht⟩
 · exact absurd (List.eq_nil_of_length_eq_zero h0) hl
 cases he
 refine ⟨g,rfl,rfl,hle,(Array.getElem?_eq_some_iff.1 hg).1,fun j x hx=>?_⟩
 rw[cell_of_row w g _ _ _ (0,0) hg,Nat.zero_add]
 have hj:j < l.length:=by
  have:=(List.getElem?_eq_some_iff.1 hx).1
  simpa using this
 have h5:(cur.toList.take (l.length*1))[j]? = (l.map Pr.sv)[j]?:=by rw[ht]
 rw[List.getElem?_take_of_lt (by omega),List.getElem?_map] at h5
 rw[List.getElem?_map] at hx
 cases hlj:l[j]? with
 | none=>rw[hlj] at hx;cases hx
 | some s =>
  rw[hlj] at hx h5
  simp only[Option.map_some,Option.some.injEq] at hx
  subst hx
  have h6:cur.toList[j]? = some (Pr.sv s):=by simpa using h5
  rw[Array.getElem?_toList] at h6
  exact h6
namespace Pr
theorem rules_ascii {l:List Itm} (ho:rulesOk l=true) (hl:(rulesText l).length≤20000):∀ c ∈ rulesText l,c.toNat < 128:=by
 have h1:(full (l.map itemL)).length≤20000:=by
  rcases Nat.lt_or_ge 20000 (full (l.map itemL)).length with h2|h2
  · have h3:=puts_over (out:=[]) (l:=l.map itemL) (by simpa using h2)
    unfold rulesText at hl
    omega
  exact h2
 have h4:rulesText l=full (l.map itemL):=by
  unfold rulesText
  rw[puts_full (out:=[]) (by simpa using h1)]
  rfl
 rw[h4]
 exact (rules_lws (List.all_eq_true.1 (and2 ho).2)).2.2.1
theorem list_take12 (y:List Tst) (q:Bool):((q || (decide (y.length=0) || decide (12 < y.length))) || !((y.take (min y.length 12)).take (min y.length 12)).all testOk)=(q || !listOk y):=by
 unfold listOk
 rw[List.take_take,Nat.min_self]
 by_cases h:y.length≤12
 · rw[Nat.min_eq_left h,List.take_length,decide_eq_true h,decide_eq_false (p:=12 < y.length) (by omega)]
   cases q <;> cases y.all testOk <;> by_cases h0:y.length=0 <;> simp[h0] <;> omega
 rw[decide_eq_false h,decide_eq_true (p:=12 < y.length) (by omega)]
 cases q <;> simp
end Pr
def SzI (x:Pr.Itm):Prop:=x.name.length≤1000∧∀ y ∈ x.whn,∀ t ∈ y,t.attr.length≤1000∧t.name.length≤1000
theorem rules_r {w:World} (HL:Hid (Laid w)) (l:List Pr.Itm) (ao:Option Addr) (cap n:Nat) (HN:Hid (l.length=n)) (HM:Hid (RdS 9 Pr.RItm w (.slice ao n cap) l)) (hn:n≤1000000) (HSL:Hid (∀ x ∈ l,SzI x)) {R:Ending→World→Prop}
 (hR:∀ w',Chg [] w w'→R (.returned (.tuple #[.string ⟨(Pr.rules l).1.toArray⟩,.int .i64 ((Pr.rules l).2:Nat)])) w') :
 Calls Tryz.prog 11 #[.agg #[.slice ao n cap]] w R:=by
 have HRR:=hd hR
 clear hR
 obtain ⟨ims,hims,mz0,mz1,mz2⟩:=info_str8
 have HIM:Hid (Tryz.prog.info? 9=some ims∧ims.zero=some (.string ⟨#[]⟩)∧ims.size=1∧ims.bytes=16):=hd ⟨hims,mz0,mz1,mz2⟩
 clear hims mz0 mz1 mz2
 go_enter Tryz.func11,Tryz.ntmps11
 go_upto_region 2 with (fail)
 obtain ⟨wa,hwa⟩:∃ W,W=w.alloc (.cells #[.slice ao n cap] 38):=⟨_,rfl⟩
 rw[← hwa]
 obtain ⟨wb,hwb⟩:∃ W,W=wa.alloc (.cells #[.pointer none,.slice none 0 0,.int .i64 0,.bool false] 107):=⟨_,rfl⟩
 rw[← hwb]
 obtain ⟨b,hb⟩:∃ X,X=w.heap.size+1:=⟨_,rfl⟩
 rw[← hb]
 obtain ⟨G,hG⟩:∃ X,X=w.heap.size:=⟨_,rfl⟩
 rw[← hG]
 have hb2:wa.heap.size=b:=by rw[hwa,hb];simp
 obtain ⟨v0,hv0⟩:∃ z,z=Value.slice none 0 0:=⟨_,rfl⟩
 have HWb:Hid (Wst 107 b 0 false [] v0 wb):=hd (by
  have h1:=BW.new wa 107 [.int .i64 0,.bool false]
  rw[hb2] at h1
  rw[hwb,hv0]
  exact ⟨[],h1,by simp,fun _=>rfl⟩)
 have HG:Hid (Blk wb G [.slice ao n cap] 38):=hd (by rw[hwb,hwa,hG];exact (Blk.new w [.slice ao n cap] _).alloc _)
 have HQb:Hid (Chg [] w wb):=hd (by rw[hwb,hwa];exact ((Chg.refl _ _).alloc _).alloc _)
 have NG:G≠b:=by omega
 have HB0:Hid (w.heap.size≤b):=hd (by omega)
 have hT:Bty 107 2:=.inr (.inr ⟨rfl,rfl⟩)
 have HT2:=hd hT
 have HBB:Hid (b < wb.heap.size):=hd (by rw[hwb,← hb2];simp)
 have g0:=HG.out.cell (i:=0) rfl
 have k3:=HWb.out.c3.1
 have f3:=HWb.out.c3.2
 clear hwa hwb hb hG hb2 hv0 hT
 go_upto_region 3 with (fail)
 clear g0 k3 f3
 obtain ⟨w1,hw1⟩:∃ W,W=wb.setCell ⟨b,3,none⟩ (.bool (decide (200 < (n:Int)))):=⟨_,rfl⟩
 try rw[← hw1]
 have C1:Hid (Chg [b] wb w1):=hd (by rw[hw1];exact (Chg.refl _ _).setCell _ _ (.inl (by simp)))
 have HW1:Hid (Wst 107 b 0 (!decide (n≤200)) [] v0 w1):=hd (by
  rw[hw1,show decide (200 < (n:Int)) = !decide (n≤200) by rw[← decide_not];exact decide_eq_decide.2 (by omega)]
  exact HWb.out.set3 _ (fun _=>rfl))
 have HQ1:Hid (Chg [] w w1):=hd (HQb.out.since C1.out HB0.out)
 have HBB1:Hid (b < w1.heap.size):=hd (Nat.lt_of_lt_of_le HBB.out C1.out.size)
 have g0:=(C1.out.blk HG.out (by simp[NG])).cell (i:=0) rfl
 clear hw1 C1 HWb HQb HG HBB
 go_wp2_with fail
 clear g0
 go_loopw [23] (fun i wr=>∃ (j:Nat) (vj:Value),i = .int .i64 (j:Int)∧j≤n∧Hid (Wst 107 b 0 (!(decide (n≤200) && (l.take j).all Pr.itemOk)) (Pr.puts [] ((l.take j).map Pr.itemL)) vj wr)∧Hid (Chg [] w wr)∧Hid (b < wr.heap.size)) (fun i _=>n - intN i)
 case atStart=>exact ⟨0,v0,rfl,Nat.zero_le _,hd (by simpa [Pr.puts] using HW1.out),HQ1,HBB1⟩
 case round =>
  obtain ⟨j,vj,rfl,hj,HWJ,HQR,HBR⟩:=hrel
  clear HW1 HQ1 HBB1
  by_cases hlt:j < n
  · obtain ⟨x,hr⟩:∃ x,l[j]? = some x:=⟨l[j]'(by rw[HN.out];exact hlt),by simp⟩
    obtain ⟨g,off,cs,ha,hgl,hl,⟨wv,hcs,i1,i2,i3,i4,i5,i6,hwn,hnl⟩,hcell⟩:=HM.out.elem hr
    subst ha
    have hcell:∀ (k:Nat) (c:Value),cs[k]? = some c→wr.cell? ⟨g,off+j*9+k,none⟩=some c:=fun k c h=>(World.cell?_of_block (HQR.out.block g hgl (by simp))).trans (hcell k c h)
    obtain ⟨ua,uc,rfl,huc,hul⟩:=hwn.form
    subst hcs
    have HWH:=hd hwn
    have hmem:x ∈ l:=List.mem_of_getElem? hr
    have HZ:=hd (HSL.out x hmem)
    have bx:=HZ.out.1
    have HI:Hid (Pr.I64 x.n∧(Pr.I64 x.r.1∧Pr.I64 x.r.2)∧Pr.I64 x.s.1∧Pr.I64 x.s.2):=hd ⟨i2,⟨i3,i4⟩,i5,i6⟩
    have c0:wr.cell? ⟨g,off+j*9,none⟩=some (.int .i64 x.kind):=hcell 0 _ rfl
    have c1:wr.cell? ⟨g,off+j*9+1,none⟩=some (.string ⟨x.name.toArray⟩):=hcell 1 _ rfl
    have c2:wr.cell? ⟨g,off+j*9+2,none⟩=some (.slice ua x.whn.length uc):=hcell 2 _ rfl
    have c3:wr.cell? ⟨g,off+j*9+3,none⟩=some (.int .i64 x.n):=hcell 3 _ rfl
    have c4:wr.cell? ⟨g,off+j*9+4,none⟩=some (.int .i64 x.r.1):=hcell 4 _ rfl
    have c5:wr.cell? ⟨g,off+j*9+5,none⟩=some (.int .i64 x.r.2):=hcell 5 _ rfl
    have c6:wr.cell? ⟨g,off+j*9+6,none⟩=some (.int .i64 x.s.1):=hcell 6 _ rfl
    have c7:wr.cell? ⟨g,off+j*9+7,none⟩=some (.int .i64 x.s.2):=hcell 7 _ rfl
    have c8:wr.cell? ⟨g,off+j*9+8,none⟩=some (.int .i64 x.at_):=hcell 8 _ rfl
    have htk:l.take (j+1)=l.take j++[x]:=by obtain ⟨hj2,rfl⟩:=List.getElem?_eq_some_iff.1 hr;exact List.take_succ_eq_append_getElem hj2
    have HTK:=hd htk
    have HNOK:Hid (Pr.itemOk x=false→Pr.rules l=([],1)):=hd (fun h=>by
     have h2:l.all Pr.itemOk=false:=List.all_eq_false.2 ⟨x,hmem,by rw[h];decide⟩
     unfold Pr.rules Pr.rulesOk
     rw[h2,Bool.and_false]
     rfl)
    have q1:(j:Int) < (n:Int):=by omega
    have q0:(0:Int)≤(j:Int):=by omega
    obtain ⟨m,hm⟩:∃ m,m=x.whn.length:=⟨_,rfl⟩
    rw[← hm] at c2 HWH
    have HMN:=hd hm
    clear hr hcell hl hgl htk hwn hnl i1 i2 i3 i4 i5 i6 hm huc hul hmem
    go_upto_region 6 with (fail)
    obtain ⟨w4,hw4⟩:∃ W,W=wr.alloc (.cells #[.int .i64 x.kind,.string ⟨x.name.toArray⟩,.slice ua m uc,.int .i64 x.n,.int .i64 x.r.1,.int .i64 x.r.2,.int .i64 x.s.1,.int .i64 x.s.2,.int .i64 x.at_] 69):=⟨_,rfl⟩
    rw[← hw4]
    obtain ⟨D,hD⟩:∃ X,X=wr.heap.size:=⟨_,rfl⟩
    rw[← hD]
    have HD:=newB hw4 hD
    have C4:=newC hw4
    have ND:D≠b:=by have:=HBR.out;omega
    have HW4:=hd (HWJ.out.quiet C4.out)
    have HQ4:Hid (Chg [] w w4):=hd (HQR.out.trans C4.out (by simp))
    have HB4:Hid (b < w4.heap.size):=hd (Nat.lt_of_lt_of_le HBR.out C4.out.size)
    clear hw4 hD c0 c1 c2 c3 c4 c5 c6 c7 c8 C4 HWJ HBR
    have d0:=HD.out.cell (i:=0) rfl
    have d1:=HD.out.cell (i:=1) rfl
    have d2:=HD.out.cell (i:=2) rfl
    have d3:=HD.out.cell (i:=3) rfl
    have d4:=HD.out.cell (i:=4) rfl
    have d5:=HD.out.cell (i:=5) rfl
    have d6:=HD.out.cell (i:=6) rfl
    have d7:=HD.out.cell (i:=7) rfl
    have d8:=HD.out.cell (i:=8) rfl
    have hbad:Pr.itemOk x=false→R (.returned (.tuple #[.string ⟨#[]⟩,.int .i64 1])) w4:=fun h=>by
     have h1:=HRR.out w4 HQ4.out
     rw[HNOK.out h] at h1
     exact h1
    have HBAD:=hd hbad
    clear hbad
    by_cases hk1:x.kind < 1
    · have HF:Hid (Pr.itemOk x=false):=hd (by unfold Pr.itemOk;rw[decide_eq_false (p:=1≤x.kind) (by omega)];simp)
      go_wp2_with fail
      exact HBAD.out HF.out
    by_cases hk7:7 < x.kind
    · have HF:Hid (Pr.itemOk x=false):=hd (by unfold Pr.itemOk;rw[decide_eq_false (p:=x.kind≤7) (by omega)];simp)
      go_wp2_with fail
      exact HBAD.out HF.out
    by_cases hw12:12 < m
    · have HF:Hid (Pr.itemOk x=false):=hd (by unfold Pr.itemOk;rw[← HMN.out,decide_eq_false (p:=m≤12) (by omega)];simp)
      have e12:(12:Int) < (m:Int):=by omega
      go_wp2_with fail
      exact HBAD.out HF.out
    have e12:¬ (12:Int) < (m:Int):=by omega
    have HIOK:Hid (Pr.itemOk x=(Pr.wordsOk x && x.whn.all Pr.listOk)):=hd (by unfold Pr.itemOk;rw[← HMN.out,decide_eq_true (p:=1≤x.kind) (by omega),decide_eq_true (p:=x.kind≤7) (by omega),decide_eq_true (p:=m≤12) (by omega)];simp)
    have HKK:Hid (1≤x.kind∧x.kind≤7):=hd ⟨by omega,by omega⟩
    go_wp2_with fail
    refine words_r HL HB0 HQ4 HW4 x HKK.out HI bx ua m uc (fun w5 h5 h6=>?_)
    have HW5:=hd h5
    have HQ5:Hid (Chg [] w w5):=hd (h6.seen HW4.out HQ4.out HB0.out)
    have HB5:Hid (b < w5.heap.size):=hd (Nat.lt_of_lt_of_le HB4.out h6.chg.size)
    have HD5:=hd (HW4.out.blk h6 HD.out (by decide) ND)
    clear h5 h6 hk1 hk7 d0 d1 d2 d3 d4 d5 d6 d7 d8 HW4 HQ4 HB4 HD HBAD e12
    obtain ⟨s0,hs0⟩:∃ z,z=Pr.wordsS x:=⟨_,rfl⟩
    rw[← hs0]
    have HS0:=hd hs0
    have gs0:s0.length≤2000:=by
     rw[hs0]
     have h1:=Pr.kindW_len x.kind
     have h2:=Pr.nums_len [x.n] (by intro q hq;rw[List.mem_singleton] at hq;rw[hq];exact HI.out.1)
     have h3:=Pr.ratioS_len HI.out.2.1
     have h4:=Pr.ratioS_len HI.out.2.2
     have h5:=Pr.partS_len HI.out.2.1 Pr.tFee (by decide)
     have h6:=Pr.partS_len HI.out.2.2 Pr.tTax (by decide)
     unfold Pr.wordsS
     simp only[List.length_append,List.length_singleton] at h2 ⊢
     have ht1:Pr.tLimit.length=6:=rfl
     have ht2:Pr.tCap.length=4:=rfl
     have ht3:Pr.tShare.length=6:=rfl
     repeat' split
     all_goals (try simp only[List.length_append,List.length_nil])
     all_goals omega
    clear hs0
    obtain ⟨bx5,hbx⟩:∃ z,z=((!(decide (n≤200) && (l.take j).all Pr.itemOk)) || !Pr.wordsOk x):=⟨_,rfl⟩
    rw[← hbx] at HW5
    have HBX:=hd hbx
    clear hbx
    obtain ⟨oj,hoj⟩:∃ z,z=Pr.puts [] ((l.take j).map Pr.itemL):=⟨_,rfl⟩
    rw[← hoj] at HW5
    have HOJ:=hd hoj
    clear hoj
    have d2:=HD5.out.cell (i:=2) rfl
    go_wp2_with fail
    clear d2
    go_loopw [46,7,8] (fun i sv wv wr=>∃ (k:Nat) (ss ww:Bytes),i = .int .i64 (k:Int)∧sv = .string ⟨ss.toArray⟩∧wv = .string ⟨ww.toArray⟩∧k≤m∧ss.length≤2000+80000*k∧ww.length≤10∧Hid (ww=if k=0 then Pr.tWhen else Pr.tOr)∧Hid (Wst 107 b 0 (bx5 || !(x.whn.take k).all Pr.listOk) oj vj wr)∧Hid (Chg [] w wr)∧Hid (b < wr.heap.size)∧Hid ((bx5 || !(x.whn.take k).all Pr.listOk)=false→ss=s0++Pr.whensS Pr.tWhen (x.whn.take k))) (fun i _ _ _=>m - intN i)
    case atStart=>exact ⟨0,s0,Pr.tWhen,rfl,rfl,rfl,Nat.zero_le _,by omega,by decide,hd rfl,hd (by simpa using HW5.out),HQ5,HB5,hd (fun _=>by simp[Pr.whensS])⟩
    case round =>
     obtain ⟨k,ss,ww,rfl,rfl,rfl,hk,gss,gww,HWW,HWK,HQK,HBK,HSS⟩:=hrel
     clear HW5 HQ5 HB5 HD5
     by_cases hkm:k < m
     · obtain ⟨y,hr⟩:∃ y,x.whn[k]? = some y:=⟨x.whn[k]'(by rw[← HMN.out];exact hkm),by simp⟩
       obtain ⟨g2,of2,cs2,ha,hgl,hl,⟨yv,hcs,hyt⟩,hcell⟩:=HWH.out.elem hr
       subst ha
       obtain ⟨ya,yc,rfl,hyc,hyl⟩:=hyt.form
       subst hcs
       have HYT:=hd hyt
       have c0:wr.cell? ⟨g2,of2+k,none⟩=some (.slice ya y.length yc):=by have h9:=(World.cell?_of_block (HQK.out.block g2 hgl (by simp))).trans (hcell 0 _ rfl);simpa using h9
       have HZY:=hd (HZ.out.2 y (List.mem_of_getElem? hr))
       have htk:x.whn.take (k+1)=x.whn.take k++[y]:=by obtain ⟨hj2,rfl⟩:=List.getElem?_eq_some_iff.1 hr;exact List.take_succ_eq_append_getElem hj2
       have HTY:=hd htk
       have p1:(k:Int) < (m:Int):=by omega
       have p0:(0:Int)≤(k:Int):=by omega
       have HYR:Hid (Rch y.length):=hd hyl
       obtain ⟨yn,hyn⟩:∃ z,z=y.length:=⟨_,rfl⟩
       rw[← hyn] at c0 hyc HYT
       have HYN:=hd hyn
       clear hr hcell hl hgl htk hyt hyl hyn
       go_upto_region 13 with (fail)
       clear c0
       obtain ⟨qk,hqk⟩:∃ z,z=(bx5 || !(x.whn.take k).all Pr.listOk):=⟨_,rfl⟩
       rw[← hqk] at HWK HSS
       have HQQ:=hd hqk
       clear hqk
       have k3:=HWK.out.c3.1
       have f3:=HWK.out.c3.2
       go_cut [] (fun wx=>wx=wr.setCell ⟨b,3,none⟩ (.bool (qk || (decide (yn=0) || decide (12 < yn)))))
       case first =>
        cases qk with
        | true =>
         go_wp2_with fail
         go_meet
         rfl
        | false =>
         by_cases h0:yn=0
         · subst h0
           go_wp2_with fail
           go_meet
           rfl
         have h1:¬ (yn:Int)=0:=by omega
         have h2:((yn:Int) == 0)=false:=by rw[beq_eq_false_iff_ne];exact h1
         by_cases h12:12 < yn
         · have h3:(12:Int) < (yn:Int):=by omega
           go_wp2_with fail
           go_meet
           rw[decide_eq_true h12]
           simp
         have h3:¬ (12:Int) < (yn:Int):=by omega
         go_wp2_with fail
         go_meet
         rw[decide_eq_false h12,decide_eq_false h0]
         rfl
       case rest =>
        obtain ⟨w6,hw6⟩:∃ z,z=wc:=⟨_,rfl⟩
        rw[← hw6] at hcut ⊢
        clear hw6
        have HW6:Hid (Wst 107 b 0 (qk || (decide (yn=0) || decide (12 < yn))) oj vj w6):=hd (by rw[hcut];exact HWK.out.set3 _ (fun e=>(Bool.or_eq_false_iff.1 e).1))
        have C6:Hid (Chg [b] wr w6):=hd (by rw[hcut];exact (Chg.refl _ _).setCell _ _ (.inl (by simp)))
        have HQ6:Hid (Chg [] w w6):=hd (HQK.out.since C6.out HB0.out)
        have HB6:Hid (b < w6.heap.size):=hd (Nat.lt_of_lt_of_le HBK.out C6.out.size)
        clear hcut C6 HWK HQK HBK k3 f3
        go_upto_region 15 with (fail)
        obtain ⟨mm,hmm⟩:∃ z,z=min yn 12:=⟨_,rfl⟩
        have HMM:=hd hmm
        have hm1:mm≤yn:=by omega
        have hm2:mm≤12:=by omega
        go_cut [69,70,71] (fun s1 s2 s3 wx=>wx=w6∧s1 = .slice ya mm yc∧s2 = .int .i64 (mm:Int)∧s3 = .int .i64 0)
        case first =>
         by_cases h12:12 < yn
         · obtain ⟨rfl⟩:mm=12:=by omega
           have h3:min (yn:Int) 12=12:=by omega
           have h4:¬ (yn:Int)≤12:=by omega
           have h5:(12:Int)≤(yc:Int):=by omega
           have h6:¬ (yc:Int) < 12:=by omega
           have h7:12≤yc:=by omega
           have h8:¬ yc < 12:=by omega
           clear hmm
           go_wp2_with fail
           go_meet
           exact ⟨rfl,rfl,rfl,rfl⟩
         obtain ⟨rfl⟩:mm=yn:=by omega
         have h3:min (yn:Int) 12=(yn:Int):=by omega
         have h4:(yn:Int)≤12:=by omega
         have h5:(yn:Int)≤(yc:Int):=by omega
         have h6:¬ (yc:Int) < (yn:Int):=by omega
         have h7:¬ yc < yn:=by omega
         clear hmm
         go_wp2_with fail
         go_meet
         exact ⟨rfl,rfl,vint (by omega),rfl⟩
        case rest =>
         obtain ⟨e1,e2,e3,e4⟩:=hcut
         subst e2 e3 e4
         obtain ⟨w7,hw7⟩:∃ z,z=wc:=⟨_,rfl⟩
         rw[← hw7] at e1 ⊢
         subst e1
         clear hw7 hmm
         have HYM:Hid (RdS 5 Pr.RTst w (.slice ya mm yc) (y.take mm)):=hd (HYT.out.take mm yc (by rw[← HYN.out];exact hm1) (by omega))
         have HYL:Hid ((y.take mm).length=mm):=hd (by rw[List.length_take,← HYN.out];omega)
         have HZM:Hid (∀ t ∈ y.take mm,t.attr.length≤1000∧t.name.length≤1000):=hd (fun t ht=>HZY.out t (List.mem_of_mem_take ht))
         obtain ⟨ym,hym⟩:∃ z,z=y.take mm:=⟨_,rfl⟩
         rw[← hym] at HYM HYL HZM
         have HYM2:=hd hym
         clear hym
         obtain ⟨B,hB⟩:∃ z,z=w7.heap.size:=⟨_,rfl⟩
         have HBS:Hid (w.heap.size≤B∧b < B):=hd ⟨by rw[hB];exact HQ6.out.size,by rw[hB];exact HB6.out⟩
         have HB7:Hid (B≤w7.heap.size):=hd (by omega)
         clear hB
         obtain ⟨q6,hq6⟩:∃ z,z=(qk || (decide (yn=0) || decide (12 < yn))):=⟨_,rfl⟩
         rw[← hq6] at HW6
         have HQ66:=hd hq6
         clear hq6
         go_wp2_with fail
         go_loopw [71,11] (fun i va wr=>∃ (p:Nat) (sl:List Bytes) (vo:Option Addr) (vc:Nat),i = .int .i64 (p:Int)∧va = .slice vo p vc∧p≤mm∧Hid (OwS B sl (.slice vo p vc) wr)∧Hid (sl.length=p)∧Hid (∀ s ∈ sl,s.length≤3000)∧Hid (Wst 107 b 0 (q6 || !(ym.take p).all Pr.testOk) oj vj wr)∧Hid (Chg [] w wr)∧Hid (B≤wr.heap.size)∧Hid ((q6 || !(ym.take p).all Pr.testOk)=false→sl=(ym.take p).map Pr.testS)) (fun i _ _=>mm - intN i)
         case atStart=>exact ⟨0,[],none,0,rfl,rfl,Nat.zero_le _,hd (OwS.nil _ _),hd rfl,hd (by simp),hd (by simpa using HW6.out),HQ6,HB7,hd (fun _=>by simp)⟩
         case round =>
          obtain ⟨p,sl,vo,vc,rfl,rfl,hp,HOS,HSN,HS3,HWP,HQP,HBP,HSP⟩:=hrel
          clear HW6 HQ6 HB7
          by_cases hpm:p < mm
          · obtain ⟨t,hr⟩:∃ t,ym[p]? = some t:=⟨ym[p]'(by rw[HYL.out];exact hpm),by simp⟩
            obtain ⟨g3,of3,cs3,ha,hgl,hl,⟨hcs,i1,i2,hnl⟩,hcell⟩:=HYM.out.elem hr
            subst ha hcs
            have hcell:∀ (k:Nat) (c:Value),[Pr.sv t.attr,Pr.iv t.op,Pr.sv t.name,Pr.iv t.n,Pr.iv t.at_][k]? = some c→wr.cell? ⟨g3,of3+p*5+k,none⟩=some c:=fun k c h=>(World.cell?_of_block (HQP.out.block g3 hgl (by simp))).trans (hcell k c h)
            have c0:wr.cell? ⟨g3,of3+p*5,none⟩=some (.string ⟨t.attr.toArray⟩):=hcell 0 _ rfl
            have c1:wr.cell? ⟨g3,of3+p*5+1,none⟩=some (.int .i64 t.op):=hcell 1 _ rfl
            have c2:wr.cell? ⟨g3,of3+p*5+2,none⟩=some (.string ⟨t.name.toArray⟩):=hcell 2 _ rfl
            have c3:wr.cell? ⟨g3,of3+p*5+3,none⟩=some (.int .i64 t.n):=hcell 3 _ rfl
            have c4:wr.cell? ⟨g3,of3+p*5+4,none⟩=some (.int .i64 t.at_):=hcell 4 _ rfl
            have HI2:Hid (Pr.I64 t.op∧Pr.I64 t.n):=hd ⟨i1,i2⟩
            have bt:=HZM.out t (List.mem_of_getElem? hr)
            have BT:=hd bt
            have htk:ym.take (p+1)=ym.take p++[t]:=by obtain ⟨hj2,rfl⟩:=List.getElem?_eq_some_iff.1 hr;exact List.take_succ_eq_append_getElem hj2
            have HTP:=hd htk
            have p1:(p:Int) < (mm:Int):=by omega
            have p0:(0:Int)≤(p:Int):=by omega
            clear hr hcell hl hgl htk hnl i1 i2 bt
            go_upto_region 18 with (fail)
            obtain ⟨w8,hw8⟩:∃ W,W=wr.alloc (.cells #[.string ⟨t.attr.toArray⟩,.int .i64 t.op,.string ⟨t.name.toArray⟩,.int .i64 t.n,.int .i64 t.at_] 63):=⟨_,rfl⟩
            rw[← hw8]
            obtain ⟨E,hE⟩:∃ X,X=wr.heap.size:=⟨_,rfl⟩
            rw[← hE]
            have HE:=newB hw8 hE
            have C8:=newC hw8
            have HW8:=hd (HWP.out.quiet C8.out)
            have HQ8:Hid (Chg [] w w8):=hd (HQP.out.trans C8.out (by simp))
            have HB8:Hid (B≤w8.heap.size):=hd (Nat.le_trans HBP.out C8.out.size)
            have HO8:=hd (HOS.out.quiet C8.out)
            clear hw8 hE c0 c1 c2 c3 c4 C8 HWP HQP HBP HOS
            have d0:=HE.out.cell (i:=0) rfl
            have d1:=HE.out.cell (i:=1) rfl
            have d2:=HE.out.cell (i:=2) rfl
            have d3:=HE.out.cell (i:=3) rfl
            have d4:=HE.out.cell (i:=4) rfl
            go_wp2_with fail
            refine test_r HL HB0 HQ8 HW8 t HI2 BT.out (fun w9 s9 h5 h6 h7 h8=>?_)
            have HW9:=hd h5
            have HQ9:Hid (Chg [] w w9):=hd (h6.seen HW8.out HQ8.out HB0.out)
            have HB9:Hid (B≤w9.heap.size):=hd (Nat.le_trans HB8.out h6.chg.size)
            have HO9:=hd (HO8.out.wr HW8.out h6.chg HBS.out.2)
            have H79:=hd h7
            have H89:=hd h8
            clear h5 h6 h7 h8 d0 d1 d2 d3 d4 HE HW8 HQ8 HB8 HO8
            obtain ⟨sb,hsb⟩:∃ z:ByteArray,z=⟨s9.toArray⟩:=⟨_,rfl⟩
            rw[← hsb]
            have HSB:=hd hsb
            clear hsb
            have HOA:Hid (OwS B sl (.slice vo p vc) (w9.alloc (.cells #[.string sb] 9))):=hd (HO9.out.quiet ((Chg.refl _ _).alloc _))
            have HWA:Hid (Wst 107 b 0 (q6 || !(ym.take p).all Pr.testOk || !Pr.testOk t) oj vj (w9.alloc (.cells #[.string sb] 9))):=hd (HW9.out.quiet ((Chg.refl _ _).alloc _))
            have HQA:Hid (Chg [] w (w9.alloc (.cells #[.string sb] 9))):=hd (HQ9.out.alloc _)
            have HBA:Hid (B≤(w9.alloc (.cells #[.string sb] 9)).heap.size):=hd (Nat.le_trans HB9.out ((Chg.refl [] _).alloc _).size)
            have hown:(w9.alloc (.cells #[.string sb] 9)).ownsRow B 9 1 (.slice vo p vc) p (sl.map Pr.sv):=by have h9:=HOA.out;unfold OwS at h9;rw[HSN.out] at h9;exact h9
            have HOW:=hd hown
            clear hown
            go_wp2_with (at_builtin;refine wpList_append_lies _ rfl (.tmp 75) (.tmp 78) 109 rfl B 9 ims (.string ⟨#[]⟩) 1 16 Tryz.underlying109 HIM.out.1 HIM.out.2.1 HIM.out.2.2.1 HIM.out.2.2.2 rfl (by decide) (.slice vo p vc) p (sl.map Pr.sv) rfl HOW.out ⟨w9.heap.size,0,none⟩ 1 1 [.string sb] rfl rfl (fun j u hj=>by rw[addr_add,Nat.zero_add];exact (Blk.new w9 [.string sb] 9).cell hj) (by intro u hu;simp at hu;rcases hu with rfl;rfl) (by omega) (by unfold maxLen;omega) (by omega) HBA.out _ rfl ?kk)
            case kk =>
             intro g9 cap9 w10 h1 h2 h3 h4
             have HOX:Hid (OwS B (sl++[s9]) (.slice (some ⟨g9,0,none⟩) (p+1) cap9) w10):=hd (by
              unfold OwS
              rw[List.length_append,List.length_singleton,HSN.out,List.map_append]
              rw[HSB.out] at h1
              exact h1)
             have HWX:=hd (HWA.out.grown HOA.out HBS.out.2 h2)
             have HQX:Hid (Chg [] w w10):=hd (HOA.out.chg HQA.out HBS.out.1 h2)
             have HBX2:Hid (B≤w10.heap.size):=hd (Nat.le_trans HBA.out h2.size)
             clear h1 h2 h3 h4
             go_wp2_with fail
             go_roundw
             case rel=>exact ⟨p+1,sl++[s9],_,cap9,vint (by omega),rfl,by omega,HOX,hd (by rw[List.length_append,HSN.out];rfl),hd (fun s hs=>by rcases List.mem_append.1 hs with h|h;exact HS3.out s h;rw[List.mem_singleton] at h;rw[h];exact H89.out),hd (by rw[HTP.out,List.all_append,List.all_cons,List.all_nil,Bool.and_true,Bool.not_and,← Bool.or_assoc];exact HWX.out),HQX,HBX2,hd (fun e=>by
              rw[HTP.out,List.all_append,List.all_cons,List.all_nil,Bool.and_true,Bool.not_and,← Bool.or_assoc] at e
              obtain ⟨e1,e2⟩:=Bool.or_eq_false_iff.1 e
              rw[HTP.out,List.map_append,HSP.out e1,H79.out (by simpa using e2)]
              rfl)⟩
             case measure=>simp[intN];omega
          obtain ⟨rfl⟩:p=mm:=by omega
          have r1:¬ (mm:Int) < (mm:Int):=by omega
          have hfin:(q6 || !(ym.take mm).all Pr.testOk)=(qk || !Pr.listOk y):=by rw[HQ66.out,HYM2.out,HMM.out,HYN.out];exact Pr.list_take12 y qk
          have HFIN:=hd hfin
          rw[hfin] at HWP HSP
          have HSL2:Hid ((qk || !Pr.listOk y)=false→sl=y.map Pr.testS):=hd (fun e=>by
           have h1:=HSP.out e
           have h2:Pr.listOk y=true:=by have:=(Bool.or_eq_false_iff.1 e).2;simpa using this
           unfold Pr.listOk at h2
           have h3:y.length≤12:=by have:=(Bool.and_eq_true_iff.1 (Bool.and_eq_true_iff.1 h2).2).1;simpa using this
           rw[HYM2.out,HMM.out,HYN.out,Nat.min_eq_left h3,List.take_length,List.take_length] at h1
           exact h1)
          clear hfin hpm HSP
          have HJL:Hid ((Pr.join [32,97,110,100,32] sl).length≤72000):=hd (by
           have h1:=Pr.join_len [32,97,110,100,32] 3000 (by decide) sl HS3.out
           rw[HSN.out] at h1
           omega)
          have main:∀ {R':Ending→World→Prop},(∀ w',Below wr.heap.size wr w'→R' (.returned (.string ⟨(Pr.join [32,97,110,100,32] sl).toArray⟩)) w')→Calls Tryz.prog 34 #[.slice vo mm vc,.string ⟨#[32,97,110,100,32]⟩] wr R':=by
           intro R' hr
           by_cases hsl:sl=[]
           · have hp0:mm=0:=by have:=HSN.out;rw[hsl] at this;exact this.symm
             subst hp0
             refine (Tryz.strings_Join_none vo vc ⟨#[32,97,110,100,32]⟩ wr).mono ?_
             rintro e w' ⟨rfl,hw⟩
             rw[hsl] at hr
             exact hr w' (by rw[hw];exact Below.refl _ _)
           obtain ⟨g9,rfl,hpn,hcap9,hgl9,hc9⟩:=HOS.out.cells hsl
           have hmap:(sl.map (fun s:Bytes=>(⟨s.toArray⟩:ByteArray))).map (·.data.toList)=sl:=by
            rw[List.map_map]
            conv=>rhs;rw[← List.map_id sl]
            exact List.map_congr_left (fun s _=>by simp)
           have hj:Lib.join ((sl.map (fun s:Bytes=>(⟨s.toArray⟩:ByteArray))).map (·.data.toList)) (⟨#[32,97,110,100,32]⟩:ByteArray).data.toList=Pr.join [32,97,110,100,32] sl:=by rw[hmap];exact Pr.join_lib _ sl
           have hcall:=Tryz.strings_Join g9 0 vc (sl.map (fun s:Bytes=>(⟨s.toArray⟩:ByteArray))) ⟨#[32,97,110,100,32]⟩ wr hc9 hgl9 (by rw[List.length_map,HSN.out];omega) (by rw[List.length_map];exact hcap9) (by rw[hj];have:=HJL.out;omega)
           rw[List.length_map,HSN.out] at hcall
           refine hcall.mono ?_
           rintro e w' ⟨rfl,hw⟩
           rw[hj]
           exact hr w' hw
          have MAIN:Hid (∀ {R':Ending→World→Prop},(∀ w',Below wr.heap.size wr w'→R' (.returned (.string ⟨(Pr.join [32,97,110,100,32] sl).toArray⟩)) w')→Calls Tryz.prog 34 #[.slice vo mm vc,.string ⟨#[32,97,110,100,32]⟩] wr R'):=hd main
          clear main
          go_wp2_with fail
          refine MAIN.out (fun w8 h1=>?_)
          have C8:Hid (Chg [] wr w8):=hd (Below.chg (Chg.refl _ _) h1)
          have HW8:=hd (HWP.out.quiet C8.out)
          have HQ8:Hid (Chg [] w w8):=hd (HQP.out.trans C8.out (by simp))
          have HB8:Hid (b < w8.heap.size):=hd (by have h1:=HBS.out.2;have h2:=HBP.out;have h3:=C8.out.size;omega)
          obtain ⟨jl,hjl⟩:∃ z,z=Pr.join [32,97,110,100,32] sl:=⟨_,rfl⟩
          rw[← hjl] at HJL ⊢
          have gjl:=HJL.out
          have HJE:=hd hjl
          clear hjl h1 MAIN HWP HQP HBP C8
          have z1:¬ 9223372036854775807 < ww.length+jl.length:=by omega
          have z2:¬ 9223372036854775807 < ss.length+(ww.length+jl.length):=by omega
          go_wp2_with fail
          rw[str2,str2]
          go_roundw
          case rel=>exact ⟨k+1,ss++(ww++jl),Pr.tOr,vint (by omega),rfl,rfl,by omega,by simp only[List.length_append];omega,by decide,hd (by rw[if_neg (by omega)]),hd (by rw[HTY.out,List.all_append,List.all_cons,List.all_nil,Bool.and_true,Bool.not_and,← Bool.or_assoc,← HQQ.out];exact HW8.out),HQ8,HB8,hd (fun e=>by
           rw[HTY.out,List.all_append,List.all_cons,List.all_nil,Bool.and_true,Bool.not_and,← Bool.or_assoc,← HQQ.out] at e
           rw[HSS.out (Bool.or_eq_false_iff.1 e).1,HTY.out,Pr.whensS_snoc,HJE.out,HSL2.out e,HWW.out,List.append_assoc]
           congr 2
           have h9:(List.take k x.whn=[]↔k=0):=by
            constructor
            · intro h
              have h8:=congrArg List.length h
              rw[List.length_take,← HMN.out] at h8
              simp at h8
              omega
            intro h;rw[h];rfl
           by_cases h0:k=0
           · rw[if_pos h0,if_pos (h9.2 h0)];rfl
           rw[if_neg h0,if_neg (fun h=>h0 (h9.1 h))];rfl)⟩
          case measure=>simp[intN];omega
     obtain ⟨rfl⟩:k=m:=by omega
     have r1:¬ (m:Int) < (m:Int):=by omega
     have hall:x.whn.take m=x.whn:=List.take_of_length_le (by rw[← HMN.out];exact Nat.le_refl _)
     rw[hall] at HWK HSS
     have z1:¬ 9223372036854775807 < ss.length+1:=by omega
     have HOUT:Hid (Wst 107 b 0 (bx5 || !x.whn.all Pr.listOk) oj vj wr):=HWK
     clear hall hkm HWK
     go_wp2_with fail
     rw[show (⟨List.toArray ss⟩:ByteArray)++⟨#[59]⟩=⟨(ss++[59]).toArray⟩ from str2 ss [59]]
     refine line_r HT2.out (by decide) HOUT (ss++[59]) (by rw[List.length_append];simp only[List.length_singleton];omega) (fun v9 w9 h3 h4=>?_)
     have HQ9:Hid (Chg [] w w9):=hd (h4.seen HOUT.out HQK.out HB0.out)
     have HB9:Hid (b < w9.heap.size):=hd (Nat.lt_of_lt_of_le HBK.out h4.chg.size)
     have HW9:Hid (Wst 107 b 0 (!(decide (n≤200) && (l.take (j+1)).all Pr.itemOk)) (Pr.puts [] ((l.take (j+1)).map Pr.itemL)) v9 w9):=hd (by
      have e9:(bx5 || !x.whn.all Pr.listOk) = !(decide (n≤200) && (l.take (j+1)).all Pr.itemOk):=by
       rw[HBX.out,HTK.out,List.all_append,List.all_cons,List.all_nil,Bool.and_true,HIOK.out]
       cases decide (n≤200) <;> cases (l.take j).all Pr.itemOk <;> cases Pr.wordsOk x <;> cases x.whn.all Pr.listOk <;> rfl
      rw[← e9]
      cases hq:(bx5 || !x.whn.all Pr.listOk) with
      | true =>
       rw[hq] at h3
       exact h3.bad
      | false =>
       have h5:=HSS.out hq
       rw[hq,h5,HS0.out,HOJ.out] at h3
       rw[HTK.out,List.map_append,Pr.puts_append]
       exact h3)
     clear h3 h4 HOUT HSS
     go_wp2_with fail
     go_roundw
     case rel=>exact ⟨j+1,v9,vint (by omega),by omega,HW9,HQ9,HB9⟩
     case measure=>simp[intN];omega
  have hjn:l.take j=l:=List.take_of_length_le (by rw[HN.out];omega)
  rw[hjn] at HWJ
  have q1:¬ (j:Int) < (n:Int):=by omega
  have HOK:Hid (Wst 107 b 0 (!Pr.rulesOk l) (Pr.rulesText l) vj wr):=hd (by unfold Pr.rulesOk Pr.rulesText;rw[HN.out];exact HWJ.out)
  clear hjn HWJ
  go_wp2_with fail
  refine end_r HL HB0 HQR HOK (hd (fun hb hl=>Pr.rules_ascii (by simpa using hb) hl)) (fun w' hc=>?_)
  have HCE:=hd hc
  clear hc
  rw[Bool.not_not]
  go_wp2_with fail
  exact HRR.out w' HCE.out
end Go.Proofs.YtglepipfdmphhaaGreatDoor
