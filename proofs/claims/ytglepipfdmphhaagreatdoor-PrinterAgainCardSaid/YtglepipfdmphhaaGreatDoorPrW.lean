/-
  PrWp, PrW in one text.
-/
import Derived.Test.YtglepipfdmphhaaGreatDoorPrB
import Derived.Lib.Join
import Derived.Lib.CutLaws
import Derived.Test.YtglepipfdmphhaaGreatDoorPrTk
import Derived.Test.YtglepipfdmphhaaGreatDoorPrZp
import Derived.Deep.DeepCutAuto
set_option maxRecDepth 100000
set_option maxHeartbeats 40000000
namespace Go.Proofs.YtglepipfdmphhaaGreatDoor
set_option linter.unusedVariables false
set_option linter.unusedSimpArgs false
open Go Go.RowKit
namespace Pr
theorem cut_lib:∀ s:Bytes,Lib.cut s [46]=((cut s).1,(cut s).2.getD [],(cut s).2.isSome)
 | []=>rfl
 | c :: r=>by
  have ih:=cut_lib r
  have hge:=Lib.index_ge r [46]
  unfold Lib.cut at ih ⊢
  have hp:List.isPrefixOf [46] (c :: r)=((46:UInt8) == c):=by simp[List.isPrefixOf]
  unfold Lib.index
  rw[hp]
  unfold cut
  by_cases h:c=46
  · subst h
    simp
  have h':((46:UInt8) == c)=false:=by rw[beq_eq_false_iff_ne];exact fun e=>h e.symm
  rw[h',if_neg h]
  simp only[Bool.false_eq_true,if_false]
  by_cases hi:Lib.index r [46] = -1
  · rw[hi] at ih ⊢
    simp only[beq_self_eq_true,if_true]
    simp only[show ¬ ((0:Int)≤-1) by omega,if_false] at ih ⊢
    injection ih with h1 h2
    injection h2 with h2 h3
    rw[← h1,← h2,← h3]
  have hb:(Lib.index r [46] == -1)=false:=by rw[beq_eq_false_iff_ne];exact hi
  rw[hb]
  simp only[Bool.false_eq_true,if_false]
  rw[if_pos (by omega)] at ih ⊢
  injection ih with h1 h2
  injection h2 with h2 h3
  rw[← h1,← h2,← h3]
  have e:(Lib.index r [46]+1).toNat=(Lib.index r [46]).toNat+1:=by omega
  rw[e]
  simp only[List.take_succ_cons,List.length_singleton]
  rw[show (Lib.index r [46]).toNat+1+1=((Lib.index r [46]).toNat+1)+1 from rfl,List.drop_succ_cons]
theorem join_lib (sep:Bytes):∀ l:List Bytes,Lib.join l sep=join sep l
 | []=>rfl
 | [x]=>Lib.join_one x sep
 | x :: y :: r=>by
  have ih:=join_lib sep (y :: r)
  rw[Lib.join_cons] at ih ⊢
  simp only[Lib.joinTail,List.map_cons,List.flatten_cons] at ih ⊢
  rw[show join sep (x :: y :: r)=x++sep++join sep (y :: r) from rfl,← ih]
  simp
theorem join_len (sep:Bytes) (m:Nat) (hs:sep.length≤m):∀ l:List Bytes,(∀ x ∈ l,x.length≤m)→(join sep l).length≤l.length*(2*m)
 | [],_=>by simp[join]
 | [x],h=>by have:=h x (by simp);simp only[join,List.length_singleton];omega
 | x :: y :: r,h=>by
  have ih:=join_len sep m hs (y :: r) (fun z hz=>h z (by simp[hz]))
  have:=h x (by simp)
  rw[show join sep (x :: y :: r)=x++sep++join sep (y :: r) from rfl]
  simp only[List.length_append,List.length_cons] at ih ⊢
  rw[Nat.add_mul (r.length+1) 1]
  omega
theorem whensS_snoc (y:List Tst):∀ (w:Bytes) (l:List (List Tst)),whensS w (l++[y])=whensS w l++((if l=[] then w else tOr)++join tAnd (y.map testS))
 | w,[]=>by simp[whensS]
 | w,x :: l=>by
  rw[List.cons_append]
  show w++join tAnd (x.map testS)++whensS tOr (l++[y])=w++join tAnd (x.map testS)++whensS tOr l++_
  rw[whensS_snoc y tOr l]
  cases l with
  | nil=>simp[whensS]
  | cons z l=>simp
end Pr
end Go.Proofs.YtglepipfdmphhaaGreatDoor
namespace Go.Proofs.YtglepipfdmphhaaGreatDoor
set_option linter.unusedVariables false
set_option linter.unusedSimpArgs false
open Go Go.RowKit Go.Shelf
attribute [local irreducible] Go.wpStill
theorem Wst.set3 {T:TypeId} {b deep:Nat} {bad:Bool} {out:Bytes} {v:Value} {w:World} (h:Wst T b deep bad out v w) (q:Bool) (hq:q=false→bad=false):Wst T b deep q out v (w.setCell ⟨b,3,none⟩ (.bool q)):=by
 obtain ⟨o,h1,h2,h3⟩:=h
 obtain ⟨p,hp,hb⟩:=h1.blk
 exact ⟨o,h1.rest ((Chg.refl _ _).setCell _ _ (.inl (by simp))) hp (hb.set 3 _),h2,fun e=>h3 (hq e)⟩
theorem Wst.c3 {T:TypeId} {b deep:Nat} {bad:Bool} {out:Bytes} {v:Value} {w:World} (h:Wst T b deep bad out v w):w.cell? ⟨b,3,none⟩=some (.bool bad)∧w.frozen? ⟨b,3,none⟩=false:=by
 obtain ⟨o,h1,h2⟩:=h
 obtain ⟨p,hp,hb⟩:=h1.blk
 exact ⟨hb.cell (i:=3) rfl,hb.free 3⟩
theorem Wst.nb {T:TypeId} {b deep:Nat} {bad:Bool} {out:Bytes} {v:Value} {w:World} (h:Wst T b deep bad out v w) {G:Nat} {cs:List Value} {e:TypeId} (hG:Blk w G cs e) (hb:G≠b) (he:e≠5):G ∉ b :: v.ownBlock.toList:=by simp only[List.mem_cons,Option.mem_toList,not_or];exact ⟨hb,h.ne9 hG he⟩
theorem Wst.ob {T:TypeId} {b deep:Nat} {bad:Bool} {out:Bytes} {v:Value} {w:World} (h:Wst T b deep bad out v w) {m:Nat} (hm:m≤b):∀ k ∈ b :: v.ownBlock.toList,m≤k:=by
 intro k hk
 rcases List.mem_cons.1 hk with rfl|hk
 · exact hm
 rw[Option.mem_toList] at hk
 have:=own_ge h k hk
 omega
theorem mPrW0 {G:Prop} (h:G:=by
  cases q
  · by_cases hn:n=0
    · subst hn
      go_wp2_with fail
      have h9:=FIN.out false (by simp)
      first|exact h9|(rw[str2] ;exact h9)|(rw[show (⟨List.toArray sa⟩:ByteArray)++⟨#[32]⟩=⟨(sa++[32]).toArray⟩ from str2 sa [32],str2];simpa using h9)
    have e9:(n != 0)=true:=by simp[hn]
    go_wp2_with fail
    try rw[e9]
    have h9:=FIN.out true (by simp[hn])
    first|exact h9|(rw[show (⟨List.toArray sa⟩:ByteArray)++⟨#[32]⟩=⟨(sa++[32]).toArray⟩ from str2 sa [32],str2];simpa using h9)
  go_wp2_with fail
  have h9:=FIN.out true (by simp)
  first|exact h9|(rw[show (⟨List.toArray sa⟩:ByteArray)++⟨#[32]⟩=⟨(sa++[32]).toArray⟩ from str2 sa [32],str2];simpa using h9)):G:=h
theorem test_r {T:TypeId} {w0:World} (HL:Hid (Laid w0)) {b deep:Nat} (HB0:Hid (w0.heap.size≤b)) {w:World} (HQ:Hid (Chg [] w0 w)) {bad:Bool} {out:Bytes} {v:Value} (HW:Hid (Wst T b deep bad out v w)) (x:Pr.Tst) (HI:Hid (Pr.I64 x.op∧Pr.I64 x.n)) (bx:x.attr.length≤1000∧x.name.length≤1000) {R:Ending→World→Prop}
 (h:∀ w' s,Wst T b deep (bad || !Pr.testOk x) out v w'→Wr b v w v w'→(Pr.testOk x=true→s=Pr.testS x)→s.length≤3000→R (.returned (.string ⟨s.toArray⟩)) w') :
 Calls Tryz.prog 33 #[.pointer (some ⟨b,0,none⟩),.agg #[.string ⟨x.attr.toArray⟩,.int .i64 x.op,.string ⟨x.name.toArray⟩,.int .i64 x.n,.int .i64 x.at_]] w R:=by
 have HRR:=hd h
 clear h
 obtain ⟨atr,op,nm,n,pos⟩:=x
 have HI1:Hid (Pr.I64 op∧Pr.I64 n):=hd HI.out
 have bx1:atr.length≤1000:=bx.1
 have bx2:nm.length≤1000:=bx.2
 clear HI bx
 go_enter Tryz.func33,Tryz.ntmps33
 go_upto_region 1 with (fail)
 obtain ⟨w4,hw⟩:∃ W,W=w.alloc (.cells #[.string ⟨atr.toArray⟩,.int .i64 op,.string ⟨nm.toArray⟩,.int .i64 n,.int .i64 pos] 63):=⟨_,rfl⟩
 rw[← hw]
 obtain ⟨G,hG⟩:∃ X,X=w.heap.size:=⟨_,rfl⟩
 rw[← hG]
 have HG:=newB hw hG
 have C4:=newC hw
 have NG:G≠b:=by have:=HW.out.lt;omega
 clear hw hG
 have HW4:=hd (HW.out.quiet C4.out)
 have HQ4:Hid (Chg [] w0 w4):=hd (HQ.out.trans C4.out (by simp))
 have NHG:=hd (HW4.out.nb HG.out NG (by decide))
 have g0:=HG.out.cell (i:=0) rfl
 have g1:=HG.out.cell (i:=1) rfl
 have g2:=HG.out.cell (i:=2) rfl
 have g3:=HG.out.cell (i:=3) rfl
 have g4:=HG.out.cell (i:=4) rfl
 by_cases hop:1≤op∧op≤6
 · skip
   have HOP:=hd hop
   clear hop
   obtain ⟨q0,q6⟩:=HOP.out
   have q0':¬ op < 1:=by omega
   have q6':¬ 6 < op:=by omega
   go_upto_region 4 with (fail)
   clear q0' q6'
   go_upto_region 5 with (fail)
   obtain ⟨w5,hw⟩:∃ W,W=w4.alloc (.cells #[.string ⟨#[]⟩,.string ⟨#[32,61]⟩,.string ⟨#[32,33,61]⟩,.string ⟨#[32,60]⟩,.string ⟨#[32,60,61]⟩,.string ⟨#[32,62]⟩,.string ⟨#[32,62,61]⟩] 150):=⟨_,rfl⟩
   rw[← hw]
   obtain ⟨D,hG⟩:∃ X,X=w4.heap.size:=⟨_,rfl⟩
   rw[← hG]
   have HD:=newB hw hG
   have C5:=newC hw
   have ND:D≠b:=by have:=HW4.out.lt;omega
   clear hw hG
   have HW5:=hd (HW4.out.quiet C5.out)
   have HQ5:Hid (Chg [] w0 w5):=hd (HQ4.out.trans C5.out (by simp))
   have HG5:=hd (C5.out.blk HG.out (by simp))
   have NHD:=hd (HW5.out.nb HD.out ND (by decide))
   have FOK:Hid (Pr.testOk ⟨atr,op,nm,n,pos⟩=(Pr.nameOk atr && (if nm=[] then Pr.numOk n else decide (n=0) && Pr.valueOk nm))):=hd (by simp only[Pr.testOk,decide_eq_true HOP.out.1,decide_eq_true HOP.out.2,Bool.true_and])
   clear g0 g1 g2 g3 g4
   go_cut [6] (fun s6 wx=>s6 = .string ⟨(atr++Pr.opW op).toArray⟩∧Hid (Wst T b deep (bad || !Pr.nameOk atr) out v wx)∧Hid (Chg [b] w5 wx))
   case first =>
    have hcs:op=1∨op=2∨op=3∨op=4∨op=5∨op=6:=by omega
    clear q0 q6 HOP FOK HRR
    rcases hcs with rfl|rfl|rfl|rfl|rfl|rfl
    · skip
      have HOB:Hid (∀ k ∈ b :: v.ownBlock.toList,w0.heap.size≤k):=hd (HW5.out.ob HB0.out)
      refine wp_region_held_drew (S:=fun W'=>Chg (b :: v.ownBlock.toList) w5 W') (by kernel_rfl) (Chg.refl _ _).drew (fun hHeld=>?_)
      obtain ⟨wd,hwd⟩:∃ x,x=w5.drew:=⟨_,rfl⟩
      have CD:Hid (Chg [] w5 wd):=hd (by rw[hwd];exact (Chg.refl _ _).drew)
      rw[← hwd] at hHeld ⊢
      clear hwd
      have HWwd:=hd (HW5.out.quiet CD.out)
      refine tq 0 ?_
      refine tq 1 ?_
      refine tq 2 ?_
      refine tq 3 ?_
      refine tq1 4 (fun w9 hSw=>cell_quiet hSw (HG5.out.cell (i:=0) rfl) NHG.out) ?_
      refine tq 6 ?_
      refine tq1 7 (fun w9 hSw=>cell_quiet hSw (HG5.out.cell (i:=1) rfl) NHG.out) ?_
      refine tq 8 ?_
      refine tq1 9 (fun w9 hSw=>cell_quiet hSw (HD.out.cell (i:=1) rfl) NHD.out) ?_
      refine rd1 5 (fun K hK=>?_)
      go_simp
      refine name_r HWwd atr (fun wo11 h3 h4=>?_)
      have H3:=hd h3
      have H4:Hid (Chg [b] w5 wo11):=hd ((CD.out.mono (by simp)).trans h4 (fun k hk=>.inl hk))
      refine kq hK (hHeld.trans h4 (fun k hk=>.inl (by rw[List.mem_singleton] at hk;simp[hk]))) (fun hHeld=>?_)
      clear h3 h4
      have hz:¬ 9223372036854775807 < atr.length+2:=by omega
      refine tq 10 ?_
      refine tq 11 ?_
      refine dq ?_
      go_wp2_with fail
      go_meet
      exact ⟨by rw[show (⟨List.toArray atr⟩:ByteArray)++⟨List.toArray ([32,61]:Bytes)⟩=⟨(atr++([32,61]:Bytes)).toArray⟩ from str2 _ _];rfl,H3,H4⟩
    · skip
      have HOB:Hid (∀ k ∈ b :: v.ownBlock.toList,w0.heap.size≤k):=hd (HW5.out.ob HB0.out)
      refine wp_region_held_drew (S:=fun W'=>Chg (b :: v.ownBlock.toList) w5 W') (by kernel_rfl) (Chg.refl _ _).drew (fun hHeld=>?_)
      obtain ⟨wd,hwd⟩:∃ x,x=w5.drew:=⟨_,rfl⟩
      have CD:Hid (Chg [] w5 wd):=hd (by rw[hwd];exact (Chg.refl _ _).drew)
      rw[← hwd] at hHeld ⊢
      clear hwd
      have HWwd:=hd (HW5.out.quiet CD.out)
      refine tq 0 ?_
      refine tq 1 ?_
      refine tq 2 ?_
      refine tq 3 ?_
      refine tq1 4 (fun w9 hSw=>cell_quiet hSw (HG5.out.cell (i:=0) rfl) NHG.out) ?_
      refine tq 6 ?_
      refine tq1 7 (fun w9 hSw=>cell_quiet hSw (HG5.out.cell (i:=1) rfl) NHG.out) ?_
      refine tq 8 ?_
      refine tq1 9 (fun w9 hSw=>cell_quiet hSw (HD.out.cell (i:=2) rfl) NHD.out) ?_
      refine rd1 5 (fun K hK=>?_)
      go_simp
      refine name_r HWwd atr (fun wo21 h3 h4=>?_)
      have H3:=hd h3
      have H4:Hid (Chg [b] w5 wo21):=hd ((CD.out.mono (by simp)).trans h4 (fun k hk=>.inl hk))
      refine kq hK (hHeld.trans h4 (fun k hk=>.inl (by rw[List.mem_singleton] at hk;simp[hk]))) (fun hHeld=>?_)
      clear h3 h4
      have hz:¬ 9223372036854775807 < atr.length+3:=by omega
      refine tq 10 ?_
      refine tq 11 ?_
      refine dq ?_
      go_wp2_with fail
      go_meet
      exact ⟨by rw[show (⟨List.toArray atr⟩:ByteArray)++⟨List.toArray ([32,33,61]:Bytes)⟩=⟨(atr++([32,33,61]:Bytes)).toArray⟩ from str2 _ _];rfl,H3,H4⟩
    · skip
      have HOB:Hid (∀ k ∈ b :: v.ownBlock.toList,w0.heap.size≤k):=hd (HW5.out.ob HB0.out)
      refine wp_region_held_drew (S:=fun W'=>Chg (b :: v.ownBlock.toList) w5 W') (by kernel_rfl) (Chg.refl _ _).drew (fun hHeld=>?_)
      obtain ⟨wd,hwd⟩:∃ x,x=w5.drew:=⟨_,rfl⟩
      have CD:Hid (Chg [] w5 wd):=hd (by rw[hwd];exact (Chg.refl _ _).drew)
      rw[← hwd] at hHeld ⊢
      clear hwd
      have HWwd:=hd (HW5.out.quiet CD.out)
      refine tq 0 ?_
      refine tq 1 ?_
      refine tq 2 ?_
      refine tq 3 ?_
      refine tq1 4 (fun w9 hSw=>cell_quiet hSw (HG5.out.cell (i:=0) rfl) NHG.out) ?_
      refine tq 6 ?_
      refine tq1 7 (fun w9 hSw=>cell_quiet hSw (HG5.out.cell (i:=1) rfl) NHG.out) ?_
      refine tq 8 ?_
      refine tq1 9 (fun w9 hSw=>cell_quiet hSw (HD.out.cell (i:=3) rfl) NHD.out) ?_
      refine rd1 5 (fun K hK=>?_)
      go_simp
      refine name_r HWwd atr (fun wo31 h3 h4=>?_)
      have H3:=hd h3
      have H4:Hid (Chg [b] w5 wo31):=hd ((CD.out.mono (by simp)).trans h4 (fun k hk=>.inl hk))
      refine kq hK (hHeld.trans h4 (fun k hk=>.inl (by rw[List.mem_singleton] at hk;simp[hk]))) (fun hHeld=>?_)
      clear h3 h4
      have hz:¬ 9223372036854775807 < atr.length+2:=by omega
      refine tq 10 ?_
      refine tq 11 ?_
      refine dq ?_
      go_wp2_with fail
      go_meet
      exact ⟨by rw[show (⟨List.toArray atr⟩:ByteArray)++⟨List.toArray ([32,60]:Bytes)⟩=⟨(atr++([32,60]:Bytes)).toArray⟩ from str2 _ _];rfl,H3,H4⟩
    · skip
      have HOB:Hid (∀ k ∈ b :: v.ownBlock.toList,w0.heap.size≤k):=hd (HW5.out.ob HB0.out)
      refine wp_region_held_drew (S:=fun W'=>Chg (b :: v.ownBlock.toList) w5 W') (by kernel_rfl) (Chg.refl _ _).drew (fun hHeld=>?_)
      obtain ⟨wd,hwd⟩:∃ x,x=w5.drew:=⟨_,rfl⟩
      have CD:Hid (Chg [] w5 wd):=hd (by rw[hwd];exact (Chg.refl _ _).drew)
      rw[← hwd] at hHeld ⊢
      clear hwd
      have HWwd:=hd (HW5.out.quiet CD.out)
      refine tq 0 ?_
      refine tq 1 ?_
      refine tq 2 ?_
      refine tq 3 ?_
      refine tq1 4 (fun w9 hSw=>cell_quiet hSw (HG5.out.cell (i:=0) rfl) NHG.out) ?_
      refine tq 6 ?_
      refine tq1 7 (fun w9 hSw=>cell_quiet hSw (HG5.out.cell (i:=1) rfl) NHG.out) ?_
      refine tq 8 ?_
      refine tq1 9 (fun w9 hSw=>cell_quiet hSw (HD.out.cell (i:=4) rfl) NHD.out) ?_
      refine rd1 5 (fun K hK=>?_)
      go_simp
      refine name_r HWwd atr (fun wo41 h3 h4=>?_)
      have H3:=hd h3
      have H4:Hid (Chg [b] w5 wo41):=hd ((CD.out.mono (by simp)).trans h4 (fun k hk=>.inl hk))
      refine kq hK (hHeld.trans h4 (fun k hk=>.inl (by rw[List.mem_singleton] at hk;simp[hk]))) (fun hHeld=>?_)
      clear h3 h4
      have hz:¬ 9223372036854775807 < atr.length+3:=by omega
      refine tq 10 ?_
      refine tq 11 ?_
      refine dq ?_
      go_wp2_with fail
      go_meet
      exact ⟨by rw[show (⟨List.toArray atr⟩:ByteArray)++⟨List.toArray ([32,60,61]:Bytes)⟩=⟨(atr++([32,60,61]:Bytes)).toArray⟩ from str2 _ _];rfl,H3,H4⟩
    · skip
      have HOB:Hid (∀ k ∈ b :: v.ownBlock.toList,w0.heap.size≤k):=hd (HW5.out.ob HB0.out)
      refine wp_region_held_drew (S:=fun W'=>Chg (b :: v.ownBlock.toList) w5 W') (by kernel_rfl) (Chg.refl _ _).drew (fun hHeld=>?_)
      obtain ⟨wd,hwd⟩:∃ x,x=w5.drew:=⟨_,rfl⟩
      have CD:Hid (Chg [] w5 wd):=hd (by rw[hwd];exact (Chg.refl _ _).drew)
      rw[← hwd] at hHeld ⊢
      clear hwd
      have HWwd:=hd (HW5.out.quiet CD.out)
      refine tq 0 ?_
      refine tq 1 ?_
      refine tq 2 ?_
      refine tq 3 ?_
      refine tq1 4 (fun w9 hSw=>cell_quiet hSw (HG5.out.cell (i:=0) rfl) NHG.out) ?_
      refine tq 6 ?_
      refine tq1 7 (fun w9 hSw=>cell_quiet hSw (HG5.out.cell (i:=1) rfl) NHG.out) ?_
      refine tq 8 ?_
      refine tq1 9 (fun w9 hSw=>cell_quiet hSw (HD.out.cell (i:=5) rfl) NHD.out) ?_
      refine rd1 5 (fun K hK=>?_)
      go_simp
      refine name_r HWwd atr (fun wo51 h3 h4=>?_)
      have H3:=hd h3
      have H4:Hid (Chg [b] w5 wo51):=hd ((CD.out.mono (by simp)).trans h4 (fun k hk=>.inl hk))
      refine kq hK (hHeld.trans h4 (fun k hk=>.inl (by rw[List.mem_singleton] at hk;simp[hk]))) (fun hHeld=>?_)
      clear h3 h4
      have hz:¬ 9223372036854775807 < atr.length+2:=by omega
      refine tq 10 ?_
      refine tq 11 ?_
      refine dq ?_
      go_wp2_with fail
      go_meet
      exact ⟨by rw[show (⟨List.toArray atr⟩:ByteArray)++⟨List.toArray ([32,62]:Bytes)⟩=⟨(atr++([32,62]:Bytes)).toArray⟩ from str2 _ _];rfl,H3,H4⟩
    have HOB:Hid (∀ k ∈ b :: v.ownBlock.toList,w0.heap.size≤k):=hd (HW5.out.ob HB0.out)
    refine wp_region_held_drew (S:=fun W'=>Chg (b :: v.ownBlock.toList) w5 W') (by kernel_rfl) (Chg.refl _ _).drew (fun hHeld=>?_)
    obtain ⟨wd,hwd⟩:∃ x,x=w5.drew:=⟨_,rfl⟩
    have CD:Hid (Chg [] w5 wd):=hd (by rw[hwd];exact (Chg.refl _ _).drew)
    rw[← hwd] at hHeld ⊢
    clear hwd
    have HWwd:=hd (HW5.out.quiet CD.out)
    refine tq 0 ?_
    refine tq 1 ?_
    refine tq 2 ?_
    refine tq 3 ?_
    refine tq1 4 (fun w9 hSw=>cell_quiet hSw (HG5.out.cell (i:=0) rfl) NHG.out) ?_
    refine tq 6 ?_
    refine tq1 7 (fun w9 hSw=>cell_quiet hSw (HG5.out.cell (i:=1) rfl) NHG.out) ?_
    refine tq 8 ?_
    refine tq1 9 (fun w9 hSw=>cell_quiet hSw (HD.out.cell (i:=6) rfl) NHD.out) ?_
    refine rd1 5 (fun K hK=>?_)
    go_simp
    refine name_r HWwd atr (fun wo61 h3 h4=>?_)
    have H3:=hd h3
    have H4:Hid (Chg [b] w5 wo61):=hd ((CD.out.mono (by simp)).trans h4 (fun k hk=>.inl hk))
    refine kq hK (hHeld.trans h4 (fun k hk=>.inl (by rw[List.mem_singleton] at hk;simp[hk]))) (fun hHeld=>?_)
    clear h3 h4
    have hz:¬ 9223372036854775807 < atr.length+3:=by omega
    refine tq 10 ?_
    refine tq 11 ?_
    refine dq ?_
    go_wp2_with fail
    go_meet
    exact ⟨by rw[show (⟨List.toArray atr⟩:ByteArray)++⟨List.toArray ([32,62,61]:Bytes)⟩=⟨(atr++([32,62,61]:Bytes)).toArray⟩ from str2 _ _];rfl,H3,H4⟩
   case rest =>
    obtain ⟨h6,HWC,HCC⟩:=hcut
    subst h6
    have HCW:Hid (Chg [b] w5 wc):=HCC
    have HQC:Hid (Chg [] w0 wc):=hd (HQ5.out.since HCW.out HB0.out)
    have HGC:=hd (HCW.out.blk HG5.out (by simp[NG]))
    have NHC:=hd (HWC.out.nb HGC.out NG (by decide))
    have HRC:Hid (Wr b v w v wc):=hd (Wr.cell ((C4.out.mono (by simp)).trans ((C5.out.mono (by simp)).trans HCW.out (fun k hk=>.inl hk)) (fun k hk=>.inl hk)))
    clear HCC HCW HW HW4 HW5 HG HG5 HD NHG NHD HQ HQ4 HQ5 C4 C5
    obtain ⟨sa,hsa⟩:∃ z,z=atr++Pr.opW op:=⟨_,rfl⟩
    rw[← hsa]
    have gsa:sa.length≤1010:=by rw[hsa,List.length_append];have:(Pr.opW op).length≤3:=(by unfold Pr.opW;(repeat' split) <;> simp);omega
    have HSA:=hd hsa
    clear hsa q0 q6
    obtain ⟨bad1,hb1⟩:∃ z,z=(bad || !Pr.nameOk atr):=⟨_,rfl⟩
    rw[← hb1] at HWC
    have HB1:=hd hb1
    clear hb1
    have g2:=HGC.out.cell (i:=2) rfl
    by_cases hnm:nm=[]
    · skip
      subst hnm
      go_upto_region 7 with (fail)
      clear g2
      have HOB:Hid (∀ k ∈ b :: v.ownBlock.toList,w0.heap.size≤k):=hd (HWC.out.ob HB0.out)
      refine wp_region_held_drew (S:=fun W'=>Chg (b :: v.ownBlock.toList) wc W') (by kernel_rfl) (Chg.refl _ _).drew (fun hHeld=>?_)
      obtain ⟨wd,hwd⟩:∃ x,x=wc.drew:=⟨_,rfl⟩
      have CD:Hid (Chg [] wc wd):=hd (by rw[hwd];exact (Chg.refl _ _).drew)
      rw[← hwd] at hHeld ⊢
      clear hwd
      have HWwd:=hd (HWC.out.quiet CD.out)
      have HQB:=HQC
      refine tq 0 ?_
      refine tq 1 ?_
      refine tq 2 ?_
      refine tq 3 ?_
      refine tq 4 ?_
      refine tq1 5 (fun w9 hSw=>cell_quiet hSw (HGC.out.cell (i:=3) rfl) NHC.out) ?_
      refine rd1 6 (fun K hK=>?_)
      go_simp
      obtain ⟨wn1,hw⟩:∃ W,W=wd.alloc (.cells #[.int .i64 n] 3):=⟨_,rfl⟩
      rw[← hw]
      obtain ⟨X1,hX⟩:∃ X,X=wd.heap.size:=⟨_,rfl⟩
      rw[← hX]
      have HX1:Hid (Blk wn1 X1 [.int .i64 n] 3∧X1≠b):=hd ⟨by rw[hw,hX];exact Blk.new wd [.int .i64 n] _,by have:=HWwd.out.lt;omega⟩
      have Cw:=newC hw
      have HWwn1:=hd (HWwd.out.quiet Cw.out)
      refine kq hK (hHeld.trans Cw.out (by simp)) (fun hHeld=>?_)
      clear hw hX
      clear Cw
      refine rd1 7 (fun K hK=>?_)
      go_simp
      refine numbers_r HL HB0 (hd ((HQB.out.trans hHeld (fun k hk=>.inr (HOB.out k hk))))) HWwn1 [n] 1 ⟨rfl,by decide⟩ (by intro q hq;rw[List.mem_singleton] at hq;rw[hq];exact HI1.out.2) HX1.out.1 HX1.out.2 (fun wn2 h3 h4=>?_)
      have HWwn2:=hd h3
      refine kq hK (hHeld.trans h4 (fun k hk=>.inl (by rw[List.mem_singleton] at hk;simp[hk]))) (fun hHeld=>?_)
      clear h3 h4
      have gna:(Pr.nums [n]).length≤22:=Pr.nums_len [n] (by intro q hq;rw[List.mem_singleton] at hq;rw[hq];exact HI1.out.2)
      obtain ⟨na,h9⟩:∃ z,z=Pr.nums [n]:=⟨_,rfl⟩
      rw[← h9] at gna
      rw[← h9]
      have Hna:=hd h9
      clear h9
      have hz:¬ 9223372036854775807 < sa.length+na.length:=by omega
      refine tq 8 ?_
      rw[show (⟨List.toArray sa⟩:ByteArray)++⟨List.toArray na⟩=⟨(sa++na).toArray⟩ from str2 _ _]
      obtain ⟨a1,h9⟩:∃ z,z=sa++na:=⟨_,rfl⟩
      rw[← h9]
      have ga1:a1.length≤1100:=by rw[h9,List.length_append];show sa.length+na.length≤_;omega
      have Ha1:=hd h9
      clear h9 hz
      refine tq 9 ?_
      refine dq ?_
      have HH:=hd hHeld
      clear hHeld
      go_wp2_with fail
      refine HRR.out wn2 a1 ?_ (HRC.out.trans ⟨HH.out.mono (fun k hk=>hk),fun k hk=>.inl hk⟩) (fun _=>by rw[Ha1.out,HSA.out,Hna.out];simp[Pr.testS]) (by omega)
      have h9:=HWwn2.out
      rw[HB1.out] at h9
      rw[FOK.out]
      first|rw[if_pos rfl]|rw[if_pos trivial]
      rw[Bool.not_and,← Bool.or_assoc]
      rw[show Pr.numOk n=Pr.numsOk [n] by simp[Pr.numsOk]]
      exact h9
    have he:nm.isEmpty=false:=by cases nm with|nil=>exact absurd rfl hnm|cons a r=>rfl
    have HNM:=hd hnm
    clear hnm
    obtain ⟨ml,hml⟩:=(HL.out.quiet HQC.out).cut
    go_wp2_with fail
    refine (Tryz.strings_Cut ⟨nm.toArray⟩ ⟨#[46]⟩ ml wc (by rw[size_of9];omega) hml).mono ?_
    rintro e wd ⟨rfl,k,hwd⟩
    have CD:Hid (Chg [] wc wd):=hd (by rw[hwd];exact chg_drewN _ _)
    rw[show Lib.cut (⟨nm.toArray⟩:ByteArray).data.toList (⟨#[46]⟩:ByteArray).data.toList=_ from Pr.cut_lib nm]
    clear hwd hml he g2
    have HWD:=hd (HWC.out.quiet CD.out)
    have HQD:Hid (Chg [] w0 wd):=hd (HQC.out.trans CD.out (by simp))
    have HGD:=hd (CD.out.blk HGC.out (by simp))
    have HRD:Hid (Wr b v w v wd):=hd (HRC.out.trans (Wr.cell (CD.out.mono (by simp))))
    clear CD HWC HQC HGC NHC HRC
    obtain ⟨n1,hn1⟩:∃ z,z=(Pr.cut nm).1:=⟨_,rfl⟩
    obtain ⟨o2,ho2⟩:∃ z,z=(Pr.cut nm).2:=⟨_,rfl⟩
    rw[← hn1,← ho2]
    have HN1:=hd hn1
    have HO2:=hd ho2
    clear hn1 ho2
    have HVAL:Hid (Pr.valueOk nm=(Pr.nameOk n1 && o2.all Pr.nameOk)):=hd (by unfold Pr.valueOk;rw[← HN1.out,← HO2.out])
    cases o2 with
    | none =>
     go_wp2_with fail
     refine name_r HWD n1 (fun we h3 h4=>?_)
     have HWwe:=hd h3
     have HGwe:=hd (h4.blk HGD.out (by simp[NG]))
     have HRwe:Hid (Wr b v w v we):=hd (HRD.out.trans (Wr.cell h4))
     clear h3 h4
     go_upto_region 12 with (fail)
     obtain ⟨q,hq⟩:∃ q,q=(bad1 || !Pr.nameOk n1):=⟨_,rfl⟩
     rw[← hq] at HWwe
     have HQQ:=hd hq
     clear hq
     have g2:=HGwe.out.cell (i:=2) rfl
     have g3:=HGwe.out.cell (i:=3) rfl
     have k3:=HWwe.out.c3.1
     have f3:=HWwe.out.c3.2
     have z1:¬ 9223372036854775807 < sa.length+1:=by omega
     have z2:¬ 9223372036854775807 < sa.length+1+nm.length:=by omega
     have FIN:Hid (∀ r:Bool,r=(q || !decide (n=0))→R (.returned (.string ⟨(sa++(32 :: nm)).toArray⟩)) (we.setCell ⟨b,3,none⟩ (.bool r))):=hd (fun r hr=>by
      refine HRR.out _ _ ?_ (HRwe.out.trans (Wr.cell ((Chg.refl _ _).setCell _ _ (.inl (by simp))))) (fun _=>by rw[HSA.out];unfold Pr.testS;rw[if_neg HNM.out]) (by simp only[List.length_append,List.length_cons];omega)
      rw[FOK.out,if_neg HNM.out,HVAL.out]
      have h9:=HWwe.out.set3 r (fun e=>by rw[hr] at e;exact (Bool.or_eq_false_iff.1 e).1)
      have e9:(bad || !(Pr.nameOk atr && (decide (n=0) && (Pr.nameOk n1 && Option.all Pr.nameOk none))))=r:=by rw[hr,HQQ.out,HB1.out];simp only[Option.all_none,Option.all_some,Bool.and_true];cases bad <;> cases Pr.nameOk atr <;> cases decide (n=0) <;> cases Pr.nameOk n1 <;> (try rfl) <;> (try (cases Pr.nameOk r2 <;> rfl))
      rw[e9]
      exact h9)
     exact mPrW0
    | some r2 =>
     go_wp2_with fail
     refine name_r HWD n1 (fun we h3 h4=>?_)
     have HWwe:=hd h3
     have HGwe:=hd (h4.blk HGD.out (by simp[NG]))
     have HRwe:Hid (Wr b v w v we):=hd (HRD.out.trans (Wr.cell h4))
     clear h3 h4
     go_wp2_with fail
     refine name_r HWwe r2 (fun wf h3 h4=>?_)
     have HWwf:=hd h3
     have HGwf:=hd (h4.blk HGwe.out (by simp[NG]))
     have HRwf:Hid (Wr b v w v wf):=hd (HRwe.out.trans (Wr.cell h4))
     clear h3 h4
     go_upto_region 12 with (fail)
     obtain ⟨q,hq⟩:∃ q,q=((bad1 || !Pr.nameOk n1) || !Pr.nameOk r2):=⟨_,rfl⟩
     rw[← hq] at HWwf
     have HQQ:=hd hq
     clear hq
     have g2:=HGwf.out.cell (i:=2) rfl
     have g3:=HGwf.out.cell (i:=3) rfl
     have k3:=HWwf.out.c3.1
     have f3:=HWwf.out.c3.2
     have z1:¬ 9223372036854775807 < sa.length+1:=by omega
     have z2:¬ 9223372036854775807 < sa.length+1+nm.length:=by omega
     have FIN:Hid (∀ r:Bool,r=(q || !decide (n=0))→R (.returned (.string ⟨(sa++(32 :: nm)).toArray⟩)) (wf.setCell ⟨b,3,none⟩ (.bool r))):=hd (fun r hr=>by
      refine HRR.out _ _ ?_ (HRwf.out.trans (Wr.cell ((Chg.refl _ _).setCell _ _ (.inl (by simp))))) (fun _=>by rw[HSA.out];unfold Pr.testS;rw[if_neg HNM.out]) (by simp only[List.length_append,List.length_cons];omega)
      rw[FOK.out,if_neg HNM.out,HVAL.out]
      have h9:=HWwf.out.set3 r (fun e=>by rw[hr] at e;exact (Bool.or_eq_false_iff.1 e).1)
      have e9:(bad || !(Pr.nameOk atr && (decide (n=0) && (Pr.nameOk n1 && Option.all Pr.nameOk (some r2)))))=r:=by rw[hr,HQQ.out,HB1.out];simp only[Option.all_none,Option.all_some,Bool.and_true];cases bad <;> cases Pr.nameOk atr <;> cases decide (n=0) <;> cases Pr.nameOk n1 <;> (try rfl) <;> (try (cases Pr.nameOk r2 <;> rfl))
      rw[e9]
      exact h9)
     exact mPrW0
 have HF:Hid (Pr.testOk ⟨atr,op,nm,n,pos⟩=false):=hd (by unfold Pr.testOk;rw[show (decide (1≤op) && decide (op≤6))=false by rw[← Bool.decide_and,decide_eq_false hop]];rfl)
 have k3:=HW4.out.c3.1
 have f3:=HW4.out.c3.2
 have FIN:Hid (R (.returned (.string ⟨#[]⟩)) (w4.setCell ⟨b,3,none⟩ (.bool true))):=hd (HRR.out _ [] (by rw[HF.out,Bool.not_false,Bool.or_true];exact HW4.out.set3 true (fun e=>by cases e)) ((Wr.cell (C4.out.mono (by simp))).trans (Wr.cell ((Chg.refl _ _).setCell _ _ (.inl (by simp))))) (fun e=>by rw[HF.out] at e;cases e) (by simp))
 by_cases h1:op < 1
 · go_wp2_with fail
   exact FIN.out
 have h2:6 < op:=by omega
 clear hop
 go_wp2_with fail
 exact FIN.out
end Go.Proofs.YtglepipfdmphhaaGreatDoor
