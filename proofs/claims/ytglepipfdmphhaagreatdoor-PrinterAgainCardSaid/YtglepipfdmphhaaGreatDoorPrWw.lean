/-
 Printer, layer 17: the words of rules.
-/
import Derived.Test.YtglepipfdmphhaaGreatDoorPrTk
import Derived.Test.YtglepipfdmphhaaGreatDoorPrW
set_option maxRecDepth 100000
set_option maxHeartbeats 40000000
namespace Go.Proofs.YtglepipfdmphhaaGreatDoor
set_option linter.unusedVariables false
set_option linter.unusedSimpArgs false
open Go Go.RowKit Go.Shelf
attribute [local irreducible] Go.wpStill
theorem Wst.keep {T:TypeId} {b deep:Nat} {bad:Bool} {out:Bytes} {v:Value} {w w':World} {X:Nat} {cs:List Value} {e:TypeId} (h:Wst T b deep bad out v w) (hc:Chg [X] w w') (hX:Blk w X cs e) (he:e≠5) (hb:X≠b):Wst T b deep bad out v w':=by
 have hn:=h.ne9 hX he
 obtain ⟨o,h1,h2⟩:=h
 exact ⟨o,h1.keep hc (by simpa using fun h=>hb h.symm) (fun k hk=>by rw[List.mem_singleton];intro h;subst h;exact hn hk),h2⟩
namespace Pr
theorem numsOk_1w (x:Int):numsOk [x]=numOk x:=by simp[numsOk]
theorem numOk_0:numOk 0=true:=by decide
theorem kindW_len (k:Int):(kindW k).length≤9:=by unfold kindW;(repeat' split) <;> simp
theorem ratioS_len {x:Int × Int} (h:I64 x.1∧I64 x.2):(ratioS x).length≤50:=by
 have h1:=nums_len [x.1] (by intro q hq;rw[List.mem_singleton] at hq;rw[hq];exact h.1)
 have h2:=itoa_len x.2 h.2
 simp only[ratioS,List.length_append,List.length_cons,List.length_nil] at h1 ⊢
 omega
theorem partS_len {x:Int × Int} (h:I64 x.1∧I64 x.2) (s:Bytes) (hs:s.length≤20):(partS s x).length≤70:=by
 unfold partS
 split
 · simp
 have:=ratioS_len h
 rw[List.length_append]
 omega
end Pr
theorem mPrWw1 {G:Prop} (h:G:=by
  by_cases hs1:s1=0
  · subst hs1
    by_cases hs2:s2=0
    · subst hs2
      go_wp2_with fail
      exact FIN.out false (by simp)
    have hs2':¬ 0=s2:=fun e=>hs2 e.symm
    have hs21:((0:Int) == s2)=false:=by rw[beq_eq_false_iff_ne];exact hs2'
    have hs22:(s2 == (0:Int))=false:=by rw[beq_eq_false_iff_ne];exact hs2
    go_wp2_with fail
    exact FIN.out true (by simp[hs2])
  have hs1':¬ 0=s1:=fun e=>hs1 e.symm
  have hs11:((0:Int) == s1)=false:=by rw[beq_eq_false_iff_ne];exact hs1'
  have hs12:(s1 == (0:Int))=false:=by rw[beq_eq_false_iff_ne];exact hs1
  go_wp2_with fail
  exact FIN.out true (by simp[hs1])):G:=h
theorem mPrWw0 {G:Prop} (h:G:=by
  by_cases hr1:r1=0
  · subst hr1
    by_cases hr2:r2=0
    · subst hr2
      exact mPrWw1
    have hr2':¬ 0=r2:=fun e=>hr2 e.symm
    have hr21:((0:Int) == r2)=false:=by rw[beq_eq_false_iff_ne];exact hr2'
    have hr22:(r2 == (0:Int))=false:=by rw[beq_eq_false_iff_ne];exact hr2
    go_wp2_with fail
    exact FIN.out true (by simp[hr2])
  have hr1':¬ 0=r1:=fun e=>hr1 e.symm
  have hr11:((0:Int) == r1)=false:=by rw[beq_eq_false_iff_ne];exact hr1'
  have hr12:(r1 == (0:Int))=false:=by rw[beq_eq_false_iff_ne];exact hr1
  go_wp2_with fail
  exact FIN.out true (by simp[hr1])):G:=h
theorem words_r {T:TypeId} {w0:World} (HL:Hid (Laid w0)) {b deep:Nat} (HB0:Hid (w0.heap.size≤b)) {w:World} (HQ:Hid (Chg [] w0 w)) {bad:Bool} {out:Bytes} {v:Value} (HW:Hid (Wst T b deep bad out v w)) (x:Pr.Itm) (hk:1≤x.kind∧x.kind≤7) (HI:Hid (Pr.I64 x.n∧(Pr.I64 x.r.1∧Pr.I64 x.r.2)∧Pr.I64 x.s.1∧Pr.I64 x.s.2)) (bx:x.name.length≤1000) (wa:Option Addr) (wn wk:Nat) {R:Ending→World→Prop}
 (h:∀ w',Wst T b deep (bad || !Pr.wordsOk x) out v w'→Wr b v w v w'→R (.returned (.string ⟨(Pr.wordsS x).toArray⟩)) w') :
 Calls Tryz.prog 32 #[.pointer (some ⟨b,0,none⟩),.agg #[.int .i64 x.kind,.string ⟨x.name.toArray⟩,.slice wa wn wk,.int .i64 x.n,.int .i64 x.r.1,.int .i64 x.r.2,.int .i64 x.s.1,.int .i64 x.s.2,.int .i64 x.at_]] w R:=by
 have HRR:=hd h
 clear h
 obtain ⟨kd,nm,whn,n,⟨r1,r2⟩,⟨s1,s2⟩,pos⟩:=x
 have hk1:1≤kd:=hk.1
 have hk7:kd≤7:=hk.2
 have HIN:Hid (Pr.I64 n):=hd HI.out.1
 have HIR:Hid (Pr.I64 r1∧Pr.I64 r2):=hd HI.out.2.1
 have HIS:Hid (Pr.I64 s1∧Pr.I64 s2):=hd HI.out.2.2
 have bx1:nm.length≤1000:=bx
 clear HI bx hk
 go_enter Tryz.func32,Tryz.ntmps32
 go_upto_region 1 with (fail)
 obtain ⟨w4,hw⟩:∃ W,W=w.alloc (.cells #[.int .i64 kd,.string ⟨nm.toArray⟩,.slice wa wn wk,.int .i64 n,.int .i64 r1,.int .i64 r2,.int .i64 s1,.int .i64 s2,.int .i64 pos] 69):=⟨_,rfl⟩
 rw[← hw]
 obtain ⟨G,hG⟩:∃ X,X=w.heap.size:=⟨_,rfl⟩
 rw[← hG]
 have HG:=newB hw hG
 have C4:=newC hw
 have NG:G≠b:=by have:=HW.out.lt;omega
 clear hw hG
 have HW4:=hd (HW.out.quiet C4.out)
 have HQ4:Hid (Chg [] w0 w4):=hd (HQ.out.trans C4.out (by simp))
 have NHG:=hd (HW4.out.nb HG.out NG (by decide))
 go_cut [5] (fun s5 wx=>s5 = .string ⟨(Pr.kindW kd++nm).toArray⟩∧Hid (Wst T b deep (bad || !Pr.nameOk nm) out v wx)∧Hid (Chg [b] w4 wx))
 case first =>
  have hcs:kd=1∨kd=2∨kd=3∨kd=4∨kd=5∨kd=6∨kd=7:=by omega
  clear hk1 hk7 HRR
  rcases hcs with rfl|rfl|rfl|rfl|rfl|rfl|rfl
  · skip
    have HOB:Hid (∀ k ∈ b :: v.ownBlock.toList,w0.heap.size≤k):=hd (HW4.out.ob HB0.out)
    refine wp_region_held_drew (S:=fun W'=>Chg (b :: v.ownBlock.toList) w4 W') (by kernel_rfl) (Chg.refl _ _).drew (fun hHeld=>?_)
    obtain ⟨wd,hwd⟩:∃ x,x=w4.drew:=⟨_,rfl⟩
    have CD:Hid (Chg [] w4 wd):=hd (by rw[hwd];exact (Chg.refl _ _).drew)
    rw[← hwd] at hHeld ⊢
    clear hwd
    have HWwd:=hd (HW4.out.quiet CD.out)
    refine tq 0 ?_
    refine tq 1 ?_
    refine tq1 2 (fun w9 hSw=>cell_quiet hSw (HG.out.cell (i:=0) rfl) NHG.out) ?_
    refine tq 3 ?_ (hy:=by intro w9 hSw;have hix:∀ w,(Instr.index 147 (.agg #[.string ⟨#[]⟩,.string ⟨#[97,108,108,111,119,32]⟩,.string ⟨#[100,101,110,121,32]⟩,.string ⟨#[112,114,105,99,101,32]⟩,.string ⟨#[114,101,115,97,108,101,32]⟩,.string ⟨#[114,101,102,117,110,100,32]⟩,.string ⟨#[116,111,103,101,116,104,101,114,32]⟩,.string ⟨#[115,105,110,103,108,101,32]⟩]) (.int .i64 1)).run Tryz.prog w = .ok (.string ⟨#[97,108,108,111,119,32]⟩) w:=(fun _=>by kernel_rfl);go_simp;try with_reducible rfl)
    refine tq 4 ?_
    refine tq 5 ?_
    refine tq 6 ?_
    refine tq 7 ?_
    refine tq1 8 (fun w9 hSw=>cell_quiet hSw (HG.out.cell (i:=1) rfl) NHG.out) ?_
    refine rd1 9 (fun K hK=>?_)
    go_simp
    refine name_r HWwd nm (fun wo11 h3 h4=>?_)
    have H3:=hd h3
    have H4:Hid (Chg [b] w4 wo11):=hd ((CD.out.mono (by simp)).trans h4 (fun k hk=>.inl hk))
    refine kq hK (hHeld.trans h4 (fun k hk=>.inl (by rw[List.mem_singleton] at hk;simp[hk]))) (fun hHeld=>?_)
    clear h3 h4
    have hz:¬ 9223372036854775807 < 6+nm.length:=by omega
    refine tq 10 ?_
    refine tq 11 ?_
    refine dq ?_
    go_wp2_with fail
    go_meet
    exact ⟨by rw[show (⟨List.toArray ([97,108,108,111,119,32]:Bytes)⟩:ByteArray)++⟨List.toArray nm⟩=⟨(([97,108,108,111,119,32]:Bytes)++nm).toArray⟩ from str2 _ _];rfl,H3,H4⟩
  · skip
    have HOB:Hid (∀ k ∈ b :: v.ownBlock.toList,w0.heap.size≤k):=hd (HW4.out.ob HB0.out)
    refine wp_region_held_drew (S:=fun W'=>Chg (b :: v.ownBlock.toList) w4 W') (by kernel_rfl) (Chg.refl _ _).drew (fun hHeld=>?_)
    obtain ⟨wd,hwd⟩:∃ x,x=w4.drew:=⟨_,rfl⟩
    have CD:Hid (Chg [] w4 wd):=hd (by rw[hwd];exact (Chg.refl _ _).drew)
    rw[← hwd] at hHeld ⊢
    clear hwd
    have HWwd:=hd (HW4.out.quiet CD.out)
    refine tq 0 ?_
    refine tq 1 ?_
    refine tq1 2 (fun w9 hSw=>cell_quiet hSw (HG.out.cell (i:=0) rfl) NHG.out) ?_
    refine tq 3 ?_ (hy:=by intro w9 hSw;have hix:∀ w,(Instr.index 147 (.agg #[.string ⟨#[]⟩,.string ⟨#[97,108,108,111,119,32]⟩,.string ⟨#[100,101,110,121,32]⟩,.string ⟨#[112,114,105,99,101,32]⟩,.string ⟨#[114,101,115,97,108,101,32]⟩,.string ⟨#[114,101,102,117,110,100,32]⟩,.string ⟨#[116,111,103,101,116,104,101,114,32]⟩,.string ⟨#[115,105,110,103,108,101,32]⟩]) (.int .i64 2)).run Tryz.prog w = .ok (.string ⟨#[100,101,110,121,32]⟩) w:=(fun _=>by kernel_rfl);go_simp;try with_reducible rfl)
    refine tq 4 ?_
    refine tq 5 ?_
    refine tq 6 ?_
    refine tq 7 ?_
    refine tq1 8 (fun w9 hSw=>cell_quiet hSw (HG.out.cell (i:=1) rfl) NHG.out) ?_
    refine rd1 9 (fun K hK=>?_)
    go_simp
    refine name_r HWwd nm (fun wo21 h3 h4=>?_)
    have H3:=hd h3
    have H4:Hid (Chg [b] w4 wo21):=hd ((CD.out.mono (by simp)).trans h4 (fun k hk=>.inl hk))
    refine kq hK (hHeld.trans h4 (fun k hk=>.inl (by rw[List.mem_singleton] at hk;simp[hk]))) (fun hHeld=>?_)
    clear h3 h4
    have hz:¬ 9223372036854775807 < 5+nm.length:=by omega
    refine tq 10 ?_
    refine tq 11 ?_
    refine dq ?_
    go_wp2_with fail
    go_meet
    exact ⟨by rw[show (⟨List.toArray ([100,101,110,121,32]:Bytes)⟩:ByteArray)++⟨List.toArray nm⟩=⟨(([100,101,110,121,32]:Bytes)++nm).toArray⟩ from str2 _ _];rfl,H3,H4⟩
  · skip
    have HOB:Hid (∀ k ∈ b :: v.ownBlock.toList,w0.heap.size≤k):=hd (HW4.out.ob HB0.out)
    refine wp_region_held_drew (S:=fun W'=>Chg (b :: v.ownBlock.toList) w4 W') (by kernel_rfl) (Chg.refl _ _).drew (fun hHeld=>?_)
    obtain ⟨wd,hwd⟩:∃ x,x=w4.drew:=⟨_,rfl⟩
    have CD:Hid (Chg [] w4 wd):=hd (by rw[hwd];exact (Chg.refl _ _).drew)
    rw[← hwd] at hHeld ⊢
    clear hwd
    have HWwd:=hd (HW4.out.quiet CD.out)
    refine tq 0 ?_
    refine tq 1 ?_
    refine tq1 2 (fun w9 hSw=>cell_quiet hSw (HG.out.cell (i:=0) rfl) NHG.out) ?_
    refine tq 3 ?_ (hy:=by intro w9 hSw;have hix:∀ w,(Instr.index 147 (.agg #[.string ⟨#[]⟩,.string ⟨#[97,108,108,111,119,32]⟩,.string ⟨#[100,101,110,121,32]⟩,.string ⟨#[112,114,105,99,101,32]⟩,.string ⟨#[114,101,115,97,108,101,32]⟩,.string ⟨#[114,101,102,117,110,100,32]⟩,.string ⟨#[116,111,103,101,116,104,101,114,32]⟩,.string ⟨#[115,105,110,103,108,101,32]⟩]) (.int .i64 3)).run Tryz.prog w = .ok (.string ⟨#[112,114,105,99,101,32]⟩) w:=(fun _=>by kernel_rfl);go_simp;try with_reducible rfl)
    refine tq 4 ?_
    refine tq 5 ?_
    refine tq 6 ?_
    refine tq 7 ?_
    refine tq1 8 (fun w9 hSw=>cell_quiet hSw (HG.out.cell (i:=1) rfl) NHG.out) ?_
    refine rd1 9 (fun K hK=>?_)
    go_simp
    refine name_r HWwd nm (fun wo31 h3 h4=>?_)
    have H3:=hd h3
    have H4:Hid (Chg [b] w4 wo31):=hd ((CD.out.mono (by simp)).trans h4 (fun k hk=>.inl hk))
    refine kq hK (hHeld.trans h4 (fun k hk=>.inl (by rw[List.mem_singleton] at hk;simp[hk]))) (fun hHeld=>?_)
    clear h3 h4
    have hz:¬ 9223372036854775807 < 6+nm.length:=by omega
    refine tq 10 ?_
    refine tq 11 ?_
    refine dq ?_
    go_wp2_with fail
    go_meet
    exact ⟨by rw[show (⟨List.toArray ([112,114,105,99,101,32]:Bytes)⟩:ByteArray)++⟨List.toArray nm⟩=⟨(([112,114,105,99,101,32]:Bytes)++nm).toArray⟩ from str2 _ _];rfl,H3,H4⟩
  · skip
    have HOB:Hid (∀ k ∈ b :: v.ownBlock.toList,w0.heap.size≤k):=hd (HW4.out.ob HB0.out)
    refine wp_region_held_drew (S:=fun W'=>Chg (b :: v.ownBlock.toList) w4 W') (by kernel_rfl) (Chg.refl _ _).drew (fun hHeld=>?_)
    obtain ⟨wd,hwd⟩:∃ x,x=w4.drew:=⟨_,rfl⟩
    have CD:Hid (Chg [] w4 wd):=hd (by rw[hwd];exact (Chg.refl _ _).drew)
    rw[← hwd] at hHeld ⊢
    clear hwd
    have HWwd:=hd (HW4.out.quiet CD.out)
    refine tq 0 ?_
    refine tq 1 ?_
    refine tq1 2 (fun w9 hSw=>cell_quiet hSw (HG.out.cell (i:=0) rfl) NHG.out) ?_
    refine tq 3 ?_ (hy:=by intro w9 hSw;have hix:∀ w,(Instr.index 147 (.agg #[.string ⟨#[]⟩,.string ⟨#[97,108,108,111,119,32]⟩,.string ⟨#[100,101,110,121,32]⟩,.string ⟨#[112,114,105,99,101,32]⟩,.string ⟨#[114,101,115,97,108,101,32]⟩,.string ⟨#[114,101,102,117,110,100,32]⟩,.string ⟨#[116,111,103,101,116,104,101,114,32]⟩,.string ⟨#[115,105,110,103,108,101,32]⟩]) (.int .i64 4)).run Tryz.prog w = .ok (.string ⟨#[114,101,115,97,108,101,32]⟩) w:=(fun _=>by kernel_rfl);go_simp;try with_reducible rfl)
    refine tq 4 ?_
    refine tq 5 ?_
    refine tq 6 ?_
    refine tq 7 ?_
    refine tq1 8 (fun w9 hSw=>cell_quiet hSw (HG.out.cell (i:=1) rfl) NHG.out) ?_
    refine rd1 9 (fun K hK=>?_)
    go_simp
    refine name_r HWwd nm (fun wo41 h3 h4=>?_)
    have H3:=hd h3
    have H4:Hid (Chg [b] w4 wo41):=hd ((CD.out.mono (by simp)).trans h4 (fun k hk=>.inl hk))
    refine kq hK (hHeld.trans h4 (fun k hk=>.inl (by rw[List.mem_singleton] at hk;simp[hk]))) (fun hHeld=>?_)
    clear h3 h4
    have hz:¬ 9223372036854775807 < 7+nm.length:=by omega
    refine tq 10 ?_
    refine tq 11 ?_
    refine dq ?_
    go_wp2_with fail
    go_meet
    exact ⟨by rw[show (⟨List.toArray ([114,101,115,97,108,101,32]:Bytes)⟩:ByteArray)++⟨List.toArray nm⟩=⟨(([114,101,115,97,108,101,32]:Bytes)++nm).toArray⟩ from str2 _ _];rfl,H3,H4⟩
  · skip
    have HOB:Hid (∀ k ∈ b :: v.ownBlock.toList,w0.heap.size≤k):=hd (HW4.out.ob HB0.out)
    refine wp_region_held_drew (S:=fun W'=>Chg (b :: v.ownBlock.toList) w4 W') (by kernel_rfl) (Chg.refl _ _).drew (fun hHeld=>?_)
    obtain ⟨wd,hwd⟩:∃ x,x=w4.drew:=⟨_,rfl⟩
    have CD:Hid (Chg [] w4 wd):=hd (by rw[hwd];exact (Chg.refl _ _).drew)
    rw[← hwd] at hHeld ⊢
    clear hwd
    have HWwd:=hd (HW4.out.quiet CD.out)
    refine tq 0 ?_
    refine tq 1 ?_
    refine tq1 2 (fun w9 hSw=>cell_quiet hSw (HG.out.cell (i:=0) rfl) NHG.out) ?_
    refine tq 3 ?_ (hy:=by intro w9 hSw;have hix:∀ w,(Instr.index 147 (.agg #[.string ⟨#[]⟩,.string ⟨#[97,108,108,111,119,32]⟩,.string ⟨#[100,101,110,121,32]⟩,.string ⟨#[112,114,105,99,101,32]⟩,.string ⟨#[114,101,115,97,108,101,32]⟩,.string ⟨#[114,101,102,117,110,100,32]⟩,.string ⟨#[116,111,103,101,116,104,101,114,32]⟩,.string ⟨#[115,105,110,103,108,101,32]⟩]) (.int .i64 5)).run Tryz.prog w = .ok (.string ⟨#[114,101,102,117,110,100,32]⟩) w:=(fun _=>by kernel_rfl);go_simp;try with_reducible rfl)
    refine tq 4 ?_
    refine tq 5 ?_
    refine tq 6 ?_
    refine tq 7 ?_
    refine tq1 8 (fun w9 hSw=>cell_quiet hSw (HG.out.cell (i:=1) rfl) NHG.out) ?_
    refine rd1 9 (fun K hK=>?_)
    go_simp
    refine name_r HWwd nm (fun wo51 h3 h4=>?_)
    have H3:=hd h3
    have H4:Hid (Chg [b] w4 wo51):=hd ((CD.out.mono (by simp)).trans h4 (fun k hk=>.inl hk))
    refine kq hK (hHeld.trans h4 (fun k hk=>.inl (by rw[List.mem_singleton] at hk;simp[hk]))) (fun hHeld=>?_)
    clear h3 h4
    have hz:¬ 9223372036854775807 < 7+nm.length:=by omega
    refine tq 10 ?_
    refine tq 11 ?_
    refine dq ?_
    go_wp2_with fail
    go_meet
    exact ⟨by rw[show (⟨List.toArray ([114,101,102,117,110,100,32]:Bytes)⟩:ByteArray)++⟨List.toArray nm⟩=⟨(([114,101,102,117,110,100,32]:Bytes)++nm).toArray⟩ from str2 _ _];rfl,H3,H4⟩
  · skip
    have HOB:Hid (∀ k ∈ b :: v.ownBlock.toList,w0.heap.size≤k):=hd (HW4.out.ob HB0.out)
    refine wp_region_held_drew (S:=fun W'=>Chg (b :: v.ownBlock.toList) w4 W') (by kernel_rfl) (Chg.refl _ _).drew (fun hHeld=>?_)
    obtain ⟨wd,hwd⟩:∃ x,x=w4.drew:=⟨_,rfl⟩
    have CD:Hid (Chg [] w4 wd):=hd (by rw[hwd];exact (Chg.refl _ _).drew)
    rw[← hwd] at hHeld ⊢
    clear hwd
    have HWwd:=hd (HW4.out.quiet CD.out)
    refine tq 0 ?_
    refine tq 1 ?_
    refine tq1 2 (fun w9 hSw=>cell_quiet hSw (HG.out.cell (i:=0) rfl) NHG.out) ?_
    refine tq 3 ?_ (hy:=by intro w9 hSw;have hix:∀ w,(Instr.index 147 (.agg #[.string ⟨#[]⟩,.string ⟨#[97,108,108,111,119,32]⟩,.string ⟨#[100,101,110,121,32]⟩,.string ⟨#[112,114,105,99,101,32]⟩,.string ⟨#[114,101,115,97,108,101,32]⟩,.string ⟨#[114,101,102,117,110,100,32]⟩,.string ⟨#[116,111,103,101,116,104,101,114,32]⟩,.string ⟨#[115,105,110,103,108,101,32]⟩]) (.int .i64 6)).run Tryz.prog w = .ok (.string ⟨#[116,111,103,101,116,104,101,114,32]⟩) w:=(fun _=>by kernel_rfl);go_simp;try with_reducible rfl)
    refine tq 4 ?_
    refine tq 5 ?_
    refine tq 6 ?_
    refine tq 7 ?_
    refine tq1 8 (fun w9 hSw=>cell_quiet hSw (HG.out.cell (i:=1) rfl) NHG.out) ?_
    refine rd1 9 (fun K hK=>?_)
    go_simp
    refine name_r HWwd nm (fun wo61 h3 h4=>?_)
    have H3:=hd h3
    have H4:Hid (Chg [b] w4 wo61):=hd ((CD.out.mono (by simp)).trans h4 (fun k hk=>.inl hk))
    refine kq hK (hHeld.trans h4 (fun k hk=>.inl (by rw[List.mem_singleton] at hk;simp[hk]))) (fun hHeld=>?_)
    clear h3 h4
    have hz:¬ 9223372036854775807 < 9+nm.length:=by omega
    refine tq 10 ?_
    refine tq 11 ?_
    refine dq ?_
    go_wp2_with fail
    go_meet
    exact ⟨by rw[show (⟨List.toArray ([116,111,103,101,116,104,101,114,32]:Bytes)⟩:ByteArray)++⟨List.toArray nm⟩=⟨(([116,111,103,101,116,104,101,114,32]:Bytes)++nm).toArray⟩ from str2 _ _];rfl,H3,H4⟩
  have HOB:Hid (∀ k ∈ b :: v.ownBlock.toList,w0.heap.size≤k):=hd (HW4.out.ob HB0.out)
  refine wp_region_held_drew (S:=fun W'=>Chg (b :: v.ownBlock.toList) w4 W') (by kernel_rfl) (Chg.refl _ _).drew (fun hHeld=>?_)
  obtain ⟨wd,hwd⟩:∃ x,x=w4.drew:=⟨_,rfl⟩
  have CD:Hid (Chg [] w4 wd):=hd (by rw[hwd];exact (Chg.refl _ _).drew)
  rw[← hwd] at hHeld ⊢
  clear hwd
  have HWwd:=hd (HW4.out.quiet CD.out)
  refine tq 0 ?_
  refine tq 1 ?_
  refine tq1 2 (fun w9 hSw=>cell_quiet hSw (HG.out.cell (i:=0) rfl) NHG.out) ?_
  refine tq 3 ?_ (hy:=by intro w9 hSw;have hix:∀ w,(Instr.index 147 (.agg #[.string ⟨#[]⟩,.string ⟨#[97,108,108,111,119,32]⟩,.string ⟨#[100,101,110,121,32]⟩,.string ⟨#[112,114,105,99,101,32]⟩,.string ⟨#[114,101,115,97,108,101,32]⟩,.string ⟨#[114,101,102,117,110,100,32]⟩,.string ⟨#[116,111,103,101,116,104,101,114,32]⟩,.string ⟨#[115,105,110,103,108,101,32]⟩]) (.int .i64 7)).run Tryz.prog w = .ok (.string ⟨#[115,105,110,103,108,101,32]⟩) w:=(fun _=>by kernel_rfl);go_simp;try with_reducible rfl)
  refine tq 4 ?_
  refine tq 5 ?_
  refine tq 6 ?_
  refine tq 7 ?_
  refine tq1 8 (fun w9 hSw=>cell_quiet hSw (HG.out.cell (i:=1) rfl) NHG.out) ?_
  refine rd1 9 (fun K hK=>?_)
  go_simp
  refine name_r HWwd nm (fun wo71 h3 h4=>?_)
  have H3:=hd h3
  have H4:Hid (Chg [b] w4 wo71):=hd ((CD.out.mono (by simp)).trans h4 (fun k hk=>.inl hk))
  refine kq hK (hHeld.trans h4 (fun k hk=>.inl (by rw[List.mem_singleton] at hk;simp[hk]))) (fun hHeld=>?_)
  clear h3 h4
  have hz:¬ 9223372036854775807 < 7+nm.length:=by omega
  refine tq 10 ?_
  refine tq 11 ?_
  refine dq ?_
  go_wp2_with fail
  go_meet
  exact ⟨by rw[show (⟨List.toArray ([115,105,110,103,108,101,32]:Bytes)⟩:ByteArray)++⟨List.toArray nm⟩=⟨(([115,105,110,103,108,101,32]:Bytes)++nm).toArray⟩ from str2 _ _];rfl,H3,H4⟩
 case rest =>
  obtain ⟨h5,HWC,HCC⟩:=hcut
  subst h5
  have HQC:Hid (Chg [] w0 wc):=hd (HQ4.out.since HCC.out HB0.out)
  have HGC:=hd (HCC.out.blk HG.out (by simp[NG]))
  have HRC:Hid (Wr b v w v wc):=hd (Wr.cell ((C4.out.mono (by simp)).trans HCC.out (fun k hk=>.inl hk)))
  clear HCC HW HW4 HG NHG HQ HQ4 C4
  obtain ⟨sa,hsa⟩:∃ z,z=Pr.kindW kd++nm:=⟨_,rfl⟩
  rw[← hsa]
  have gsa:sa.length≤1010:=by rw[hsa,List.length_append];have:=Pr.kindW_len kd;omega
  have HSA:=hd hsa
  clear hsa
  obtain ⟨bad1,hb1⟩:∃ z,z=(bad || !Pr.nameOk nm):=⟨_,rfl⟩
  rw[← hb1] at HWC
  have HB1:=hd hb1
  clear hb1
  go_upto_region 3 with (fail)
  obtain ⟨w6,hw⟩:∃ W,W=wc.alloc (.cells #[.int .i64 0,.string ⟨#[]⟩,.slice none 0 0,.int .i64 0,.int .i64 0,.int .i64 0,.int .i64 0,.int .i64 0,.int .i64 0] 69):=⟨_,rfl⟩
  rw[← hw]
  obtain ⟨D,hG⟩:∃ X,X=wc.heap.size:=⟨_,rfl⟩
  rw[← hG]
  have HD:=newB hw hG
  have C6:=newC hw
  have ND:D≠b:=by have:=HWC.out.lt;omega
  have hDs:Hid (D=wc.heap.size):=hd hG
  clear hw hG
  have HW6:=hd (HWC.out.quiet C6.out)
  have HQ6:Hid (Chg [] w0 w6):=hd (HQC.out.trans C6.out (by simp))
  have HG6:=hd (C6.out.blk HGC.out (by simp))
  have HR6:Hid (Wr b v w v w6):=hd (HRC.out.trans (Wr.cell (C6.out.mono (by simp))))
  have NGD:G≠D:=by have h1:=HGC.out.lt;intro e;subst e;have h2:=hDs.out;omega
  have HWD0:Hid (w0.heap.size≤D):=hd (by have:=HQC.out.size;have:=hDs.out;omega)
  have HWD1:Hid (w.heap.size≤D):=hd (by have:=HRC.out.chg.size;have:=hDs.out;omega)
  clear HWC HQC HGC HRC C6
  have g0:=HG6.out.cell (i:=0) rfl
  have hcs:kd=1∨kd=3∨kd=4∨kd=5∨kd=2∨kd=6∨kd=7:=by omega
  clear hk1 hk7
  rcases hcs with rfl|rfl|rfl|rfl|h267
  · skip
    have dd3:=HD.out.cell (i:=3) rfl
    have df3:=HD.out.free 3
    have g3:=HG6.out.cell (i:=3) rfl
    go_upto_region 6 with (fail)
    clear g0 dd3 df3 g3
    obtain ⟨w7,hw⟩:∃ W,W=(w6.setCell ⟨D,3,none⟩ (.int .i64 n)):=⟨_,rfl⟩
    rw[← hw]
    have Cw7:Hid (Chg [D] w6 w7):=hd (by rw[hw];exact ((Chg.refl _ _).setCell _ _ (.inl (by simp))))
    have HDw7:Hid (Blk w7 D [.int .i64 0,.string ⟨#[]⟩,.slice none 0 0,.int .i64 n,.int .i64 0,.int .i64 0,.int .i64 0,.int .i64 0,.int .i64 0] 69):=hd (by rw[hw];exact (HD.out.set 3 (.int .i64 n)))
    have HGw7:=hd (Cw7.out.blk HG6.out (by simp[NGD]))
    have HWw7:=hd (HW6.out.keep Cw7.out HD.out (by decide) ND)
    have HQw7:Hid (Chg [] w0 w7):=hd (HQ6.out.since Cw7.out HWD0.out)
    have HRw7:Hid (Wr b v w v w7):=hd ⟨HR6.out.chg.trans Cw7.out (fun k hk=>.inr (by rw[List.mem_singleton] at hk;rw[hk];exact HWD1.out)),HR6.out.own⟩
    clear hw
    have g3:=HGw7.out.cell (i:=3) rfl
    by_cases hn:n=0
    · subst hn
      go_upto_region 17 with (fail)
      clear g3
      obtain ⟨q,hq⟩:∃ q,q=bad1:=⟨_,rfl⟩
      have HWq:=HWw7
      rw[← hq] at HWq
      have HQQ:=hd hq
      clear hq
      have k3:=HWq.out.c3.1
      have f3:=HWq.out.c3.2
      have g3:=HGw7.out.cell (i:=3) rfl
      have g4:=HGw7.out.cell (i:=4) rfl
      have g5:=HGw7.out.cell (i:=5) rfl
      have g6:=HGw7.out.cell (i:=6) rfl
      have g7:=HGw7.out.cell (i:=7) rfl
      have d3:=HDw7.out.cell (i:=3) rfl
      have d4:=HDw7.out.cell (i:=4) rfl
      have d5:=HDw7.out.cell (i:=5) rfl
      have d6:=HDw7.out.cell (i:=6) rfl
      have d7:=HDw7.out.cell (i:=7) rfl
      have HOK:Hid (Pr.wordsOk ⟨1,nm,whn,0,(r1,r2),(s1,s2),pos⟩=(Pr.nameOk nm && (Pr.numOk 0 && decide (r1=0∧r2=0∧s1=0∧s2=0)))):=hd (by simp[Pr.wordsOk,Prod.mk.injEq,and_assoc])
      have HEQ:Hid ((bad || !Pr.wordsOk ⟨1,nm,whn,0,(r1,r2),(s1,s2),pos⟩)=(q || !decide (r1=0∧r2=0∧s1=0∧s2=0))):=hd (by rw[HOK.out,HQQ.out,HB1.out];simp[Pr.numOk_0];try (cases bad <;> cases Pr.nameOk nm <;> simp))
      have FIN:Hid (∀ r:Bool,r=(q || !decide (r1=0∧r2=0∧s1=0∧s2=0))→R (.returned (.string ⟨sa.toArray⟩)) (w7.setCell ⟨b,3,none⟩ (.bool r))):=hd (fun r hr=>by
       have h8:=HRR.out (w7.setCell ⟨b,3,none⟩ (.bool r)) (by rw[HEQ.out,← hr];exact HWq.out.set3 r (fun e=>by rw[hr] at e;exact (Bool.or_eq_false_iff.1 e).1)) (HRw7.out.trans (Wr.cell ((Chg.refl _ _).setCell _ _ (.inl (by simp)))))
       rw[show Pr.wordsS ⟨1,nm,whn,0,(r1,r2),(s1,s2),pos⟩=sa from by rw[HSA.out];simp[Pr.wordsS]] at h8
       exact h8)
      clear HEQ HOK HWq
      cases q
      · skip
        exact mPrWw0
      go_wp2_with fail
      exact FIN.out true (by simp)
    have HNZ:=hd hn
    go_upto_region 7 with (fail)
    clear g3 hn
    have NHG:=hd (HWw7.out.nb HGw7.out NG (by decide))
    have NHD:=hd (HWw7.out.nb HDw7.out ND (by decide))
    have HOB:Hid (∀ k ∈ b :: v.ownBlock.toList,w0.heap.size≤k):=hd (HWw7.out.ob HB0.out)
    refine wp_region_held_drew (S:=fun W'=>Chg (b :: v.ownBlock.toList) w7 W') (by kernel_rfl) (Chg.refl _ _).drew (fun hHeld=>?_)
    obtain ⟨wda,hwd⟩:∃ x,x=w7.drew:=⟨_,rfl⟩
    have CD:Hid (Chg [] w7 wda):=hd (by rw[hwd];exact (Chg.refl _ _).drew)
    rw[← hwd] at hHeld ⊢
    clear hwd
    have HWwda:=hd (HWw7.out.quiet CD.out)
    have HQB:=HQw7
    refine tq 0 ?_
    refine tq 1 ?_
    refine tq 2 ?_
    refine tq 3 ?_
    refine tq 4 ?_
    refine tq1 5 (fun w9 hSw=>cell_quiet hSw (HGw7.out.cell (i:=3) rfl) NHG.out) ?_
    refine rd1 6 (fun K hK=>?_)
    go_simp
    obtain ⟨wa1,hw⟩:∃ W,W=wda.alloc (.cells #[.int .i64 n] 3):=⟨_,rfl⟩
    rw[← hw]
    obtain ⟨X1,hX⟩:∃ X,X=wda.heap.size:=⟨_,rfl⟩
    rw[← hX]
    have HX1:Hid (Blk wa1 X1 [.int .i64 n] 3∧X1≠b):=hd ⟨by rw[hw,hX];exact Blk.new wda [.int .i64 n] _,by have:=HWwda.out.lt;omega⟩
    have Cw:=newC hw
    have HWwa1:=hd (HWwda.out.quiet Cw.out)
    refine kq hK (hHeld.trans Cw.out (by simp)) (fun hHeld=>?_)
    clear hw hX
    clear Cw
    refine rd1 7 (fun K hK=>?_)
    go_simp
    refine numbers_r HL HB0 (hd ((HQB.out.trans hHeld (fun k hk=>.inr (HOB.out k hk))))) HWwa1 [n] 1 ⟨rfl,by decide⟩ (by intro q hq;rw[List.mem_singleton] at hq;rw[hq];exact HIN.out) HX1.out.1 HX1.out.2 (fun wa2 h3 h4=>?_)
    have HWwa2:=hd h3
    refine kq hK (hHeld.trans h4 (fun k hk=>.inl (by rw[List.mem_singleton] at hk;simp[hk]))) (fun hHeld=>?_)
    clear h3 h4
    have gna:(Pr.nums [n]).length≤22:=Pr.nums_len [n] (by intro q hq;rw[List.mem_singleton] at hq;rw[hq];exact HIN.out)
    obtain ⟨na,h9⟩:∃ z,z=Pr.nums [n]:=⟨_,rfl⟩
    rw[← h9] at gna
    rw[← h9]
    have Hna:=hd h9
    clear h9
    have hz:¬ 9223372036854775807 < 6+na.length:=by omega
    refine tq 8 ?_
    rw[show (⟨List.toArray ([32,108,105,109,105,116]:Bytes)⟩:ByteArray)++⟨List.toArray na⟩=⟨(([32,108,105,109,105,116]:Bytes)++na).toArray⟩ from str2 _ _]
    obtain ⟨a1,h9⟩:∃ z,z=([32,108,105,109,105,116]:Bytes)++na:=⟨_,rfl⟩
    rw[← h9]
    have ga1:a1.length≤100:=by rw[h9,List.length_append];show 6+na.length≤_;omega
    have Ha1:=hd h9
    clear h9 hz
    have hz:¬ 9223372036854775807 < sa.length+a1.length:=by omega
    refine tq 9 ?_
    rw[show (⟨List.toArray sa⟩:ByteArray)++⟨List.toArray a1⟩=⟨(sa++a1).toArray⟩ from str2 _ _]
    obtain ⟨a2,h9⟩:∃ z,z=sa++a1:=⟨_,rfl⟩
    rw[← h9]
    have ga2:a2.length≤1120:=by rw[h9,List.length_append];show sa.length+a1.length≤_;omega
    have Ha2:=hd h9
    clear h9 hz
    refine tq 10 ?_
    refine dq ?_
    have HH:=hd hHeld
    clear hHeld
    have HGwa2:=hd (HH.out.blk HGw7.out NHG.out)
    have HDwa2:=hd (HH.out.blk HDw7.out NHD.out)
    have HQwa2:Hid (Chg [] w0 wa2):=hd (HQw7.out.trans HH.out (fun k hk=>.inr (HOB.out k hk)))
    have HRwa2:Hid (Wr b v w v wa2):=hd (HRw7.out.trans ⟨HH.out,fun k hk=>.inl hk⟩)
    go_upto_region 17 with (fail)
    obtain ⟨q,hq⟩:∃ q,q=(bad1 || !Pr.numsOk [n]):=⟨_,rfl⟩
    have HWq:=HWwa2
    rw[← hq] at HWq
    have HQQ:=hd hq
    clear hq
    have k3:=HWq.out.c3.1
    have f3:=HWq.out.c3.2
    have g3:=HGwa2.out.cell (i:=3) rfl
    have g4:=HGwa2.out.cell (i:=4) rfl
    have g5:=HGwa2.out.cell (i:=5) rfl
    have g6:=HGwa2.out.cell (i:=6) rfl
    have g7:=HGwa2.out.cell (i:=7) rfl
    have d3:=HDwa2.out.cell (i:=3) rfl
    have d4:=HDwa2.out.cell (i:=4) rfl
    have d5:=HDwa2.out.cell (i:=5) rfl
    have d6:=HDwa2.out.cell (i:=6) rfl
    have d7:=HDwa2.out.cell (i:=7) rfl
    have HOK:Hid (Pr.wordsOk ⟨1,nm,whn,n,(r1,r2),(s1,s2),pos⟩=(Pr.nameOk nm && (Pr.numOk n && decide (r1=0∧r2=0∧s1=0∧s2=0)))):=hd (by simp[Pr.wordsOk,Prod.mk.injEq,and_assoc])
    have HEQ:Hid ((bad || !Pr.wordsOk ⟨1,nm,whn,n,(r1,r2),(s1,s2),pos⟩)=(q || !decide (r1=0∧r2=0∧s1=0∧s2=0))):=hd (by rw[HOK.out,HQQ.out,HB1.out];simp only[Pr.numsOk_1w];cases bad <;> cases Pr.nameOk nm <;> cases Pr.numOk n <;> simp)
    have FIN:Hid (∀ r:Bool,r=(q || !decide (r1=0∧r2=0∧s1=0∧s2=0))→R (.returned (.string ⟨a2.toArray⟩)) (wa2.setCell ⟨b,3,none⟩ (.bool r))):=hd (fun r hr=>by
     have h8:=HRR.out (wa2.setCell ⟨b,3,none⟩ (.bool r)) (by rw[HEQ.out,← hr];exact HWq.out.set3 r (fun e=>by rw[hr] at e;exact (Bool.or_eq_false_iff.1 e).1)) (HRwa2.out.trans (Wr.cell ((Chg.refl _ _).setCell _ _ (.inl (by simp)))))
     rw[show Pr.wordsS ⟨1,nm,whn,n,(r1,r2),(s1,s2),pos⟩=a2 from by rw[Ha2.out,Ha1.out,Hna.out,HSA.out];simp[Pr.wordsS,HNZ.out,Pr.tLimit]] at h8
     exact h8)
    clear HEQ HOK HWq
    cases q
    · skip
      exact mPrWw0
    go_wp2_with fail
    exact FIN.out true (by simp)
  · skip
    go_upto_region 9 with (fail)
    clear g0
    have NHG:G ∉ [D]:=by simp[NGD]
    refine wp_region_held_drew (S:=fun W'=>Chg [D] w6 W') (by kernel_rfl) (Chg.refl _ _).drew (fun hHeld=>?_)
    obtain ⟨wd,hwd⟩:∃ x,x=w6.drew:=⟨_,rfl⟩
    have CD:Hid (Chg [] w6 wd):=hd (by rw[hwd];exact (Chg.refl _ _).drew)
    rw[← hwd] at hHeld ⊢
    clear hwd
    have HD0:=hd (CD.out.blk HD.out (by simp))
    refine tq 0 ?_
    refine tq1 1 (fun w9 hSw=>cell_quiet hSw (HG6.out.cell (i:=3) rfl) NHG) ?_
    refine tq 2 ?_
    refine tq 3 ?_ (hy:=by intro w9 hSw;have e4:=cell_quiet hSw (HG6.out.cell (i:=4) rfl) NHG;have e5:=cell_quiet hSw (HG6.out.cell (i:=5) rfl) NHG;go_simp;try with_reducible rfl)
    refine tq 4 ?_
    refine tq 5 ?_ (hy:=by intro w9 hSw;have e6:=cell_quiet hSw (HG6.out.cell (i:=6) rfl) NHG;have e7:=cell_quiet hSw (HG6.out.cell (i:=7) rfl) NHG;go_simp;try with_reducible rfl)
    refine tq 6 ?_
    refine rd1 7 (fun K hK=>?_)
    have dc3:=HD0.out.cell (i:=3) rfl
    have df3:=HD0.out.free 3
    go_simp
    obtain ⟨wd1,hw⟩:∃ W,W=(wd.setCell ⟨D,3,none⟩ (.int .i64 n)):=⟨_,rfl⟩
    rw[← hw]
    have CC:Hid (Chg [D] wd wd1):=hd (by rw[hw];exact ((Chg.refl _ _).setCell _ _ (.inl (by simp))))
    have HD1:Hid (Blk wd1 D [.int .i64 0,.string ⟨#[]⟩,.slice none 0 0,.int .i64 n,.int .i64 0,.int .i64 0,.int .i64 0,.int .i64 0,.int .i64 0] 69):=hd (by rw[hw];exact (HD0.out.set 3 (.int .i64 n)))
    clear hw dc3 df3
    refine kq hK (hHeld.trans CC.out (fun k hk=>.inl hk)) (fun hHeld=>?_)
    clear CC
    refine tq 8 ?_
    refine rd1 9 (fun K hK=>?_)
    have dc4:=HD1.out.cell (i:=4) rfl
    have df4:=HD1.out.free 4
    have dc5:=HD1.out.cell (i:=5) rfl
    have df5:=HD1.out.free 5
    go_simp
    obtain ⟨wd2,hw⟩:∃ W,W=((wd1.setCell ⟨D,4,none⟩ (.int .i64 r1)).setCell ⟨D,5,none⟩ (.int .i64 r2)):=⟨_,rfl⟩
    rw[← hw]
    have CC:Hid (Chg [D] wd1 wd2):=hd (by rw[hw];exact (((Chg.refl _ _).setCell _ _ (.inl (by simp))).setCell _ _ (.inl (by simp))))
    have HD2:Hid (Blk wd2 D [.int .i64 0,.string ⟨#[]⟩,.slice none 0 0,.int .i64 n,.int .i64 r1,.int .i64 r2,.int .i64 0,.int .i64 0,.int .i64 0] 69):=hd (by rw[hw];exact ((HD1.out.set 4 (.int .i64 r1)).set 5 (.int .i64 r2)))
    clear hw dc4 df4 dc5 df5
    refine kq hK (hHeld.trans CC.out (fun k hk=>.inl hk)) (fun hHeld=>?_)
    clear CC
    refine tq 10 ?_
    refine rd1 11 (fun K hK=>?_)
    have dc6:=HD2.out.cell (i:=6) rfl
    have df6:=HD2.out.free 6
    have dc7:=HD2.out.cell (i:=7) rfl
    have df7:=HD2.out.free 7
    go_simp
    obtain ⟨wd3,hw⟩:∃ W,W=((wd2.setCell ⟨D,6,none⟩ (.int .i64 s1)).setCell ⟨D,7,none⟩ (.int .i64 s2)):=⟨_,rfl⟩
    rw[← hw]
    have CC:Hid (Chg [D] wd2 wd3):=hd (by rw[hw];exact (((Chg.refl _ _).setCell _ _ (.inl (by simp))).setCell _ _ (.inl (by simp))))
    have HD3:Hid (Blk wd3 D [.int .i64 0,.string ⟨#[]⟩,.slice none 0 0,.int .i64 n,.int .i64 r1,.int .i64 r2,.int .i64 s1,.int .i64 s2,.int .i64 0] 69):=hd (by rw[hw];exact ((HD2.out.set 6 (.int .i64 s1)).set 7 (.int .i64 s2)))
    clear hw dc6 df6 dc7 df7
    refine kq hK (hHeld.trans CC.out (fun k hk=>.inl hk)) (fun hHeld=>?_)
    clear CC
    refine dq ?_
    have HH:=hd hHeld
    clear hHeld
    have HGw7:=hd (HH.out.blk HG6.out NHG)
    have HWw7:=hd (HW6.out.keep HH.out HD.out (by decide) ND)
    have HQw7:Hid (Chg [] w0 wd3):=hd (HQ6.out.since HH.out HWD0.out)
    have HRw7:Hid (Wr b v w v wd3):=hd ⟨HR6.out.chg.trans HH.out (fun k hk=>.inr (by rw[List.mem_singleton] at hk;rw[hk];exact HWD1.out)),HR6.out.own⟩
    have HDw7:=HD3
    clear NHG
    go_upto_region 10 with (fail)
    have NHG:=hd (HWw7.out.nb HGw7.out NG (by decide))
    have NHD:=hd (HWw7.out.nb HDw7.out ND (by decide))
    have HOB:Hid (∀ k ∈ b :: v.ownBlock.toList,w0.heap.size≤k):=hd (HWw7.out.ob HB0.out)
    refine wp_region_held_drew (S:=fun W'=>Chg (b :: v.ownBlock.toList) wd3 W') (by kernel_rfl) (Chg.refl _ _).drew (fun hHeld=>?_)
    obtain ⟨wdc,hwd⟩:∃ x,x=wd3.drew:=⟨_,rfl⟩
    have CD:Hid (Chg [] wd3 wdc):=hd (by rw[hwd];exact (Chg.refl _ _).drew)
    rw[← hwd] at hHeld ⊢
    clear hwd
    have HWwdc:=hd (HWw7.out.quiet CD.out)
    have HQB:=HQw7
    refine tq 0 ?_
    refine tq 1 ?_
    refine tq 2 ?_
    refine tq 3 ?_
    refine tq 4 ?_
    refine tq1 5 (fun w9 hSw=>cell_quiet hSw (HGw7.out.cell (i:=3) rfl) NHG.out) ?_
    refine tq 8 ?_
    refine tq 9 ?_
    refine tq 10 ?_ (hy:=by intro w9 hSw;have e4:=cell_quiet hSw (HGw7.out.cell (i:=4) rfl) NHG.out;have e5:=cell_quiet hSw (HGw7.out.cell (i:=5) rfl) NHG.out;go_simp;try with_reducible rfl)
    refine tq 13 ?_
    refine tq 14 ?_
    refine tq 15 ?_ (hy:=by intro w9 hSw;have e6:=cell_quiet hSw (HGw7.out.cell (i:=6) rfl) NHG.out;have e7:=cell_quiet hSw (HGw7.out.cell (i:=7) rfl) NHG.out;go_simp;try with_reducible rfl)
    refine rd1 6 (fun K hK=>?_)
    go_simp
    obtain ⟨wc1,hw⟩:∃ W,W=wdc.alloc (.cells #[.int .i64 n] 3):=⟨_,rfl⟩
    rw[← hw]
    obtain ⟨X1,hX⟩:∃ X,X=wdc.heap.size:=⟨_,rfl⟩
    rw[← hX]
    have HX1:Hid (Blk wc1 X1 [.int .i64 n] 3∧X1≠b):=hd ⟨by rw[hw,hX];exact Blk.new wdc [.int .i64 n] _,by have:=HWwdc.out.lt;omega⟩
    have Cw:=newC hw
    have HWwc1:=hd (HWwdc.out.quiet Cw.out)
    refine kq hK (hHeld.trans Cw.out (by simp)) (fun hHeld=>?_)
    clear hw hX
    clear Cw
    refine rd1 7 (fun K hK=>?_)
    go_simp
    refine numbers_r HL HB0 (hd ((HQB.out.trans hHeld (fun k hk=>.inr (HOB.out k hk))))) HWwc1 [n] 1 ⟨rfl,by decide⟩ (by intro q hq;rw[List.mem_singleton] at hq;rw[hq];exact HIN.out) HX1.out.1 HX1.out.2 (fun wc2 h3 h4=>?_)
    have HWwc2:=hd h3
    refine kq hK (hHeld.trans h4 (fun k hk=>.inl (by rw[List.mem_singleton] at hk;simp[hk]))) (fun hHeld=>?_)
    clear h3 h4
    have gna:(Pr.nums [n]).length≤22:=Pr.nums_len [n] (by intro q hq;rw[List.mem_singleton] at hq;rw[hq];exact HIN.out)
    obtain ⟨na,h9⟩:∃ z,z=Pr.nums [n]:=⟨_,rfl⟩
    rw[← h9] at gna
    rw[← h9]
    have Hna:=hd h9
    clear h9
    refine rd1 11 (fun K hK=>?_)
    go_simp
    refine part_r HL HB0 (hd ((HQB.out.trans hHeld (fun k hk=>.inr (HOB.out k hk))))) HWwc2 ([32,102,101,101]:Bytes) (by simp) (r1,r2) HIR (fun wc3 h3 h4=>?_)
    have HWwc3:=hd h3
    refine kq hK (hHeld.trans h4.chg (fun k hk=>.inl hk)) (fun hHeld=>?_)
    clear h3 h4
    have gpa:(Pr.partS [32,102,101,101] (r1,r2)).length≤70:=Pr.partS_len HIR.out _ (by simp)
    obtain ⟨pa,h9⟩:∃ z,z=Pr.partS [32,102,101,101] (r1,r2):=⟨_,rfl⟩
    rw[← h9] at gpa
    rw[← h9]
    have Hpa:=hd h9
    clear h9
    have hz:¬ 9223372036854775807 < na.length+pa.length:=by omega
    refine tq 12 ?_
    rw[show (⟨List.toArray na⟩:ByteArray)++⟨List.toArray pa⟩=⟨(na++pa).toArray⟩ from str2 _ _]
    obtain ⟨a1,h9⟩:∃ z,z=na++pa:=⟨_,rfl⟩
    rw[← h9]
    have ga1:a1.length≤100:=by rw[h9,List.length_append];show na.length+pa.length≤_;omega
    have Ha1:=hd h9
    clear h9 hz
    refine rd1 16 (fun K hK=>?_)
    go_simp
    refine part_r HL HB0 (hd ((HQB.out.trans hHeld (fun k hk=>.inr (HOB.out k hk))))) HWwc3 ([32,116,97,120]:Bytes) (by simp) (s1,s2) HIS (fun wc4 h3 h4=>?_)
    have HWwc4:=hd h3
    refine kq hK (hHeld.trans h4.chg (fun k hk=>.inl hk)) (fun hHeld=>?_)
    clear h3 h4
    have gpb:(Pr.partS [32,116,97,120] (s1,s2)).length≤70:=Pr.partS_len HIS.out _ (by simp)
    obtain ⟨pb,h9⟩:∃ z,z=Pr.partS [32,116,97,120] (s1,s2):=⟨_,rfl⟩
    rw[← h9] at gpb
    rw[← h9]
    have Hpb:=hd h9
    clear h9
    have hz:¬ 9223372036854775807 < a1.length+pb.length:=by omega
    refine tq 17 ?_
    rw[show (⟨List.toArray a1⟩:ByteArray)++⟨List.toArray pb⟩=⟨(a1++pb).toArray⟩ from str2 _ _]
    obtain ⟨a2,h9⟩:∃ z,z=a1++pb:=⟨_,rfl⟩
    rw[← h9]
    have ga2:a2.length≤200:=by rw[h9,List.length_append];show a1.length+pb.length≤_;omega
    have Ha2:=hd h9
    clear h9 hz
    have hz:¬ 9223372036854775807 < sa.length+a2.length:=by omega
    refine tq 18 ?_
    rw[show (⟨List.toArray sa⟩:ByteArray)++⟨List.toArray a2⟩=⟨(sa++a2).toArray⟩ from str2 _ _]
    obtain ⟨a3,h9⟩:∃ z,z=sa++a2:=⟨_,rfl⟩
    rw[← h9]
    have ga3:a3.length≤1300:=by rw[h9,List.length_append];show sa.length+a2.length≤_;omega
    have Ha3:=hd h9
    clear h9 hz
    refine tq 19 ?_
    refine dq ?_
    have HH:=hd hHeld
    clear hHeld
    have HGwc4:=hd (HH.out.blk HGw7.out NHG.out)
    have HDwc4:=hd (HH.out.blk HDw7.out NHD.out)
    have HQwc4:Hid (Chg [] w0 wc4):=hd (HQw7.out.trans HH.out (fun k hk=>.inr (HOB.out k hk)))
    have HRwc4:Hid (Wr b v w v wc4):=hd (HRw7.out.trans ⟨HH.out,fun k hk=>.inl hk⟩)
    go_upto_region 17 with (fail)
    obtain ⟨q,hq⟩:∃ q,q=(((bad1 || !Pr.numsOk [n]) || !Pr.partOk (r1,r2)) || !Pr.partOk (s1,s2)):=⟨_,rfl⟩
    have HWq:=HWwc4
    rw[← hq] at HWq
    have HQQ:=hd hq
    clear hq
    have k3:=HWq.out.c3.1
    have f3:=HWq.out.c3.2
    have g3:=HGwc4.out.cell (i:=3) rfl
    have g4:=HGwc4.out.cell (i:=4) rfl
    have g5:=HGwc4.out.cell (i:=5) rfl
    have g6:=HGwc4.out.cell (i:=6) rfl
    have g7:=HGwc4.out.cell (i:=7) rfl
    have d3:=HDwc4.out.cell (i:=3) rfl
    have d4:=HDwc4.out.cell (i:=4) rfl
    have d5:=HDwc4.out.cell (i:=5) rfl
    have d6:=HDwc4.out.cell (i:=6) rfl
    have d7:=HDwc4.out.cell (i:=7) rfl
    have HOK:Hid (Pr.wordsOk ⟨3,nm,whn,n,(r1,r2),(s1,s2),pos⟩=(Pr.nameOk nm && (Pr.numOk n && (Pr.partOk (r1,r2) && Pr.partOk (s1,s2))))):=hd (by simp[Pr.wordsOk,Prod.mk.injEq,and_assoc])
    have HEQ:Hid ((bad || !Pr.wordsOk ⟨3,nm,whn,n,(r1,r2),(s1,s2),pos⟩)=(q || !decide (True))):=hd (by rw[HOK.out,HQQ.out,HB1.out];simp only[Pr.numsOk_1w];cases bad <;> cases Pr.nameOk nm <;> cases Pr.numOk n <;> cases Pr.partOk (r1,r2) <;> cases Pr.partOk (s1,s2) <;> simp)
    have FIN:Hid (∀ r:Bool,r=(q || !decide (True))→R (.returned (.string ⟨a3.toArray⟩)) (wc4.setCell ⟨b,3,none⟩ (.bool r))):=hd (fun r hr=>by
     have h8:=HRR.out (wc4.setCell ⟨b,3,none⟩ (.bool r)) (by rw[HEQ.out,← hr];exact HWq.out.set3 r (fun e=>by rw[hr] at e;exact (Bool.or_eq_false_iff.1 e).1)) (HRwc4.out.trans (Wr.cell ((Chg.refl _ _).setCell _ _ (.inl (by simp)))))
     rw[show Pr.wordsS ⟨3,nm,whn,n,(r1,r2),(s1,s2),pos⟩=a3 from by rw[Ha3.out,Ha2.out,Ha1.out,Hpa.out,Hpb.out,Hna.out,HSA.out];simp[Pr.wordsS,Pr.tFee,Pr.tTax]] at h8
     exact h8)
    clear HEQ HOK HWq
    cases q
    · skip
      go_wp2_with fail
      exact FIN.out false (by simp)
    go_wp2_with fail
    exact FIN.out true (by simp)
  · skip
    go_upto_region 12 with (fail)
    clear g0
    have NHG:G ∉ [D]:=by simp[NGD]
    refine wp_region_held_drew (S:=fun W'=>Chg [D] w6 W') (by kernel_rfl) (Chg.refl _ _).drew (fun hHeld=>?_)
    obtain ⟨wd,hwd⟩:∃ x,x=w6.drew:=⟨_,rfl⟩
    have CD:Hid (Chg [] w6 wd):=hd (by rw[hwd];exact (Chg.refl _ _).drew)
    rw[← hwd] at hHeld ⊢
    clear hwd
    have HD0:=hd (CD.out.blk HD.out (by simp))
    refine tq 0 ?_
    refine tq 1 ?_ (hy:=by intro w9 hSw;have e4:=cell_quiet hSw (HG6.out.cell (i:=4) rfl) NHG;have e5:=cell_quiet hSw (HG6.out.cell (i:=5) rfl) NHG;go_simp;try with_reducible rfl)
    refine tq 2 ?_
    refine tq 3 ?_ (hy:=by intro w9 hSw;have e6:=cell_quiet hSw (HG6.out.cell (i:=6) rfl) NHG;have e7:=cell_quiet hSw (HG6.out.cell (i:=7) rfl) NHG;go_simp;try with_reducible rfl)
    refine tq 4 ?_
    refine rd1 5 (fun K hK=>?_)
    have dc4:=HD0.out.cell (i:=4) rfl
    have df4:=HD0.out.free 4
    have dc5:=HD0.out.cell (i:=5) rfl
    have df5:=HD0.out.free 5
    go_simp
    obtain ⟨wd1,hw⟩:∃ W,W=((wd.setCell ⟨D,4,none⟩ (.int .i64 r1)).setCell ⟨D,5,none⟩ (.int .i64 r2)):=⟨_,rfl⟩
    rw[← hw]
    have CC:Hid (Chg [D] wd wd1):=hd (by rw[hw];exact (((Chg.refl _ _).setCell _ _ (.inl (by simp))).setCell _ _ (.inl (by simp))))
    have HD1:Hid (Blk wd1 D [.int .i64 0,.string ⟨#[]⟩,.slice none 0 0,.int .i64 0,.int .i64 r1,.int .i64 r2,.int .i64 0,.int .i64 0,.int .i64 0] 69):=hd (by rw[hw];exact ((HD0.out.set 4 (.int .i64 r1)).set 5 (.int .i64 r2)))
    clear hw dc4 df4 dc5 df5
    refine kq hK (hHeld.trans CC.out (fun k hk=>.inl hk)) (fun hHeld=>?_)
    clear CC
    refine tq 6 ?_
    refine rd1 7 (fun K hK=>?_)
    have dc6:=HD1.out.cell (i:=6) rfl
    have df6:=HD1.out.free 6
    have dc7:=HD1.out.cell (i:=7) rfl
    have df7:=HD1.out.free 7
    go_simp
    obtain ⟨wd2,hw⟩:∃ W,W=((wd1.setCell ⟨D,6,none⟩ (.int .i64 s1)).setCell ⟨D,7,none⟩ (.int .i64 s2)):=⟨_,rfl⟩
    rw[← hw]
    have CC:Hid (Chg [D] wd1 wd2):=hd (by rw[hw];exact (((Chg.refl _ _).setCell _ _ (.inl (by simp))).setCell _ _ (.inl (by simp))))
    have HD2:Hid (Blk wd2 D [.int .i64 0,.string ⟨#[]⟩,.slice none 0 0,.int .i64 0,.int .i64 r1,.int .i64 r2,.int .i64 s1,.int .i64 s2,.int .i64 0] 69):=hd (by rw[hw];exact ((HD1.out.set 6 (.int .i64 s1)).set 7 (.int .i64 s2)))
    clear hw dc6 df6 dc7 df7
    refine kq hK (hHeld.trans CC.out (fun k hk=>.inl hk)) (fun hHeld=>?_)
    clear CC
    refine dq ?_
    have HH:=hd hHeld
    clear hHeld
    have HGw7:=hd (HH.out.blk HG6.out NHG)
    have HWw7:=hd (HW6.out.keep HH.out HD.out (by decide) ND)
    have HQw7:Hid (Chg [] w0 wd2):=hd (HQ6.out.since HH.out HWD0.out)
    have HRw7:Hid (Wr b v w v wd2):=hd ⟨HR6.out.chg.trans HH.out (fun k hk=>.inr (by rw[List.mem_singleton] at hk;rw[hk];exact HWD1.out)),HR6.out.own⟩
    have HDw7:=HD2
    clear NHG
    go_upto_region 13 with (fail)
    have NHG:=hd (HWw7.out.nb HGw7.out NG (by decide))
    have NHD:=hd (HWw7.out.nb HDw7.out ND (by decide))
    have HOB:Hid (∀ k ∈ b :: v.ownBlock.toList,w0.heap.size≤k):=hd (HWw7.out.ob HB0.out)
    refine wp_region_held_drew (S:=fun W'=>Chg (b :: v.ownBlock.toList) wd2 W') (by kernel_rfl) (Chg.refl _ _).drew (fun hHeld=>?_)
    obtain ⟨wde,hwd⟩:∃ x,x=wd2.drew:=⟨_,rfl⟩
    have CD:Hid (Chg [] wd2 wde):=hd (by rw[hwd];exact (Chg.refl _ _).drew)
    rw[← hwd] at hHeld ⊢
    clear hwd
    have HWwde:=hd (HWw7.out.quiet CD.out)
    have HQB:=HQw7
    refine tq 0 ?_
    refine tq 1 ?_
    refine tq 2 ?_
    refine tq 3 ?_ (hy:=by intro w9 hSw;have e4:=cell_quiet hSw (HGw7.out.cell (i:=4) rfl) NHG.out;have e5:=cell_quiet hSw (HGw7.out.cell (i:=5) rfl) NHG.out;go_simp;try with_reducible rfl)
    refine tq 7 ?_
    refine tq 8 ?_
    refine tq 9 ?_ (hy:=by intro w9 hSw;have e6:=cell_quiet hSw (HGw7.out.cell (i:=6) rfl) NHG.out;have e7:=cell_quiet hSw (HGw7.out.cell (i:=7) rfl) NHG.out;go_simp;try with_reducible rfl)
    refine rd1 4 (fun K hK=>?_)
    go_simp
    refine ratio_r HL HB0 (hd ((HQB.out.trans hHeld (fun k hk=>.inr (HOB.out k hk))))) HWwde (r1,r2) HIR (fun we1 h3 h4=>?_)
    have HWwe1:=hd h3
    refine kq hK (hHeld.trans h4.chg (fun k hk=>.inl hk)) (fun hHeld=>?_)
    clear h3 h4
    have gpa:(Pr.ratioS (r1,r2)).length≤50:=Pr.ratioS_len HIR.out
    obtain ⟨pa,h9⟩:∃ z,z=Pr.ratioS (r1,r2):=⟨_,rfl⟩
    rw[← h9] at gpa
    rw[← h9]
    have Hpa:=hd h9
    clear h9
    have hz:¬ 9223372036854775807 < 4+pa.length:=by omega
    refine tq 5 ?_
    rw[show (⟨List.toArray ([32,99,97,112]:Bytes)⟩:ByteArray)++⟨List.toArray pa⟩=⟨(([32,99,97,112]:Bytes)++pa).toArray⟩ from str2 _ _]
    obtain ⟨a1,h9⟩:∃ z,z=([32,99,97,112]:Bytes)++pa:=⟨_,rfl⟩
    rw[← h9]
    have ga1:a1.length≤60:=by rw[h9,List.length_append];show 4+pa.length≤_;omega
    have Ha1:=hd h9
    clear h9 hz
    have hz:¬ 9223372036854775807 < a1.length+6:=by omega
    refine tq 6 ?_
    rw[show (⟨List.toArray a1⟩:ByteArray)++⟨List.toArray ([32,115,104,97,114,101]:Bytes)⟩=⟨(a1++([32,115,104,97,114,101]:Bytes)).toArray⟩ from str2 _ _]
    obtain ⟨a2,h9⟩:∃ z,z=a1++([32,115,104,97,114,101]:Bytes):=⟨_,rfl⟩
    rw[← h9]
    have ga2:a2.length≤70:=by rw[h9,List.length_append];show a1.length+6≤_;omega
    have Ha2:=hd h9
    clear h9 hz
    refine rd1 10 (fun K hK=>?_)
    go_simp
    refine ratio_r HL HB0 (hd ((HQB.out.trans hHeld (fun k hk=>.inr (HOB.out k hk))))) HWwe1 (s1,s2) HIS (fun we2 h3 h4=>?_)
    have HWwe2:=hd h3
    refine kq hK (hHeld.trans h4.chg (fun k hk=>.inl hk)) (fun hHeld=>?_)
    clear h3 h4
    have gpb:(Pr.ratioS (s1,s2)).length≤50:=Pr.ratioS_len HIS.out
    obtain ⟨pb,h9⟩:∃ z,z=Pr.ratioS (s1,s2):=⟨_,rfl⟩
    rw[← h9] at gpb
    rw[← h9]
    have Hpb:=hd h9
    clear h9
    have hz:¬ 9223372036854775807 < a2.length+pb.length:=by omega
    refine tq 11 ?_
    rw[show (⟨List.toArray a2⟩:ByteArray)++⟨List.toArray pb⟩=⟨(a2++pb).toArray⟩ from str2 _ _]
    obtain ⟨a3,h9⟩:∃ z,z=a2++pb:=⟨_,rfl⟩
    rw[← h9]
    have ga3:a3.length≤130:=by rw[h9,List.length_append];show a2.length+pb.length≤_;omega
    have Ha3:=hd h9
    clear h9 hz
    have hz:¬ 9223372036854775807 < sa.length+a3.length:=by omega
    refine tq 12 ?_
    rw[show (⟨List.toArray sa⟩:ByteArray)++⟨List.toArray a3⟩=⟨(sa++a3).toArray⟩ from str2 _ _]
    obtain ⟨a4,h9⟩:∃ z,z=sa++a3:=⟨_,rfl⟩
    rw[← h9]
    have ga4:a4.length≤1200:=by rw[h9,List.length_append];show sa.length+a3.length≤_;omega
    have Ha4:=hd h9
    clear h9 hz
    refine tq 13 ?_
    refine dq ?_
    have HH:=hd hHeld
    clear hHeld
    have HGwe2:=hd (HH.out.blk HGw7.out NHG.out)
    have HDwe2:=hd (HH.out.blk HDw7.out NHD.out)
    have HQwe2:Hid (Chg [] w0 we2):=hd (HQw7.out.trans HH.out (fun k hk=>.inr (HOB.out k hk)))
    have HRwe2:Hid (Wr b v w v we2):=hd (HRw7.out.trans ⟨HH.out,fun k hk=>.inl hk⟩)
    go_upto_region 17 with (fail)
    obtain ⟨q,hq⟩:∃ q,q=((bad1 || !Pr.ratioOk (r1,r2)) || !Pr.ratioOk (s1,s2)):=⟨_,rfl⟩
    have HWq:=HWwe2
    rw[← hq] at HWq
    have HQQ:=hd hq
    clear hq
    have k3:=HWq.out.c3.1
    have f3:=HWq.out.c3.2
    have g3:=HGwe2.out.cell (i:=3) rfl
    have g4:=HGwe2.out.cell (i:=4) rfl
    have g5:=HGwe2.out.cell (i:=5) rfl
    have g6:=HGwe2.out.cell (i:=6) rfl
    have g7:=HGwe2.out.cell (i:=7) rfl
    have d3:=HDwe2.out.cell (i:=3) rfl
    have d4:=HDwe2.out.cell (i:=4) rfl
    have d5:=HDwe2.out.cell (i:=5) rfl
    have d6:=HDwe2.out.cell (i:=6) rfl
    have d7:=HDwe2.out.cell (i:=7) rfl
    have HOK:Hid (Pr.wordsOk ⟨4,nm,whn,n,(r1,r2),(s1,s2),pos⟩=(Pr.nameOk nm && (decide (n=0) && (Pr.ratioOk (r1,r2) && Pr.ratioOk (s1,s2))))):=hd (by simp[Pr.wordsOk,Prod.mk.injEq,and_assoc])
    have HEQ:Hid ((bad || !Pr.wordsOk ⟨4,nm,whn,n,(r1,r2),(s1,s2),pos⟩)=(q || !decide (n=0))):=hd (by rw[HOK.out,HQQ.out,HB1.out];cases bad <;> cases Pr.nameOk nm <;> cases Pr.ratioOk (r1,r2) <;> cases Pr.ratioOk (s1,s2) <;> simp)
    have FIN:Hid (∀ r:Bool,r=(q || !decide (n=0))→R (.returned (.string ⟨a4.toArray⟩)) (we2.setCell ⟨b,3,none⟩ (.bool r))):=hd (fun r hr=>by
     have h8:=HRR.out (we2.setCell ⟨b,3,none⟩ (.bool r)) (by rw[HEQ.out,← hr];exact HWq.out.set3 r (fun e=>by rw[hr] at e;exact (Bool.or_eq_false_iff.1 e).1)) (HRwe2.out.trans (Wr.cell ((Chg.refl _ _).setCell _ _ (.inl (by simp)))))
     rw[show Pr.wordsS ⟨4,nm,whn,n,(r1,r2),(s1,s2),pos⟩=a4 from by rw[Ha4.out,Ha3.out,Ha2.out,Ha1.out,Hpa.out,Hpb.out,HSA.out];simp[Pr.wordsS,Pr.tCap,Pr.tShare]] at h8
     exact h8)
    clear HEQ HOK HWq
    cases q
    · skip
      by_cases hn:n=0
      · subst hn
        go_wp2_with fail
        exact FIN.out false (by simp)
      have hn':¬ 0=n:=fun e=>hn e.symm
      have hn1:((0:Int) == n)=false:=by rw[beq_eq_false_iff_ne];exact hn'
      have hn2:(n == (0:Int))=false:=by rw[beq_eq_false_iff_ne];exact hn
      go_wp2_with fail
      exact FIN.out true (by simp[hn])
    go_wp2_with fail
    exact FIN.out true (by simp)
  · skip
    have dd4:=HD.out.cell (i:=4) rfl
    have df4:=HD.out.free 4
    have dd5:=HD.out.cell (i:=5) rfl
    have df5:=HD.out.free 5
    have g4:=HG6.out.cell (i:=4) rfl
    have g5:=HG6.out.cell (i:=5) rfl
    go_upto_region 16 with (fail)
    clear g0 dd4 df4 dd5 df5 g4 g5
    obtain ⟨w7,hw⟩:∃ W,W=((w6.setCell ⟨D,4,none⟩ (.int .i64 r1)).setCell ⟨D,5,none⟩ (.int .i64 r2)):=⟨_,rfl⟩
    rw[← hw]
    have Cw7:Hid (Chg [D] w6 w7):=hd (by rw[hw];exact (((Chg.refl _ _).setCell _ _ (.inl (by simp))).setCell _ _ (.inl (by simp))))
    have HDw7:Hid (Blk w7 D [.int .i64 0,.string ⟨#[]⟩,.slice none 0 0,.int .i64 0,.int .i64 r1,.int .i64 r2,.int .i64 0,.int .i64 0,.int .i64 0] 69):=hd (by rw[hw];exact ((HD.out.set 4 (.int .i64 r1)).set 5 (.int .i64 r2)))
    have HGw7:=hd (Cw7.out.blk HG6.out (by simp[NGD]))
    have HWw7:=hd (HW6.out.keep Cw7.out HD.out (by decide) ND)
    have HQw7:Hid (Chg [] w0 w7):=hd (HQ6.out.since Cw7.out HWD0.out)
    have HRw7:Hid (Wr b v w v w7):=hd ⟨HR6.out.chg.trans Cw7.out (fun k hk=>.inr (by rw[List.mem_singleton] at hk;rw[hk];exact HWD1.out)),HR6.out.own⟩
    clear hw
    have g4:=HGw7.out.cell (i:=4) rfl
    have g5:=HGw7.out.cell (i:=5) rfl
    have NHG:=hd (HWw7.out.nb HGw7.out NG (by decide))
    have NHD:=hd (HWw7.out.nb HDw7.out ND (by decide))
    have HOB:Hid (∀ k ∈ b :: v.ownBlock.toList,w0.heap.size≤k):=hd (HWw7.out.ob HB0.out)
    go_wp2_with fail
    clear g4 g5
    refine ratio_r HL HB0 HQw7 HWw7 (r1,r2) HIR (fun w8 h3 h4=>?_)
    have HWw8:=hd h3
    have HH:Hid (Chg (b :: v.ownBlock.toList) w7 w8):=hd h4.chg
    clear h3 h4
    have gpa:(Pr.ratioS (r1,r2)).length≤50:=Pr.ratioS_len HIR.out
    obtain ⟨pa,h9⟩:∃ z,z=Pr.ratioS (r1,r2):=⟨_,rfl⟩
    rw[← h9] at gpa
    rw[← h9]
    have Hpa:=hd h9
    clear h9
    have hz:¬ 9223372036854775807 < sa.length+pa.length:=by omega
    have HGw8:=hd (HH.out.blk HGw7.out NHG.out)
    have HDw8:=hd (HH.out.blk HDw7.out NHD.out)
    have HQw8:Hid (Chg [] w0 w8):=hd (HQw7.out.trans HH.out (fun k hk=>.inr (HOB.out k hk)))
    have HRw8:Hid (Wr b v w v w8):=hd (HRw7.out.trans ⟨HH.out,fun k hk=>.inl hk⟩)
    go_upto_region 17 with (fail)
    rw[str2]
    obtain ⟨a4,h9⟩:∃ z,z=sa++pa:=⟨_,rfl⟩
    rw[← h9]
    have Ha4:=hd h9
    clear h9
    obtain ⟨q,hq⟩:∃ q,q=(bad1 || !Pr.ratioOk (r1,r2)):=⟨_,rfl⟩
    have HWq:=HWw8
    rw[← hq] at HWq
    have HQQ:=hd hq
    clear hq
    have k3:=HWq.out.c3.1
    have f3:=HWq.out.c3.2
    have g3:=HGw8.out.cell (i:=3) rfl
    have g4:=HGw8.out.cell (i:=4) rfl
    have g5:=HGw8.out.cell (i:=5) rfl
    have g6:=HGw8.out.cell (i:=6) rfl
    have g7:=HGw8.out.cell (i:=7) rfl
    have d3:=HDw8.out.cell (i:=3) rfl
    have d4:=HDw8.out.cell (i:=4) rfl
    have d5:=HDw8.out.cell (i:=5) rfl
    have d6:=HDw8.out.cell (i:=6) rfl
    have d7:=HDw8.out.cell (i:=7) rfl
    have HOK:Hid (Pr.wordsOk ⟨5,nm,whn,n,(r1,r2),(s1,s2),pos⟩=(Pr.nameOk nm && (decide (n=0) && (Pr.ratioOk (r1,r2) && decide (s1=0∧s2=0))))):=hd (by simp[Pr.wordsOk,Prod.mk.injEq,and_assoc])
    have HEQ:Hid ((bad || !Pr.wordsOk ⟨5,nm,whn,n,(r1,r2),(s1,s2),pos⟩)=(q || !decide (n=0∧s1=0∧s2=0))):=hd (by rw[HOK.out,HQQ.out,HB1.out];cases bad <;> cases Pr.nameOk nm <;> cases Pr.ratioOk (r1,r2) <;> simp)
    have FIN:Hid (∀ r:Bool,r=(q || !decide (n=0∧s1=0∧s2=0))→R (.returned (.string ⟨a4.toArray⟩)) (w8.setCell ⟨b,3,none⟩ (.bool r))):=hd (fun r hr=>by
     have h8:=HRR.out (w8.setCell ⟨b,3,none⟩ (.bool r)) (by rw[HEQ.out,← hr];exact HWq.out.set3 r (fun e=>by rw[hr] at e;exact (Bool.or_eq_false_iff.1 e).1)) (HRw8.out.trans (Wr.cell ((Chg.refl _ _).setCell _ _ (.inl (by simp)))))
     rw[show Pr.wordsS ⟨5,nm,whn,n,(r1,r2),(s1,s2),pos⟩=a4 from by rw[Ha4.out,Hpa.out,HSA.out];simp[Pr.wordsS]] at h8
     exact h8)
    clear HEQ HOK HWq
    cases q
    · skip
      by_cases hn:n=0
      · subst hn
        exact mPrWw1
      have hn':¬ 0=n:=fun e=>hn e.symm
      have hn1:((0:Int) == n)=false:=by rw[beq_eq_false_iff_ne];exact hn'
      have hn2:(n == (0:Int))=false:=by rw[beq_eq_false_iff_ne];exact hn
      go_wp2_with fail
      exact FIN.out true (by simp[hn])
    go_wp2_with fail
    exact FIN.out true (by simp)
  have hx1:¬ kd=1:=by omega
  have hx3:¬ kd=3:=by omega
  have hx4:¬ kd=4:=by omega
  have hx5:¬ kd=5:=by omega
  have hy1:(kd == 1)=false:=by rw[beq_eq_false_iff_ne];exact hx1
  have hy3:(kd == 3)=false:=by rw[beq_eq_false_iff_ne];exact hx3
  have hy4:(kd == 4)=false:=by rw[beq_eq_false_iff_ne];exact hx4
  have hy5:(kd == 5)=false:=by rw[beq_eq_false_iff_ne];exact hx5
  go_upto_region 17 with (fail)
  clear g0
  obtain ⟨q,hq⟩:∃ q,q=bad1:=⟨_,rfl⟩
  have HWq:=HW6
  rw[← hq] at HWq
  have HQQ:=hd hq
  clear hq
  have k3:=HWq.out.c3.1
  have f3:=HWq.out.c3.2
  have g3:=HG6.out.cell (i:=3) rfl
  have g4:=HG6.out.cell (i:=4) rfl
  have g5:=HG6.out.cell (i:=5) rfl
  have g6:=HG6.out.cell (i:=6) rfl
  have g7:=HG6.out.cell (i:=7) rfl
  have d3:=HD.out.cell (i:=3) rfl
  have d4:=HD.out.cell (i:=4) rfl
  have d5:=HD.out.cell (i:=5) rfl
  have d6:=HD.out.cell (i:=6) rfl
  have d7:=HD.out.cell (i:=7) rfl
  have HOK:Hid (Pr.wordsOk ⟨kd,nm,whn,n,(r1,r2),(s1,s2),pos⟩=(Pr.nameOk nm && (decide (n=0) && decide (r1=0∧r2=0∧s1=0∧s2=0)))):=hd (by rcases h267 with rfl|rfl|rfl <;> simp[Pr.wordsOk,Prod.mk.injEq,and_assoc])
  have HEQ:Hid ((bad || !Pr.wordsOk ⟨kd,nm,whn,n,(r1,r2),(s1,s2),pos⟩)=(q || !decide (n=0∧r1=0∧r2=0∧s1=0∧s2=0))):=hd (by rw[HOK.out,HQQ.out,HB1.out];cases bad <;> cases Pr.nameOk nm <;> simp)
  have FIN:Hid (∀ r:Bool,r=(q || !decide (n=0∧r1=0∧r2=0∧s1=0∧s2=0))→R (.returned (.string ⟨sa.toArray⟩)) (w6.setCell ⟨b,3,none⟩ (.bool r))):=hd (fun r hr=>by
   have h8:=HRR.out (w6.setCell ⟨b,3,none⟩ (.bool r)) (by rw[HEQ.out,← hr];exact HWq.out.set3 r (fun e=>by rw[hr] at e;exact (Bool.or_eq_false_iff.1 e).1)) (HR6.out.trans (Wr.cell ((Chg.refl _ _).setCell _ _ (.inl (by simp)))))
   rw[show Pr.wordsS ⟨kd,nm,whn,n,(r1,r2),(s1,s2),pos⟩=sa from by rw[HSA.out];rcases h267 with rfl|rfl|rfl <;> simp[Pr.wordsS]] at h8
   exact h8)
  clear HEQ HOK HWq
  cases q
  · skip
    by_cases hn:n=0
    · subst hn
      exact mPrWw0
    have hn':¬ 0=n:=fun e=>hn e.symm
    have hn1:((0:Int) == n)=false:=by rw[beq_eq_false_iff_ne];exact hn'
    have hn2:(n == (0:Int))=false:=by rw[beq_eq_false_iff_ne];exact hn
    go_wp2_with fail
    exact FIN.out true (by simp[hn])
  go_wp2_with fail
  exact FIN.out true (by simp)
end Go.Proofs.YtglepipfdmphhaaGreatDoor
