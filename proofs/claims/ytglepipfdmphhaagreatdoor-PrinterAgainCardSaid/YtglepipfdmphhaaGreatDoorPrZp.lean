/-
  PrZ, PrZp in one text.
-/
import Derived.Test.YtglepipfdmphhaaGreatDoorPrTk
import Derived.Test.YtglepipfdmphhaaGreatDoorPrP
set_option maxRecDepth 100000
set_option maxHeartbeats 40000000
namespace Go.Proofs.YtglepipfdmphhaaGreatDoor
set_option linter.unusedVariables false
set_option linter.unusedSimpArgs false
open Go Go.RowKit Go.Shelf
attribute [local irreducible] Go.wpStill
theorem Wst.ne9 {T:TypeId} {b deep:Nat} {bad:Bool} {out:Bytes} {v:Value} {w:World} (h:Wst T b deep bad out v w) {X:Nat} {cs:List Value} {e:TypeId} (hb:Blk w X cs e) (he:e≠5):v.ownBlock≠some X:=by
 obtain ⟨o,h1,_⟩:=h
 exact h1.ne hb he
theorem trim1 (n:Int):Lib.trimPrefix (Pr.nums [n]) [32]=Lib.itoa n:=by
 have e:Pr.nums [n]=32 :: Lib.itoa n:=by simp[Pr.nums]
 rw[e]
 simp[Lib.trimPrefix,Lib.hasPrefix]
theorem ratio_r {T:TypeId} {w0:World} (HL:Hid (Laid w0)) {b deep:Nat} (HB0:Hid (w0.heap.size≤b)) {w:World} (HQ:Hid (Chg [] w0 w)) {bad:Bool} {out:Bytes} {v:Value} (HW:Hid (Wst T b deep bad out v w)) (x:Int × Int) (HI:Hid (Pr.I64 x.1∧Pr.I64 x.2)) {R:Ending→World→Prop}
 (h:∀ w',Wst T b deep (bad || !Pr.ratioOk x) out v w'→Wr b v w v w'→R (.returned (.string ⟨(Pr.ratioS x).toArray⟩)) w') :
 Calls Tryz.prog 60 #[.pointer (some ⟨b,0,none⟩),.agg #[.int .i64 x.1,.int .i64 x.2]] w R:=by
 have HRR:=hd h
 clear h
 go_enter Tryz.func60,Tryz.ntmps60
 go_upto_region 1 with (fail)
 obtain ⟨w4,hw4⟩:∃ W,W=w.alloc (.cells #[.int .i64 x.1,.int .i64 x.2] 67):=⟨_,rfl⟩
 rw[← hw4]
 obtain ⟨G,hG⟩:∃ X,X=w.heap.size:=⟨_,rfl⟩
 rw[← hG]
 have HG:=newB hw4 hG
 have C4:=newC hw4
 have NG:G≠b:=by have:=HW.out.lt;omega
 obtain ⟨vj,hvj⟩:∃ z,z=v:=⟨_,rfl⟩
 have HWJ4:=hd (HW.out.quiet C4.out)
 rw[← hvj] at HWJ4
 have HVJ:=hd hvj
 have HQB:Hid (Chg [] w0 w4):=hd (HQ.out.trans C4.out (by simp))
 have HOB:Hid (∀ k ∈ b :: vj.ownBlock.toList,w0.heap.size≤k):=hd (by intro k hk;have h1:=HB0.out;rcases List.mem_cons.1 hk with rfl|hk;exact h1;rw[Option.mem_toList] at hk;have:=own_ge HWJ4.out k hk;omega)
 have NGO:G ∉ b :: vj.ownBlock.toList:=by simp only[List.mem_cons,Option.mem_toList,not_or];exact ⟨NG,HWJ4.out.ne9 HG.out (by decide)⟩
 have NGH:=hd NGO
 clear hw4 hG NGO hvj
 refine wp_region_held_drew (S:=fun W'=>Chg (b :: vj.ownBlock.toList) w4 W') (by kernel_rfl) (Chg.refl _ _).drew (fun hHeld=>?_)
 obtain ⟨wd,hwd⟩:∃ x,x=w4.drew:=⟨_,rfl⟩
 have CD:Hid (Chg [] w4 wd):=hd (by rw[hwd];exact (Chg.refl _ _).drew)
 rw[← hwd] at hHeld ⊢
 clear hwd
 have HWd:=hd (HWJ4.out.quiet CD.out)
 refine tq 0 ?_
 refine tq 1 ?_
 refine tq 2 ?_
 refine tq 3 ?_
 refine tq1 4 (fun w9 hSw=>cell_quiet hSw (HG.out.cell (i:=0) rfl) NGH.out) ?_
 refine tq 8 ?_
 refine tq 9 ?_
 refine tq 10 ?_
 refine tq 11 ?_
 refine tq1 12 (fun w9 hSw=>cell_quiet hSw (HG.out.cell (i:=1) rfl) NGH.out) ?_
 refine rd2 5 13 (fun K hK=>?_) (fun K hK=>?_)
 · skip
   go_simp
   obtain ⟨wra1,hw⟩:∃ W,W=wd.alloc (.cells #[.int .i64 x.1] 3):=⟨_,rfl⟩
   rw[← hw]
   obtain ⟨X1,hX⟩:∃ X,X=wd.heap.size:=⟨_,rfl⟩
   rw[← hX]
   have HX1:Hid (Blk wra1 X1 [.int .i64 x.1] 3∧X1≠b):=hd ⟨by rw[hw,hX];exact Blk.new wd [.int .i64 x.1] _,by have:=HWd.out.lt;omega⟩
   have Cw:=newC hw
   have HWwra1:=hd (HWd.out.quiet Cw.out)
   refine kq hK (hHeld.trans Cw.out (by simp)) (fun hHeld=>?_)
   clear hw hX
   clear Cw
   refine rd2 6 13 (fun K hK=>?_) (fun K hK=>?_)
   · skip
     go_simp
     refine numbers_r HL HB0 (hd ((HQB.out.trans hHeld (fun k hk=>.inr (HOB.out k hk))))) HWwra1 [x.1] 1 ⟨rfl,by decide⟩ (by intro q hq;rw[List.mem_singleton] at hq;rw[hq];exact HI.out.1) HX1.out.1 HX1.out.2 (fun wraa2 h3 h4=>?_)
     have HWwraa2:=hd h3
     refine kq hK (hHeld.trans h4 (fun k hk=>.inl (by rw[List.mem_singleton] at hk;simp[hk]))) (fun hHeld=>?_)
     clear h3 h4
     have gna:(Pr.nums [x.1]).length≤22:=Pr.nums_len [x.1] (by intro q hq;rw[List.mem_singleton] at hq;rw[hq];exact HI.out.1)
     obtain ⟨na,h9⟩:∃ z,z=Pr.nums [x.1]:=⟨_,rfl⟩
     rw[← h9] at gna
     rw[← h9]
     have Hna:=hd h9
     clear h9
     have hz:¬ 9223372036854775807 < na.length+1:=by omega
     refine tq 7 ?_
     rw[show (⟨List.toArray na⟩:ByteArray)++⟨List.toArray ([47]:Bytes)⟩=⟨(na++([47]:Bytes)).toArray⟩ from str2 _ _]
     obtain ⟨a1,h9⟩:∃ z,z=na++([47]:Bytes):=⟨_,rfl⟩
     rw[← h9]
     have ga1:a1.length≤30:=by rw[h9,List.length_append];show na.length+1≤_;omega
     have Ha1:=hd h9
     clear h9 hz
     refine rd1 13 (fun K hK=>?_)
     go_simp
     obtain ⟨wraa3,hw⟩:∃ W,W=wraa2.alloc (.cells #[.int .i64 x.2] 3):=⟨_,rfl⟩
     rw[← hw]
     obtain ⟨X2,hX⟩:∃ X,X=wraa2.heap.size:=⟨_,rfl⟩
     rw[← hX]
     have HX2:Hid (Blk wraa3 X2 [.int .i64 x.2] 3∧X2≠b):=hd ⟨by rw[hw,hX];exact Blk.new wraa2 [.int .i64 x.2] _,by have:=HWwraa2.out.lt;omega⟩
     have Cw:=newC hw
     have HWwraa3:=hd (HWwraa2.out.quiet Cw.out)
     refine kq hK (hHeld.trans Cw.out (by simp)) (fun hHeld=>?_)
     clear hw hX
     clear Cw
     refine rd1 14 (fun K hK=>?_)
     go_simp
     refine numbers_r HL HB0 (hd ((HQB.out.trans hHeld (fun k hk=>.inr (HOB.out k hk))))) HWwraa3 [x.2] 1 ⟨rfl,by decide⟩ (by intro q hq;rw[List.mem_singleton] at hq;rw[hq];exact HI.out.2) HX2.out.1 HX2.out.2 (fun wraa4 h3 h4=>?_)
     have HWwraa4:=hd h3
     refine kq hK (hHeld.trans h4 (fun k hk=>.inl (by rw[List.mem_singleton] at hk;simp[hk]))) (fun hHeld=>?_)
     clear h3 h4
     have gnb:(Pr.nums [x.2]).length≤22:=Pr.nums_len [x.2] (by intro q hq;rw[List.mem_singleton] at hq;rw[hq];exact HI.out.2)
     obtain ⟨nb,h9⟩:∃ z,z=Pr.nums [x.2]:=⟨_,rfl⟩
     rw[← h9] at gnb
     rw[← h9]
     have Hnb:=hd h9
     clear h9
     refine rd1 15 (fun K hK=>?_)
     go_simp
     refine (Tryz.strings_TrimPrefix ⟨nb.toArray⟩ ⟨#[32]⟩ wraa4).mono ?_
     rintro e wraa5 ⟨rfl,hwe⟩
     have hwe:=hwe.symm
     subst hwe
     rw[show Lib.trimPrefix (⟨nb.toArray⟩:ByteArray).data.toList (⟨#[32]⟩:ByteArray).data.toList=Lib.itoa x.2 from by show Lib.trimPrefix nb [32]=_;rw[Hnb.out];exact trim1 x.2]
     refine kq hK hHeld (fun hHeld=>?_)
     have git:(Lib.itoa x.2).length≤21:=Pr.itoa_len x.2 HI.out.2
     obtain ⟨it,h9⟩:∃ z,z=Lib.itoa x.2:=⟨_,rfl⟩
     rw[← h9] at git
     rw[← h9]
     have Hit:=hd h9
     clear h9
     have hz:¬ 9223372036854775807 < a1.length+it.length:=by omega
     refine tq 16 ?_
     rw[show (⟨List.toArray a1⟩:ByteArray)++⟨List.toArray it⟩=⟨(a1++it).toArray⟩ from str2 _ _]
     obtain ⟨a2,h9⟩:∃ z,z=a1++it:=⟨_,rfl⟩
     rw[← h9]
     have ga2:a2.length≤60:=by rw[h9,List.length_append];show a1.length+it.length≤_;omega
     have Ha2:=hd h9
     clear h9 hz
     refine tq 17 ?_
     refine dq ?_
     have HH:=hd hHeld
     clear hHeld
     have HF:Hid (Wst T b deep (bad || !Pr.ratioOk x) out v wraa4):=hd (by have h9:=HWwraa4.out;rw[HVJ.out,Bool.or_assoc,← Bool.not_and] at h9;rw[show Pr.ratioOk x=(Pr.numsOk [x.1] && Pr.numsOk [x.2]) by simp[Pr.ratioOk,Pr.numsOk]];exact h9)
     have HR5:Hid (Wr b v w v wraa4):=hd (by have h9:=HH.out;rw[HVJ.out] at h9;exact ⟨(C4.out.mono (by simp)).trans h9 (fun k hk=>.inl hk),fun k hk=>.inl hk⟩)
     have HS:Hid (a2=Pr.ratioS x):=hd (by rw[Ha2.out,Ha1.out,Hna.out,Hit.out];rfl)
     go_wp2_with fail
     rw[HS.out]
     exact HRR.out wraa4 HF.out HR5.out
   go_simp
   obtain ⟨wrab2,hw⟩:∃ W,W=wra1.alloc (.cells #[.int .i64 x.2] 3):=⟨_,rfl⟩
   rw[← hw]
   obtain ⟨X2,hX⟩:∃ X,X=wra1.heap.size:=⟨_,rfl⟩
   rw[← hX]
   have HX2:Hid (Blk wrab2 X2 [.int .i64 x.2] 3∧X2≠b):=hd ⟨by rw[hw,hX];exact Blk.new wra1 [.int .i64 x.2] _,by have:=HWwra1.out.lt;omega⟩
   have Cw:=newC hw
   have HWwrab2:=hd (HWwra1.out.quiet Cw.out)
   refine kq hK (hHeld.trans Cw.out (by simp)) (fun hHeld=>?_)
   clear hw hX
   have HX1:=hd (And.intro (Cw.out.blk HX1.out.1 (by simp)) HX1.out.2)
   clear Cw
   refine rd1 6 (fun K hK=>?_)
   go_simp
   refine numbers_r HL HB0 (hd ((HQB.out.trans hHeld (fun k hk=>.inr (HOB.out k hk))))) HWwrab2 [x.1] 1 ⟨rfl,by decide⟩ (by intro q hq;rw[List.mem_singleton] at hq;rw[hq];exact HI.out.1) HX1.out.1 HX1.out.2 (fun wrab3 h3 h4=>?_)
   have HX2:=hd (And.intro (h4.blk HX2.out.1 (by simp[HX2.out.2])) HX2.out.2)
   have HWwrab3:=hd h3
   refine kq hK (hHeld.trans h4 (fun k hk=>.inl (by rw[List.mem_singleton] at hk;simp[hk]))) (fun hHeld=>?_)
   clear h3 h4
   have gna:(Pr.nums [x.1]).length≤22:=Pr.nums_len [x.1] (by intro q hq;rw[List.mem_singleton] at hq;rw[hq];exact HI.out.1)
   obtain ⟨na,h9⟩:∃ z,z=Pr.nums [x.1]:=⟨_,rfl⟩
   rw[← h9] at gna
   rw[← h9]
   have Hna:=hd h9
   clear h9
   have hz:¬ 9223372036854775807 < na.length+1:=by omega
   refine tq 7 ?_
   rw[show (⟨List.toArray na⟩:ByteArray)++⟨List.toArray ([47]:Bytes)⟩=⟨(na++([47]:Bytes)).toArray⟩ from str2 _ _]
   obtain ⟨a1,h9⟩:∃ z,z=na++([47]:Bytes):=⟨_,rfl⟩
   rw[← h9]
   have ga1:a1.length≤30:=by rw[h9,List.length_append];show na.length+1≤_;omega
   have Ha1:=hd h9
   clear h9 hz
   refine rd1 14 (fun K hK=>?_)
   go_simp
   refine numbers_r HL HB0 (hd ((HQB.out.trans hHeld (fun k hk=>.inr (HOB.out k hk))))) HWwrab3 [x.2] 1 ⟨rfl,by decide⟩ (by intro q hq;rw[List.mem_singleton] at hq;rw[hq];exact HI.out.2) HX2.out.1 HX2.out.2 (fun wrab4 h3 h4=>?_)
   have HWwrab4:=hd h3
   refine kq hK (hHeld.trans h4 (fun k hk=>.inl (by rw[List.mem_singleton] at hk;simp[hk]))) (fun hHeld=>?_)
   clear h3 h4
   have gnb:(Pr.nums [x.2]).length≤22:=Pr.nums_len [x.2] (by intro q hq;rw[List.mem_singleton] at hq;rw[hq];exact HI.out.2)
   obtain ⟨nb,h9⟩:∃ z,z=Pr.nums [x.2]:=⟨_,rfl⟩
   rw[← h9] at gnb
   rw[← h9]
   have Hnb:=hd h9
   clear h9
   refine rd1 15 (fun K hK=>?_)
   go_simp
   refine (Tryz.strings_TrimPrefix ⟨nb.toArray⟩ ⟨#[32]⟩ wrab4).mono ?_
   rintro e wrab5 ⟨rfl,hwe⟩
   have hwe:=hwe.symm
   subst hwe
   rw[show Lib.trimPrefix (⟨nb.toArray⟩:ByteArray).data.toList (⟨#[32]⟩:ByteArray).data.toList=Lib.itoa x.2 from by show Lib.trimPrefix nb [32]=_;rw[Hnb.out];exact trim1 x.2]
   refine kq hK hHeld (fun hHeld=>?_)
   have git:(Lib.itoa x.2).length≤21:=Pr.itoa_len x.2 HI.out.2
   obtain ⟨it,h9⟩:∃ z,z=Lib.itoa x.2:=⟨_,rfl⟩
   rw[← h9] at git
   rw[← h9]
   have Hit:=hd h9
   clear h9
   have hz:¬ 9223372036854775807 < a1.length+it.length:=by omega
   refine tq 16 ?_
   rw[show (⟨List.toArray a1⟩:ByteArray)++⟨List.toArray it⟩=⟨(a1++it).toArray⟩ from str2 _ _]
   obtain ⟨a2,h9⟩:∃ z,z=a1++it:=⟨_,rfl⟩
   rw[← h9]
   have ga2:a2.length≤60:=by rw[h9,List.length_append];show a1.length+it.length≤_;omega
   have Ha2:=hd h9
   clear h9 hz
   refine tq 17 ?_
   refine dq ?_
   have HH:=hd hHeld
   clear hHeld
   have HF:Hid (Wst T b deep (bad || !Pr.ratioOk x) out v wrab4):=hd (by have h9:=HWwrab4.out;rw[HVJ.out,Bool.or_assoc,← Bool.not_and] at h9;rw[show Pr.ratioOk x=(Pr.numsOk [x.1] && Pr.numsOk [x.2]) by simp[Pr.ratioOk,Pr.numsOk]];exact h9)
   have HR5:Hid (Wr b v w v wrab4):=hd (by have h9:=HH.out;rw[HVJ.out] at h9;exact ⟨(C4.out.mono (by simp)).trans h9 (fun k hk=>.inl hk),fun k hk=>.inl hk⟩)
   have HS:Hid (a2=Pr.ratioS x):=hd (by rw[Ha2.out,Ha1.out,Hna.out,Hit.out];rfl)
   go_wp2_with fail
   rw[HS.out]
   exact HRR.out wrab4 HF.out HR5.out
 go_simp
 obtain ⟨wrb1,hw⟩:∃ W,W=wd.alloc (.cells #[.int .i64 x.2] 3):=⟨_,rfl⟩
 rw[← hw]
 obtain ⟨X2,hX⟩:∃ X,X=wd.heap.size:=⟨_,rfl⟩
 rw[← hX]
 have HX2:Hid (Blk wrb1 X2 [.int .i64 x.2] 3∧X2≠b):=hd ⟨by rw[hw,hX];exact Blk.new wd [.int .i64 x.2] _,by have:=HWd.out.lt;omega⟩
 have Cw:=newC hw
 have HWwrb1:=hd (HWd.out.quiet Cw.out)
 refine kq hK (hHeld.trans Cw.out (by simp)) (fun hHeld=>?_)
 clear hw hX
 clear Cw
 refine rd1 5 (fun K hK=>?_)
 go_simp
 obtain ⟨wrb2,hw⟩:∃ W,W=wrb1.alloc (.cells #[.int .i64 x.1] 3):=⟨_,rfl⟩
 rw[← hw]
 obtain ⟨X1,hX⟩:∃ X,X=wrb1.heap.size:=⟨_,rfl⟩
 rw[← hX]
 have HX1:Hid (Blk wrb2 X1 [.int .i64 x.1] 3∧X1≠b):=hd ⟨by rw[hw,hX];exact Blk.new wrb1 [.int .i64 x.1] _,by have:=HWwrb1.out.lt;omega⟩
 have Cw:=newC hw
 have HWwrb2:=hd (HWwrb1.out.quiet Cw.out)
 refine kq hK (hHeld.trans Cw.out (by simp)) (fun hHeld=>?_)
 clear hw hX
 have HX2:=hd (And.intro (Cw.out.blk HX2.out.1 (by simp)) HX2.out.2)
 clear Cw
 refine rd1 6 (fun K hK=>?_)
 go_simp
 refine numbers_r HL HB0 (hd ((HQB.out.trans hHeld (fun k hk=>.inr (HOB.out k hk))))) HWwrb2 [x.1] 1 ⟨rfl,by decide⟩ (by intro q hq;rw[List.mem_singleton] at hq;rw[hq];exact HI.out.1) HX1.out.1 HX1.out.2 (fun wrb3 h3 h4=>?_)
 have HX2:=hd (And.intro (h4.blk HX2.out.1 (by simp[HX2.out.2])) HX2.out.2)
 have HWwrb3:=hd h3
 refine kq hK (hHeld.trans h4 (fun k hk=>.inl (by rw[List.mem_singleton] at hk;simp[hk]))) (fun hHeld=>?_)
 clear h3 h4
 have gna:(Pr.nums [x.1]).length≤22:=Pr.nums_len [x.1] (by intro q hq;rw[List.mem_singleton] at hq;rw[hq];exact HI.out.1)
 obtain ⟨na,h9⟩:∃ z,z=Pr.nums [x.1]:=⟨_,rfl⟩
 rw[← h9] at gna
 rw[← h9]
 have Hna:=hd h9
 clear h9
 have hz:¬ 9223372036854775807 < na.length+1:=by omega
 refine tq 7 ?_
 rw[show (⟨List.toArray na⟩:ByteArray)++⟨List.toArray ([47]:Bytes)⟩=⟨(na++([47]:Bytes)).toArray⟩ from str2 _ _]
 obtain ⟨a1,h9⟩:∃ z,z=na++([47]:Bytes):=⟨_,rfl⟩
 rw[← h9]
 have ga1:a1.length≤30:=by rw[h9,List.length_append];show na.length+1≤_;omega
 have Ha1:=hd h9
 clear h9 hz
 refine rd1 14 (fun K hK=>?_)
 go_simp
 refine numbers_r HL HB0 (hd ((HQB.out.trans hHeld (fun k hk=>.inr (HOB.out k hk))))) HWwrb3 [x.2] 1 ⟨rfl,by decide⟩ (by intro q hq;rw[List.mem_singleton] at hq;rw[hq];exact HI.out.2) HX2.out.1 HX2.out.2 (fun wrb4 h3 h4=>?_)
 have HWwrb4:=hd h3
 refine kq hK (hHeld.trans h4 (fun k hk=>.inl (by rw[List.mem_singleton] at hk;simp[hk]))) (fun hHeld=>?_)
 clear h3 h4
 have gnb:(Pr.nums [x.2]).length≤22:=Pr.nums_len [x.2] (by intro q hq;rw[List.mem_singleton] at hq;rw[hq];exact HI.out.2)
 obtain ⟨nb,h9⟩:∃ z,z=Pr.nums [x.2]:=⟨_,rfl⟩
 rw[← h9] at gnb
 rw[← h9]
 have Hnb:=hd h9
 clear h9
 refine rd1 15 (fun K hK=>?_)
 go_simp
 refine (Tryz.strings_TrimPrefix ⟨nb.toArray⟩ ⟨#[32]⟩ wrb4).mono ?_
 rintro e wrb5 ⟨rfl,hwe⟩
 have hwe:=hwe.symm
 subst hwe
 rw[show Lib.trimPrefix (⟨nb.toArray⟩:ByteArray).data.toList (⟨#[32]⟩:ByteArray).data.toList=Lib.itoa x.2 from by show Lib.trimPrefix nb [32]=_;rw[Hnb.out];exact trim1 x.2]
 refine kq hK hHeld (fun hHeld=>?_)
 have git:(Lib.itoa x.2).length≤21:=Pr.itoa_len x.2 HI.out.2
 obtain ⟨it,h9⟩:∃ z,z=Lib.itoa x.2:=⟨_,rfl⟩
 rw[← h9] at git
 rw[← h9]
 have Hit:=hd h9
 clear h9
 have hz:¬ 9223372036854775807 < a1.length+it.length:=by omega
 refine tq 16 ?_
 rw[show (⟨List.toArray a1⟩:ByteArray)++⟨List.toArray it⟩=⟨(a1++it).toArray⟩ from str2 _ _]
 obtain ⟨a2,h9⟩:∃ z,z=a1++it:=⟨_,rfl⟩
 rw[← h9]
 have ga2:a2.length≤60:=by rw[h9,List.length_append];show a1.length+it.length≤_;omega
 have Ha2:=hd h9
 clear h9 hz
 refine tq 17 ?_
 refine dq ?_
 have HH:=hd hHeld
 clear hHeld
 have HF:Hid (Wst T b deep (bad || !Pr.ratioOk x) out v wrb4):=hd (by have h9:=HWwrb4.out;rw[HVJ.out,Bool.or_assoc,← Bool.not_and] at h9;rw[show Pr.ratioOk x=(Pr.numsOk [x.1] && Pr.numsOk [x.2]) by simp[Pr.ratioOk,Pr.numsOk]];exact h9)
 have HR5:Hid (Wr b v w v wrb4):=hd (by have h9:=HH.out;rw[HVJ.out] at h9;exact ⟨(C4.out.mono (by simp)).trans h9 (fun k hk=>.inl hk),fun k hk=>.inl hk⟩)
 have HS:Hid (a2=Pr.ratioS x):=hd (by rw[Ha2.out,Ha1.out,Hna.out,Hit.out];rfl)
 go_wp2_with fail
 rw[HS.out]
 exact HRR.out wrb4 HF.out HR5.out
end Go.Proofs.YtglepipfdmphhaaGreatDoor
namespace Go.Proofs.YtglepipfdmphhaaGreatDoor
set_option linter.unusedVariables false
set_option linter.unusedSimpArgs false
open Go Go.RowKit Go.Shelf
attribute [local irreducible] Go.wpStill
theorem part_r {T:TypeId} {w0:World} (HL:Hid (Laid w0)) {b deep:Nat} (HB0:Hid (w0.heap.size≤b)) {w:World} (HQ:Hid (Chg [] w0 w)) {bad:Bool} {out:Bytes} {v:Value} (HW:Hid (Wst T b deep bad out v w)) (s:Bytes) (hs:s.length≤20) (x:Int × Int) (HI:Hid (Pr.I64 x.1∧Pr.I64 x.2)) {R:Ending→World→Prop}
 (h:∀ w',Wst T b deep (bad || !Pr.partOk x) out v w'→Wr b v w v w'→R (.returned (.string ⟨(Pr.partS s x).toArray⟩)) w') :
 Calls Tryz.prog 59 #[.pointer (some ⟨b,0,none⟩),.string ⟨s.toArray⟩,.agg #[.int .i64 x.1,.int .i64 x.2]] w R:=by
 have HRR:=hd h
 clear h
 obtain ⟨a,c⟩:=x
 go_enter Tryz.func59,Tryz.ntmps59
 go_upto_region 1 with (fail)
 obtain ⟨w4,hw4⟩:∃ W,W=w.alloc (.cells #[.int .i64 a,.int .i64 c] 67):=⟨_,rfl⟩
 rw[← hw4]
 obtain ⟨G,hG⟩:∃ X,X=w.heap.size:=⟨_,rfl⟩
 rw[← hG]
 have HG:=newB hw4 hG
 have C4:=newC hw4
 clear hw4 hG
 have g0:=HG.out.cell (i:=0) rfl
 have g1:=HG.out.cell (i:=1) rfl
 by_cases hx:a=0∧c=1
 · obtain ⟨rfl,rfl⟩:=hx
   go_wp2_with fail
   refine HRR.out w4 ?_ (Wr.cell (C4.out.mono (by simp)))
   have h9:=HW.out.quiet C4.out
   rw[show (bad || !Pr.partOk (0,1))=bad by simp[Pr.partOk]]
   exact h9
 have HX:=hd hx
 have hcs:a≠0∨(a=0∧c≠1):=by
  by_cases ha:a=0
  · exact .inr ⟨ha,fun hc=>hx ⟨ha,hc⟩⟩
  exact .inl ha
 have hs1:∀ k:Nat,k≤100→¬ 9223372036854775807 < s.length+k:=fun k hk=>by omega
 have HS1:=hd hs1
 have HQ4:Hid (Chg [] w0 w4):=hd (HQ.out.trans C4.out (by simp))
 have HW4:=hd (HW.out.quiet C4.out)
 have HV:Hid (Pr.partS s (a,c)=s++Pr.ratioS (a,c)∧Pr.partOk (a,c)=Pr.ratioOk (a,c)):=hd (by
  have hne:¬ ((a,c):Int × Int)=(0,1):=fun h=>by
   injection h with h1 h2
   exact HX.out ⟨h1,h2⟩
  unfold Pr.partS Pr.partOk
  rw[if_neg hne,decide_eq_false hne,Bool.false_or]
  exact ⟨rfl,rfl⟩)
 have hrl:(Pr.ratioS (a,c)).length≤50:=by
  have h1:=Pr.nums_len [a] (by intro q hq;rw[List.mem_singleton] at hq;rw[hq];exact HI.out.1)
  have h2:=Pr.itoa_len c HI.out.2
  simp only[Pr.ratioS,List.length_append,List.length_cons,List.length_nil] at h1 ⊢
  omega
 have HRL:=hd hrl
 clear hx hrl hs1
 have main:∀ {R':Ending→World→Prop},(∀ w',Wst T b deep (bad || !Pr.ratioOk (a,c)) out v w'→Wr b v w4 v w'→R' (.returned (.string ⟨(Pr.ratioS (a,c)).toArray⟩)) w')→Calls Tryz.prog 60 #[.pointer (some ⟨b,0,none⟩),.agg #[.int .i64 a,.int .i64 c]] w4 R':=fun hr=>ratio_r HL HB0 HQ4 HW4 (a,c) HI hr
 have fin:∀ w',Wst T b deep (bad || !Pr.ratioOk (a,c)) out v w'→Wr b v w4 v w'→R (.returned (.string ⟨(s++Pr.ratioS (a,c)).toArray⟩)) w':=fun w' h1 h2=>by
  have h3:=HRR.out w' (by rw[HV.out.2];exact h1) ((Wr.cell (C4.out.mono (by simp))).trans h2)
  rw[HV.out.1] at h3
  exact h3
 have FIN:=hd fin
 clear fin
 rcases hcs with h1|⟨rfl,h1⟩
 · have e1:(a == 0)=false:=by simpa using h1
   go_wp2_with fail
   refine main (fun w5 h5 h6=>?_)
   have H5:=hd h5
   have H6:=hd h6
   clear h5 h6 g0 g1
   obtain ⟨rs,hrs⟩:∃ z,z=Pr.ratioS (a,c):=⟨_,rfl⟩
   rw[← hrs] at FIN HRL ⊢
   have hz:¬ 9223372036854775807 < s.length+rs.length:=by have:=HRL.out;omega
   clear hrs
   go_wp2_with fail
   rw[str2]
   exact FIN.out w5 H5.out H6.out
 have e1:(c == 1)=false:=by simpa using h1
 go_wp2_with fail
 refine main (fun w5 h5 h6=>?_)
 have H5:=hd h5
 have H6:=hd h6
 clear h5 h6 g0 g1
 obtain ⟨rs,hrs⟩:∃ z,z=Pr.ratioS (0,c):=⟨_,rfl⟩
 rw[← hrs] at FIN HRL ⊢
 have hz:¬ 9223372036854775807 < s.length+rs.length:=by have:=HRL.out;omega
 clear hrs
 go_wp2_with fail
 rw[str2]
 exact FIN.out w5 H5.out H6.out
end Go.Proofs.YtglepipfdmphhaaGreatDoor
