/-
  PrJ, PrN in one text.
-/
import Derived.Test.YtglepipfdmphhaaGreatDoorPrTk
import Derived.Test.YtglepipfdmphhaaGreatDoorPrH
set_option maxRecDepth 100000
set_option maxHeartbeats 40000000
namespace Go.Proofs.YtglepipfdmphhaaGreatDoor
set_option linter.unusedVariables false
set_option linter.unusedSimpArgs false
open Go Go.RowKit Go.Shelf
attribute [local irreducible] Go.wpStill
theorem size_of9 (s:Bytes):(⟨s.toArray⟩:ByteArray).size=s.length:=by show s.toArray.size=_;simp
theorem str2 (a x:Bytes):(⟨a.toArray⟩:ByteArray)++⟨x.toArray⟩=⟨(a++x).toArray⟩:=ByteArray.ext (by simp)
theorem rep9 (n:Nat):Lib.repeatL [9] n=List.replicate n 9:=by
 induction n with
 | zero=>rfl
 | succ n ih=>simp[Lib.repeatL,ih,List.replicate_succ]
theorem info_ok (T:TypeId):True:=trivial
theorem line_w {T:TypeId} (hT:Bty T 2) (b:Nat) (w:World) (o:Bytes) (deep:Nat) (HD:Hid (deep≤10)) (bad:Bool) (v:Value) (s:Bytes) (HS:Hid (s.length≤1000000)) (HO:Hid (o.length≤2000000)) (HW:Hid (BW T b o [.int .i64 (deep:Int),.bool bad] v w)) :
 Calls Tryz.prog 35 #[.pointer (some ⟨b,0,none⟩),.string ⟨s.toArray⟩] w fun e w'=>∃ v',e = .returned (.tuple #[])∧BW T b (Pr.put deep o s) [.int .i64 (deep:Int),.bool bad] v' w'∧Wr b v w v' w':=by
 obtain ⟨p,hp,hb⟩:=HW.out.blk
 have HB:=hd hb
 clear hb hp
 go_enter Tryz.func35,Tryz.ntmps35
 go_wp2_with fail
 refine (len_w b w o _ v HW).mono ?_
 rintro e w1 ⟨rfl,hw1⟩
 have hw1:=hw1.symm
 subst hw1
 by_cases hle:o.length≤20000
 · have k0:(o.length:Int)≤20000:=by omega
   have HPUT:Hid (Pr.put deep o s=o++(List.replicate deep 9++s++[10])):=hd (if_pos hle)
   have hs1:¬ 9223372036854775807 < deep+s.length:=by have:=HD.out;have:=HS.out;omega
   have hs2:¬ 9223372036854775807 < deep+s.length+1:=by have:=HD.out;have:=HS.out;omega
   clear hle
   go_upto_region 1 with (fail)
   refine wp_region_held_drew (S:=fun W'=>W'.cell? ⟨b,2,none⟩=some (.int .i64 (deep:Int))) (by kernel_rfl) (HB.out.drew.cell (i:=2) rfl) (fun hHeld=>?_)
   have HBD:Hid (BW T b o [.int .i64 (deep:Int),.bool bad] v w.drew):=hd (HW.out.quiet (Chg.refl _ _).drew)
   obtain ⟨wd,hwd⟩:∃ x,x=w.drew:=⟨_,rfl⟩
   have HCD:Hid (Chg [] w wd):=hd (by rw[hwd];exact (Chg.refl _ _).drew)
   rw[← hwd] at hHeld HBD ⊢
   clear hwd
   refine tq 0 ?_
   refine tq 1 ?_
   refine tq 2 ?_
   refine tq 3 ?_
   refine tq 4 ?_
   refine tq 5 ?_
   refine tq 6 ?_
   refine tq 8 ?_
   refine rd1 7 (fun K hK=>?_)
   go_simp
   refine (Tryz.strings_Repeat ⟨#[9]⟩ deep wd (by have:=HD.out;omega) (by have:=HD.out;show 1*deep≤_;omega)).mono ?_
   rintro e w2 ⟨rfl,hbl⟩
   have h2:Chg [] wd w2:=Below.chg (Chg.refl _ _) hbl
   have HC2:Hid (Chg [] w w2):=hd (HCD.out.trans h2 (by simp))
   have HB2:Hid (BW T b o [.int .i64 (deep:Int),.bool bad] v w2):=hd (HBD.out.quiet h2)
   have hce:w2.cell? ⟨b,2,none⟩=some (.int .i64 (deep:Int)):=by obtain ⟨p2,_,hb2⟩:=HB2.out.blk;exact hb2.cell (i:=2) rfl
   refine kq hK hce (fun hHeld=>?_)
   clear hbl h2 hce
   rw[show Lib.repeatL (⟨#[9]⟩:ByteArray).data.toList deep=List.replicate deep 9 from rep9 deep]
   have hsz:(⟨(List.replicate deep (9:UInt8)).toArray⟩:ByteArray).size=deep:=by rw[size_of9,List.length_replicate]
   have hsz2:(⟨s.toArray⟩:ByteArray).size=s.length:=size_of9 s
   refine tq 9 ?_
   rw[str2]
   have hsz3:(⟨(List.replicate deep 9++s).toArray⟩:ByteArray).size=deep+s.length:=by rw[size_of9,List.length_append,List.length_replicate]
   refine tq 10 ?_
   rw[show (⟨#[10]⟩:ByteArray)=⟨([10]:Bytes).toArray⟩ from rfl,str2]
   obtain ⟨ln,hln⟩:∃ ln:ByteArray,ln=⟨(List.replicate deep 9++s++[10]).toArray⟩:=⟨_,rfl⟩
   rw[← hln]
   have HLN:Hid (ln.data.toList=List.replicate deep 9++s++[10]):=hd (by rw[hln])
   have HLS:Hid (ln.size≤1000011):=hd (by have:=HS.out;have:=HD.out;rw[hln,size_of9];simp only[List.length_append,List.length_replicate,List.length_singleton];omega)
   clear hln
   refine rd1 11 (fun K hK=>?_)
   go_simp
   refine (writeString_w hT b w2 o _ rfl v ln (by rw[HLN.out];simp) HB2 (by have:=HO.out;have:=HLS.out;omega)).mono ?_
   rintro e w3 ⟨v3,rfl,h4,h5⟩
   have hce:w3.cell? ⟨b,2,none⟩=some (.int .i64 (deep:Int)):=by obtain ⟨p2,_,hb2⟩:=h4.blk;exact hb2.cell (i:=2) rfl
   refine kq hK hce (fun hHeld=>?_)
   clear hce
   have H4:Hid (BW T b (Pr.put deep o s) [.int .i64 (deep:Int),.bool bad] v3 w3):=hd (by rw[HPUT.out,← HLN.out];exact h4)
   have H5:Hid (Wr b v w v3 w3):=hd ((Wr.cell (HC2.out.mono (by simp))).trans h5)
   clear h4 h5 hsz hsz2 hsz3 hs1 hs2
   refine dq ?_
   clear hHeld
   go_wp2_with fail
   go_end0
   exact ⟨_,rfl,H4.out,H5.out⟩
 have k0:¬ (o.length:Int)≤20000:=by omega
 have HPUT:Hid (Pr.put deep o s=o):=hd (if_neg hle)
 clear hle
 go_wp2_with fail
 go_end0
 exact ⟨_,rfl,by rw[HPUT.out];exact HW.out,Wr.refl _ _ _⟩
theorem name_r {T:TypeId} {b deep:Nat} {w:World} {bad:Bool} {out:Bytes} {v:Value} (HW:Hid (Wst T b deep bad out v w)) (s:Bytes) {R:Ending→World→Prop} (h:∀ w',Wst T b deep (bad || !Pr.nameOk s) out v w'→Chg [b] w w'→R (.returned (.string ⟨s.toArray⟩)) w') :
 Calls Tryz.prog 14 #[.pointer (some ⟨b,0,none⟩),.string ⟨s.toArray⟩] w R:=by
 obtain ⟨o,h1,h2,h3⟩:=HW.out
 refine (name_w b w o _ bad v s (hd h1)).mono ?_
 rintro e w' ⟨rfl,h4,h5⟩
 exact h w' ⟨o,h4,h2,fun e=>h3 (by simp only[Bool.or_eq_false_iff] at e;exact e.1)⟩ h5
theorem numbers_r {T:TypeId} {w0:World} (HL:Hid (Laid w0)) {b deep:Nat} (HB0:Hid (w0.heap.size≤b)) {w:World} (HQ:Hid (Chg [] w0 w)) {bad:Bool} {out:Bytes} {v:Value} (HW:Hid (Wst T b deep bad out v w))
 (l:List Int) (n:Nat) (hn:l.length=n∧n≤4) (HI:∀ k ∈ l,Pr.I64 k) {X:Nat} (HX:Blk w X (l.map Pr.iv) 3) (HXB:X≠b) {R:Ending→World→Prop} (h:∀ w',Wst T b deep (bad || !Pr.numsOk l) out v w'→Chg [b] w w'→R (.returned (.string ⟨(Pr.nums l).toArray⟩)) w') :
 Calls Tryz.prog 15 #[.pointer (some ⟨b,0,none⟩),.slice (some ⟨X,0,none⟩) n n] w R:=by
 obtain ⟨o,h1,h2,h3⟩:=HW.out
 refine (numbers_w w0 HL b HB0 w HQ o _ bad v (hd h1) X l n (hd hn.1) hn.2 (hd HI) (hd HX) (hd HXB)).mono ?_
 rintro e w' ⟨rfl,h4,h5⟩
 exact h w' ⟨o,h4,h2,fun e=>h3 (by simp only[Bool.or_eq_false_iff] at e;exact e.1)⟩ h5
theorem line_r {T:TypeId} (hT:Bty T 2) {b deep:Nat} {w:World} (HD:deep≤10) {bad:Bool} {out:Bytes} {v:Value} (HW:Hid (Wst T b deep bad out v w)) (s:Bytes) (HS:s.length≤1000000) {R:Ending→World→Prop} (h:∀ v' w',Wst T b deep bad (Pr.put deep out s) v' w'→Wr b v w v' w'→R (.returned (.tuple #[])) w') :
 Calls Tryz.prog 35 #[.pointer (some ⟨b,0,none⟩),.string ⟨s.toArray⟩] w R:=by
 obtain ⟨o,h1,h2,h3⟩:=HW.out
 refine (line_w hT b w o deep (hd HD) bad v s (hd HS) (hd h2) (hd h1)).mono ?_
 rintro e w' ⟨v',rfl,h4,h5⟩
 refine h v' w' ⟨_,h4,?_,fun e=>by rw[h3 e]⟩ h5
 unfold Pr.put
 split
 · simp only[List.length_append,List.length_replicate,List.length_singleton]
   omega
 exact h2
theorem Wst.setDeep {T:TypeId} {b deep deep':Nat} {bad:Bool} {out:Bytes} {v:Value} {w:World} (h:Wst T b deep bad out v w):Wst T b deep' bad out v (w.setCell ⟨b,2,none⟩ (.int .i64 (deep':Int))):=by
 obtain ⟨o,h1,h2⟩:=h
 obtain ⟨p,hp,hb⟩:=h1.blk
 exact ⟨o,h1.rest ((Chg.refl _ _).setCell _ _ (.inl (by simp))) hp (hb.set 2 _),h2⟩
theorem Wst.cell2 {T:TypeId} {b deep:Nat} {bad:Bool} {out:Bytes} {v:Value} {w:World} (h:Wst T b deep bad out v w):w.cell? ⟨b,2,none⟩=some (.int .i64 (deep:Int))∧w.frozen? ⟨b,2,none⟩=false:=by
 obtain ⟨o,h1,h2⟩:=h
 obtain ⟨p,hp,hb⟩:=h1.blk
 exact ⟨hb.cell (i:=2) rfl,hb.free 2⟩
theorem open_w {T:TypeId} (hT:Bty T 2) {b deep:Nat} {w:World} (HD:Hid (deep≤9)) {bad:Bool} {out:Bytes} {v:Value} (HW:Hid (Wst T b deep bad out v w)) (s:Bytes) (HS:Hid (s.length≤900000)) (fid:Nat) (hfid:fid=16∨fid=17∨fid=40) (c1 c2:Value) (ok:Bool) (ls:List (Nat × Bytes))
 (HDO:Hid (∀ v1 w1 X,Wst T b (deep+1) bad X v1 w1→Wr b v w v1 w1→Calls Tryz.prog fid #[c1,c2] w1 (fun e w2=>e = .returned (.tuple #[])∧∃ v2,Wst T b (deep+1) (bad || !ok) (Pr.puts X ls) v2 w2∧Wr b v1 w1 v2 w2))) {R:Ending→World→Prop}
 (h:∀ v' w',Wst T b deep (bad || !ok) (Pr.puts out ((deep,s++Pr.tOpen) :: (ls++[(deep,Pr.tClose)]))) v' w'→Wr b v w v' w'→R (.returned (.tuple #[])) w') :
 Calls Tryz.prog 13 #[.pointer (some ⟨b,0,none⟩),.string ⟨s.toArray⟩,.func (.func fid) #[] #[c1,c2]] w R:=by
 have HR:=hd h
 clear h
 have hs1:¬ 9223372036854775807 < s.length+2:=by have:=HS.out;omega
 have hsz:(⟨s.toArray⟩:ByteArray).size=s.length:=size_of9 s
 have d0:(0:Int)≤(deep:Int):=by omega
 have d1:(deep:Int)≤9:=by have:=HD.out;omega
 go_enter Tryz.func13,Tryz.ntmps13
 go_wp2_with fail
 rw[show (⟨s.toArray⟩:ByteArray)++⟨#[32,123]⟩=⟨(s++Pr.tOpen).toArray⟩ from str2 s [32,123]]
 refine line_r hT (by omega) HW (s++Pr.tOpen) (by have:=HS.out;rw[List.length_append];show _+2≤_;omega) (fun v1 w1 h1 h2=>?_)
 have H1:=hd h1
 have H2:=hd h2
 have k2:=h1.cell2.1
 have kf:=h1.cell2.2
 clear h1 h2 hs1 hsz
 go_upto_region 2 with (fail)
 obtain ⟨w2,hw2⟩:∃ W,W=w1.setCell ⟨b,2,none⟩ (.int .i64 ((deep:Int)+1)):=⟨_,rfl⟩
 rw[← hw2]
 have H3:Hid (Wst T b (deep+1) bad (Pr.put deep out (s++Pr.tOpen)) v1 w2):=hd (by rw[hw2];exact H1.out.setDeep (deep':=deep+1))
 have H4:Hid (Wr b v w v1 w2):=hd (H2.out.trans (Wr.cell (by rw[hw2];exact (Chg.refl _ _).setCell _ _ (.inl (by simp)))))
 clear hw2 k2 kf H1 H2
 have main:∀ R':Ending→World→Prop,(∀ v3 w3,Wst T b (deep+1) (bad || !ok) (Pr.puts (Pr.put deep out (s++Pr.tOpen)) ls) v3 w3→Wr b v w v3 w3→R' (.returned (.tuple #[])) w3)→Calls Tryz.prog fid #[c1,c2] w2 R':=fun R' hr=>(HDO.out v1 w2 _ H3.out H4.out).mono (by
  rintro e w3 ⟨rfl,v3,h5,h6⟩
  exact hr v3 w3 h5 (H4.out.trans h6))
 have MAIN:=hd main
 clear main
 have hpt:∀ X,Pr.puts X ((deep,s++Pr.tOpen) :: (ls++[(deep,Pr.tClose)]))=Pr.put deep (Pr.puts (Pr.put deep X (s++Pr.tOpen)) ls) Pr.tClose:=fun X=>by rw[Pr.puts_cons,Pr.puts_append];rfl
 have HPT:=hd hpt
 clear hpt
 rcases hfid with rfl|rfl|rfl
 all_goals
  go_wp2_with fail
  refine MAIN.out _ (fun v3 w3 h1 h2=>?_)
  have H1:=hd h1
  have H2:=hd h2
  have k2:=h1.cell2.1
  have kf:=h1.cell2.2
  clear h1 h2
  go_upto_region 4 with (fail)
  obtain ⟨w4,hw4⟩:∃ W,W=w3.setCell ⟨b,2,none⟩ (.int .i64 (deep:Int)):=⟨_,rfl⟩
  rw[← hw4]
  have H5:Hid (Wst T b deep (bad || !ok) (Pr.puts (Pr.put deep out (s++Pr.tOpen)) ls) v3 w4):=hd (by rw[hw4];exact H1.out.setDeep)
  have H6:Hid (Wr b v w v3 w4):=hd (H2.out.trans (Wr.cell (by rw[hw4];exact (Chg.refl _ _).setCell _ _ (.inl (by simp)))))
  clear hw4 k2 kf H1 H2
  go_wp2_with fail
  refine line_r hT (by omega) H5 Pr.tClose (by decide) (fun v5 w5 h7 h8=>?_)
  go_wp2_with fail
  go_end0
  refine HR.out v5 w5 ?_ (H6.out.trans h8)
  rw[HPT.out]
  exact h7
end Go.Proofs.YtglepipfdmphhaaGreatDoor
namespace Go.Proofs.YtglepipfdmphhaaGreatDoor
set_option linter.unusedVariables false
set_option linter.unusedSimpArgs false
open Go Go.RowKit Go.Shelf
attribute [local irreducible] Go.wpStill
theorem chg_drewN (w:World) (n:Nat):Chg [] w (w.drewN n):=⟨rfl,rfl,rfl,Nat.le_refl _,fun _ _ _=>rfl⟩
theorem box_r {T:TypeId} {w0:World} (HL:Hid (Laid w0)) {b deep:Nat} (HB0:Hid (w0.heap.size≤b)) {w:World} (HQ:Hid (Chg [] w0 w)) {bad:Bool} {out:Bytes} {v:Value} (HW:Hid (Wst T b deep bad out v w)) (x:Pr.Bx) (HI:Hid (Pr.I64 x.x∧Pr.I64 x.y∧Pr.I64 x.x2∧Pr.I64 x.y2)) {R:Ending→World→Prop}
 (h:∀ w',Wst T b deep (bad || !Pr.boxOk x) out v w'→Chg [b] w w'→R (.returned (.string ⟨(Pr.nums (Pr.boxN x)).toArray⟩)) w') :
 Calls Tryz.prog 42 #[.pointer (some ⟨b,0,none⟩),.agg #[.int .i64 x.x,.int .i64 x.y,.int .i64 x.x2,.int .i64 x.y2]] w R:=by
 have HR:=hd h
 clear h
 go_enter Tryz.func42,Tryz.ntmps42
 go_upto_region 1 with (fail)
 obtain ⟨w1,hw⟩:∃ W,W=w.alloc (.cells #[.int .i64 x.x,.int .i64 x.y,.int .i64 x.x2,.int .i64 x.y2] 54):=⟨_,rfl⟩
 rw[← hw]
 obtain ⟨M,hM⟩:∃ X,X=w.heap.size:=⟨_,rfl⟩
 rw[← hM]
 have HM:=newB hw hM
 have C1:=newC hw
 have NM:M≠b:=by have:=HW.out.lt;omega
 clear hw hM
 refine wp_region_held_drew (S:=fun W'=>Chg [b] w1 W') (by kernel_rfl) (Chg.refl _ _).drew (fun hHeld=>?_)
 obtain ⟨wd,hwd⟩:∃ x,x=w1.drew:=⟨_,rfl⟩
 have CD:Hid (Chg [] w1 wd):=hd (by rw[hwd];exact (Chg.refl _ _).drew)
 rw[← hwd] at hHeld ⊢
 clear hwd
 refine tq 0 ?_
 refine tq 1 ?_
 refine tq 2 ?_
 refine tq 3 ?_
 refine tq1 4 (fun w9 hSw=>cell_quiet hSw (HM.out.cell (i:=0) rfl) (by simp[NM])) ?_
 refine tq 5 ?_
 refine tq1 6 (fun w9 hSw=>cell_quiet hSw (HM.out.cell (i:=1) rfl) (by simp[NM])) ?_
 refine tq 7 ?_
 refine tq1 8 (fun w9 hSw=>cell_quiet hSw (HM.out.cell (i:=2) rfl) (by simp[NM])) ?_
 refine tq 9 ?_
 refine tq1 10 (fun w9 hSw=>cell_quiet hSw (HM.out.cell (i:=3) rfl) (by simp[NM])) ?_
 refine rd1 11 (fun K hK=>?_)
 go_simp
 obtain ⟨w2,hw2⟩:∃ W,W=wd.alloc (.cells #[.int .i64 (x.x),.int .i64 (x.y),.int .i64 (x.x2),.int .i64 (x.y2)] 3):=⟨_,rfl⟩
 rw[← hw2]
 obtain ⟨X,hX⟩:∃ X,X=wd.heap.size:=⟨_,rfl⟩
 rw[← hX]
 have HX:=newB hw2 hX
 have Cw2:=newC hw2
 have OX:Hid (wd.heap.size≤X):=hd (Nat.le_of_eq hX.symm)
 refine kq hK (hHeld.trans Cw2.out (by simp)) (fun hHeld=>?_)
 clear hw2 hX
 have HW2:Hid (Wst T b deep bad out v w2):=hd (HW.out.quiet ((C1.out.trans CD.out (by simp)).trans Cw2.out (by simp)))
 have HQ2:Hid (Chg [] w0 w2):=hd (((HQ.out.trans C1.out (by simp)).trans CD.out (by simp)).trans Cw2.out (by simp))
 refine rd1 12 (fun K hK=>?_)
 go_simp
 refine numbers_r HL HB0 HQ2 HW2 (Pr.boxN x) 4 ⟨rfl,by decide⟩ (by have h:=HI.out;intro k hk;simp only[Pr.boxN,List.mem_cons,List.not_mem_nil,or_false] at hk;rcases hk with rfl|rfl|rfl|rfl;exact h.1;exact h.2.1;exact h.2.2.1;exact h.2.2.2) HX.out (by have h1:=OX.out;have h2:=HW.out.lt;have h3:=C1.out.size;have h4:=CD.out.size;omega) (fun w3 h3 h4=>?_)
 refine kq hK (hHeld.trans h4 (fun k hk=>.inl hk)) (fun hHeld=>?_)
 have H3:=hd h3
 have H4:Hid (Chg [b] w w3):=hd ((((C1.out.trans CD.out (by simp)).trans Cw2.out (by simp)).mono (by simp)).trans h4 (fun k hk=>.inl hk))
 clear h3 h4
 refine tq 13 ?_
 refine dq ?_
 clear hHeld
 go_wp2_with fail
 exact HR.out w3 H3.out H4.out
end Go.Proofs.YtglepipfdmphhaaGreatDoor
