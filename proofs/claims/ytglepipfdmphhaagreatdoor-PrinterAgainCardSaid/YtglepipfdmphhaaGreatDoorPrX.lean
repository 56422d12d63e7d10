/-
 Printer, layer 12: rows of a block, what a level holds, levels, halls.
-/
import Derived.Test.YtglepipfdmphhaaGreatDoorPrTk
import Derived.Test.YtglepipfdmphhaaGreatDoorPrR
set_option maxRecDepth 100000
set_option maxHeartbeats 40000000
namespace Go.Proofs.YtglepipfdmphhaaGreatDoor
set_option linter.unusedVariables false
set_option linter.unusedSimpArgs false
open Go Go.RowKit Go.Shelf
attribute [local irreducible] Go.wpStill
theorem Wst.ne {T:TypeId} {b deep:Nat} {bad:Bool} {out:Bytes} {v:Value} {w:World} (h:Wst T b deep bad out v w) {X:Nat} {cs:List Value} {e:TypeId} (hb:Blk w X cs e) (he:e≠5):v.ownBlock≠some X:=by
 obtain ⟨o,h1,_⟩:=h
 exact h1.ne hb he
theorem Wst.blk {T:TypeId} {b deep:Nat} {bad:Bool} {out:Bytes} {v v':Value} {w w':World} (h:Wst T b deep bad out v w) (hr:Wr b v w v' w') {X:Nat} {cs:List Value} {e:TypeId} (hb:Blk w X cs e) (he:e≠5) (hx:X≠b):Blk w' X cs e:=hr.blk hb hx (h.ne hb he)
theorem rows_w {T:TypeId} (hT:Bty T 2) {w0 w1:World} (HL:Hid (Laid w0)) {b:Nat} (HB0:Hid (w0.heap.size≤b)) (HQ:Hid (Chg [] w0 w1)) {bad:Bool} {out:Bytes} {v:Value} (HW:Hid (Wst T b 3 bad out v w1)) (rows:List Pr.Rw) (ao:Option Addr) (cap n:Nat) (HN:Hid (rows.length=n)) (HM:Hid (RdS 8 Pr.RRw w0 (.slice ao n cap) rows))
 (HSZ:Hid (∀ r ∈ rows,r.name.length≤1000∧r.marks.length≤9000)) (hnn:n≤1000000) (nm at_:Value) (BB PW:Nat) (HBB:Hid (Blk w1 BB [nm,.slice ao n cap,at_] 51)) (HPW:Hid (Blk w1 PW [.pointer (some ⟨b,0,none⟩)] 121)) (HX:Hid (BB≠b∧PW≠b)) :
 Calls Tryz.prog 40 #[.pointer (some ⟨BB,0,none⟩),.pointer (some ⟨PW,0,none⟩)] w1 fun e w2=>e = .returned (.tuple #[])∧∃ v2,Wst T b 3 (bad || !rows.all Pr.rowOk) (Pr.puts out (rows.map Pr.rowL)) v2 w2∧Wr b v w1 v2 w2:=by
 have k1:=HBB.out.cell (i:=1) rfl
 go_enter Tryz.func40,Tryz.ntmps40
 go_wp2_with fail
 clear k1
 go_loopw [7] (fun i wr=>∃ (j:Nat) (vj:Value),i = .int .i64 (j:Int)∧j≤n∧Hid (Wst T b 3 (bad || !(rows.take j).all Pr.rowOk) (Pr.puts out ((rows.take j).map Pr.rowL)) vj wr)∧Hid (Wr b v w1 vj wr)∧Hid (Blk wr PW [.pointer (some ⟨b,0,none⟩)] 121)) (fun i _=>n - intN i)
 case atStart=>exact ⟨0,v,rfl,Nat.zero_le _,hd (by simpa [Pr.puts] using HW.out),hd (Wr.refl _ _ _),HPW⟩
 case round =>
  obtain ⟨j,vj,rfl,hj,HWJ,HR,HP⟩:=hrel
  by_cases hlt:j < n
  · obtain ⟨r,hr⟩:∃ r,rows[j]? = some r:=⟨rows[j]'(by rw[HN.out];exact hlt),by simp⟩
    have HQR:Hid (Chg [] w0 wr):=hd (HR.out.seen HW.out HQ.out HB0.out)
    obtain ⟨g,off,cs,rfl,hgl,hl,⟨mv,hcs,hms,i1,i2,i3,i4,i5,hnl⟩,hcell⟩:=HM.out.elem hr
    have hcell:∀ (k:Nat) (c:Value),cs[k]? = some c→wr.cell? ⟨g,off+j*8+k,none⟩=some c:=fun k c h=>(World.cell?_of_block (HQR.out.block g hgl (by simp))).trans (hcell k c h)
    obtain ⟨ma,mc,rfl,hmc,_⟩:=hms.form
    subst hcs
    have HMS:=hd hms
    have c0:wr.cell? ⟨g,off+j*8,none⟩=some (.string ⟨r.name.toArray⟩):=hcell 0 _ rfl
    have c1:wr.cell? ⟨g,off+j*8+1,none⟩=some (.int .i64 r.x):=hcell 1 _ rfl
    have c2:wr.cell? ⟨g,off+j*8+2,none⟩=some (.int .i64 r.y):=hcell 2 _ rfl
    have c3:wr.cell? ⟨g,off+j*8+3,none⟩=some (.int .i64 r.f):=hcell 3 _ rfl
    have c4:wr.cell? ⟨g,off+j*8+4,none⟩=some (.int .i64 r.t):=hcell 4 _ rfl
    have c5:wr.cell? ⟨g,off+j*8+5,none⟩=some (.int .i64 r.step):=hcell 5 _ rfl
    have c6:wr.cell? ⟨g,off+j*8+6,none⟩=some (.slice ma r.marks.length mc):=hcell 6 _ rfl
    have c7:wr.cell? ⟨g,off+j*8+7,none⟩=some (.int .i64 r.at_):=hcell 7 _ rfl
    have HI:Hid (Pr.I64 r.x∧Pr.I64 r.y∧Pr.I64 r.f∧Pr.I64 r.t∧Pr.I64 r.step):=hd ⟨i1,i2,i3,i4,i5⟩
    have HZ:=hd (HSZ.out r (List.mem_of_getElem? hr))
    have htk:rows.take (j+1)=rows.take j++[r]:=by obtain ⟨hj2,rfl⟩:=List.getElem?_eq_some_iff.1 hr;exact List.take_succ_eq_append_getElem hj2
    have HTK:=hd htk
    have q1:(j:Int) < (n:Int):=by omega
    have q0:(0:Int)≤(j:Int):=by omega
    obtain ⟨mn,hmn⟩:∃ mn,mn=r.marks.length:=⟨_,rfl⟩
    rw[← hmn] at c6 HMS
    have HMN:=hd hmn
    clear hr hcell hl hgl htk hms hnl i1 i2 i3 i4 i5 hmn hmc
    go_upto_region 3 with (fail)
    obtain ⟨w4,hw4⟩:∃ W,W=wr.alloc (.cells #[.string ⟨r.name.toArray⟩,.int .i64 r.x,.int .i64 r.y,.int .i64 r.f,.int .i64 r.t,.int .i64 r.step,.slice ma mn mc,.int .i64 r.at_] 48):=⟨_,rfl⟩
    rw[← hw4]
    obtain ⟨G,hG⟩:∃ X,X=wr.heap.size:=⟨_,rfl⟩
    rw[← hG]
    have HG:=newB hw4 hG
    have C4:=newC hw4
    clear hw4 hG c0 c1 c2 c3 c4 c5 c6 c7
    have d0:=HG.out.cell (i:=0) rfl
    have d1:=HG.out.cell (i:=1) rfl
    have d2:=HG.out.cell (i:=2) rfl
    have d3:=HG.out.cell (i:=3) rfl
    have d4:=HG.out.cell (i:=4) rfl
    have d5:=HG.out.cell (i:=5) rfl
    have d6:=HG.out.cell (i:=6) rfl
    have d7:=HG.out.cell (i:=7) rfl
    have HP4:=hd (C4.out.blk HP.out (by simp))
    have p0:=HP4.out.cell (i:=0) rfl
    have HWJ4:=hd (HWJ.out.quiet C4.out)
    go_wp2_with fail
    refine row_r hT HL (hd (by decide)) HB0 (hd (HQR.out.trans C4.out (by simp))) HWJ4 r ma mc mn (hd HMN.out.symm) (hd (by rw[HMN.out];rw[HMN.out] at HMS;exact HMS.out)) HI (hd HZ.out.1) (hd (by rw[HMN.out];exact HZ.out.2)) (fun v5 w5 h5 h6=>?_)
    have H5:=hd h5
    have H6:=hd h6
    have HP5:=hd (HWJ4.out.blk h6 HP4.out (by decide) HX.out.2)
    have HR5:Hid (Wr b v w1 v5 w5):=hd ((HR.out.trans (Wr.cell (C4.out.mono (by simp)))).trans h6)
    clear h5 h6 d0 d1 d2 d3 d4 d5 d6 d7 p0
    go_wp2_with fail
    go_roundw
    case rel=>exact ⟨j+1,v5,vint (by omega),by omega,hd (by rw[HTK.out,List.all_append,List.map_append,Pr.puts_append,List.all_cons,List.all_nil,Bool.and_true,Bool.not_and,← Bool.or_assoc];exact H5.out),HR5,HP5⟩
    case measure=>simp[intN];omega
  have hjn:rows.take j=rows:=List.take_of_length_le (by rw[HN.out];omega)
  rw[hjn] at HWJ
  have q1:¬ (j:Int) < (n:Int):=by omega
  clear hjn
  go_wp2_with fail
  go_end0
  exact ⟨rfl,vj,HWJ.out,HR.out⟩
namespace Pr
def innerOk (l:Lv):Bool:=l.blocks.all blockOk && (l.areas.all areaOk && (l.aisles.all boxOk && (l.pillars.all boxOk && l.doors.all doorOk)))
end Pr
theorem mPrX0 {G:Prop} (h:G:=by
  have HP5:=hd (HH.out.blk HP4.out NPH.out)
  have HL5:=hd (HH.out.blk HL4.out NLH.out)
  go_wp2_with fail
  go_roundw
  case rel=>exact ⟨j+1,v9,vint (by omega),by omega,hd (by have h9:=H3.out;rw[Ha5.out,Ha4.out,Ha3.out,Ha2.out,Ha1.out,Hnb.out,Hnh.out] at h9;rw[HTK.out,List.all_append,List.all_cons,List.all_nil,Bool.and_true,Bool.not_and,← Bool.or_assoc,List.map_append,Pr.puts_append];rw[show Pr.areaOk x=(Pr.nameOk x.name && (Pr.boxOk x.box && Pr.numsOk [x.holds])) by simp[Pr.areaOk,Pr.numsOk],Bool.not_and,Bool.not_and,← Bool.or_assoc,← Bool.or_assoc];exact h9),HR5,HP5,HL5⟩
  case measure=>simp[intN];omega):G:=h
theorem mPrX1 {G:Prop} (h:G:=by
  have HP5:=hd (HH.out.blk HP4.out NPH.out)
  have HL5:=hd (HH.out.blk HL4.out NLH.out)
  go_wp2_with fail
  go_roundw
  case rel=>exact ⟨j+1,v9,vint (by omega),by omega,hd (by have h9:=H3.out;rw[Ha2.out,Ha1.out,Hnb.out] at h9;rw[HTK.out,List.all_append,List.all_cons,List.all_nil,Bool.and_true,Bool.not_and,← Bool.or_assoc,List.map_append,Pr.puts_append]; exact h9),HR5,HP5,HL5⟩
  case measure=>simp[intN];omega):G:=h
theorem level_r {T:TypeId} (hT:Bty T 2) {w0:World} (HL:Hid (Laid w0)) {b:Nat} (HB0:Hid (w0.heap.size≤b)) {w:World} (HQ:Hid (Chg [] w0 w)) {bad:Bool} {out:Bytes} {v:Value} (HW:Hid (Wst T b 2 bad out v w)) (l:Pr.Lv) (p0 p1 p2 p3 p4:Option Addr) (k0 k1 k2 k3 k4 n0 n1 n2 n3 n4:Nat)
 (HN0:Hid (l.blocks.length=n0)) (HN1:Hid (l.areas.length=n1)) (HN2:Hid (l.aisles.length=n2)) (HN3:Hid (l.pillars.length=n3)) (HN4:Hid (l.doors.length=n4)) (hn:n0≤1000000∧n1≤1000000∧n2≤1000000∧n3≤1000000∧n4≤1000000)
 (HM0:Hid (RdS 3 Pr.RBl w0 (.slice p0 n0 k0) l.blocks)) (HM1:Hid (RdS 7 Pr.RAr w0 (.slice p1 n1 k1) l.areas)) (HM2:Hid (RdS 4 Pr.RBx w0 (.slice p2 n2 k2) l.aisles)) (HM3:Hid (RdS 4 Pr.RBx w0 (.slice p3 n3 k3) l.pillars)) (HM4:Hid (RdS 2 Pr.RPt w0 (.slice p4 n4 k4) l.doors))
 (HSL:Hid ((∀ x ∈ l.blocks,x.name.length≤1000∧x.rows.length≤1000000∧∀ r ∈ x.rows,r.name.length≤1000∧r.marks.length≤9000)∧∀ x ∈ l.areas,x.name.length≤1000)) {R:Ending→World→Prop}
 (h:∀ v' w',Wst T b 2 (bad || !Pr.innerOk l) (Pr.puts out (Pr.innerL l)) v' w'→Wr b v w v' w'→R (.returned (.tuple #[])) w') :
 Calls Tryz.prog 18 #[.pointer (some ⟨b,0,none⟩),.agg #[.string ⟨l.name.toArray⟩,.int .i64 l.height,.slice p0 n0 k0,.slice p1 n1 k1,.slice p2 n2 k2,.slice p3 n3 k3,.slice p4 n4 k4,.int .i64 l.at_]] w R:=by
 have HRR:=hd h
 clear h
 obtain ⟨m0,m1,m2,m3,m4⟩:=hn
 go_enter Tryz.func18,Tryz.ntmps18
 go_upto_region 1 with (fail)
 obtain ⟨w1,hw⟩:∃ W,W=(w.alloc (.cells #[.pointer (some ⟨b,0,none⟩)] 121)).alloc (.cells #[.string ⟨l.name.toArray⟩,.int .i64 l.height,.slice p0 n0 k0,.slice p1 n1 k1,.slice p2 n2 k2,.slice p3 n3 k3,.slice p4 n4 k4,.int .i64 l.at_] 61):=⟨_,rfl⟩
 rw[← hw]
 obtain ⟨LM,hLM⟩:∃ X,X=w.heap.size+1:=⟨_,rfl⟩
 rw[← hLM]
 obtain ⟨PW,hPW⟩:∃ X,X=w.heap.size:=⟨_,rfl⟩
 rw[← hPW]
 obtain ⟨LC,hLC⟩:∃ z:List Value,z=[.string ⟨l.name.toArray⟩,.int .i64 l.height,.slice p0 n0 k0,.slice p1 n1 k1,.slice p2 n2 k2,.slice p3 n3 k3,.slice p4 n4 k4,.int .i64 l.at_]:=⟨_,rfl⟩
 have HLC:=hd hLC
 have HP0:Hid (Blk w1 PW [.pointer (some ⟨b,0,none⟩)] 121):=hd (by rw[hw,hPW];exact (Blk.new w [.pointer (some ⟨b,0,none⟩)] _).alloc _)
 have HLM0:Hid (Blk w1 LM LC 61):=hd (by
  have h1:=Blk.new (w.alloc (.cells #[.pointer (some ⟨b,0,none⟩)] 121)) [.string ⟨l.name.toArray⟩,.int .i64 l.height,.slice p0 n0 k0,.slice p1 n1 k1,.slice p2 n2 k2,.slice p3 n3 k3,.slice p4 n4 k4,.int .i64 l.at_] 61
  rw[hw,hLM,hLC]
  simpa using h1)
 have CW:Hid (Chg [] w w1):=hd (by rw[hw];exact ((Chg.refl _ _).alloc _).alloc _)
 have HNX:Hid (PW≠b∧LM≠b):=hd ⟨by have:=HW.out.lt;omega,by have:=HW.out.lt;omega⟩
 have HW0:=hd (HW.out.quiet CW.out)
 have HR0:Hid (Wr b v w v w1):=hd (Wr.cell (CW.out.mono (by simp)))
 obtain ⟨bad0,hb⟩:∃ q,q=bad:=⟨_,rfl⟩
 obtain ⟨out0,ho⟩:∃ q,q=out:=⟨_,rfl⟩
 obtain ⟨v0,hv⟩:∃ q,q=v:=⟨_,rfl⟩
 rw[← hb,← ho,← hv] at HW0
 rw[show Wr b v w v w1=Wr b v w v0 w1 by rw[hv]] at HR0
 have HBD0:=hd hb
 have HOU0:=hd ho
 clear hw hLM hPW hLC hb ho hv
 have f0:w1.cell? ⟨LM,2,none⟩=some (.slice p0 n0 k0):=by have h9:=HLM0.out;rw[HLC.out] at h9;exact h9.cell (i:=2) rfl
 go_wp2_with fail
 clear f0
 go_loopw [17] (fun i wr=>∃ (j:Nat) (vj:Value),i = .int .i64 (j:Int)∧j≤n0∧Hid (Wst T b 2 (bad0 || !(l.blocks.take j).all Pr.blockOk) (Pr.puts out0 ((l.blocks.take j).flatMap Pr.blockL)) vj wr)∧Hid (Wr b v w vj wr)∧Hid (Blk wr PW [.pointer (some ⟨b,0,none⟩)] 121)∧Hid (Blk wr LM LC 61)) (fun i _=>n0 - intN i)
 case atStart=>exact ⟨0,v0,rfl,Nat.zero_le _,hd (by simpa [Pr.puts] using HW0.out),HR0,HP0,HLM0⟩
 case round =>
  obtain ⟨j,vj,rfl,hj,HWJ,HR,HP,HLJ⟩:=hrel
  clear HW0 HR0 HP0 HLM0
  by_cases hlt:j < n0
  · skip
    obtain ⟨x,hr⟩:∃ x,l.blocks[j]? = some x:=⟨l.blocks[j]'(by rw[HN0.out];exact hlt),by simp⟩
    have HQR:Hid (Chg [] w0 wr):=hd (HR.out.seen HW.out HQ.out HB0.out)
    obtain ⟨g,off,cs,ha,hgl,hl,⟨rv,hcs,hrs,hnl⟩,hcell⟩:=HM0.out.elem hr
    subst ha
    have hcell:∀ (k:Nat) (c:Value),cs[k]? = some c→wr.cell? ⟨g,off+j*3+k,none⟩=some c:=fun k c h=>(World.cell?_of_block (HQR.out.block g hgl (by simp))).trans (hcell k c h)
    obtain ⟨ra,rc,rfl,hrc,hrl⟩:=hrs.form
    have HRS:=hd hrs
    have HZ:=hd (HSL.out.1 x (List.mem_of_getElem? hr))
    have bx:=HZ.out.1
    clear hrs hrc hrl hnl
    subst hcs
    have c0:wr.cell? ⟨g,off+j*3,none⟩=some (.string ⟨x.name.toArray⟩):=hcell 0 _ rfl
    have c1:wr.cell? ⟨g,off+j*3+1,none⟩=some (.slice ra x.rows.length rc):=hcell 1 _ rfl
    have c2:wr.cell? ⟨g,off+j*3+2,none⟩=some (.int .i64 x.at_):=hcell 2 _ rfl
    have htk:l.blocks.take (j+1)=l.blocks.take j++[x]:=by obtain ⟨hj2,rfl⟩:=List.getElem?_eq_some_iff.1 hr;exact List.take_succ_eq_append_getElem hj2
    have HTK:=hd htk
    have q1:(j:Int) < (n0:Int):=by omega
    have q0:(0:Int)≤(j:Int):=by omega
    clear hr hcell hl hgl htk
    go_upto_region 4 with (fail)
    obtain ⟨w4,hw4⟩:∃ W,W=wr.alloc (.cells #[.string ⟨x.name.toArray⟩,.slice ra x.rows.length rc,.int .i64 x.at_] 51):=⟨_,rfl⟩
    rw[← hw4]
    obtain ⟨G,hG⟩:∃ X,X=wr.heap.size:=⟨_,rfl⟩
    rw[← hG]
    have HG:=newB hw4 hG
    have C4:=newC hw4
    have NG:G≠b:=by have:=HWJ.out.lt;omega
    clear hw4 hG c0 c1 c2
    have HP4:=hd (C4.out.blk HP.out (by simp))
    have HL4:=hd (C4.out.blk HLJ.out (by simp))
    have HWJ4:=hd (HWJ.out.quiet C4.out)
    have HQB:Hid (Chg [] w0 w4):=hd (HQR.out.trans C4.out (by simp))
    have HOB:Hid (∀ k ∈ b :: vj.ownBlock.toList,w0.heap.size≤k):=hd (by intro k hk;have h1:=HB0.out;rcases List.mem_cons.1 hk with rfl|hk;exact h1;rw[Option.mem_toList] at hk;have:=own_ge HWJ.out k hk;omega)
    have NPO:PW ∉ b :: vj.ownBlock.toList:=by simp only[List.mem_cons,Option.mem_toList,not_or];exact ⟨HNX.out.1,HWJ4.out.ne HP4.out (by decide)⟩
    have NGO:G ∉ b :: vj.ownBlock.toList:=by simp only[List.mem_cons,Option.mem_toList,not_or];exact ⟨NG,HWJ4.out.ne HG.out (by decide)⟩
    have NLO:LM ∉ b :: vj.ownBlock.toList:=by simp only[List.mem_cons,Option.mem_toList,not_or];exact ⟨HNX.out.2,HWJ4.out.ne HL4.out (by decide)⟩
    have NPH:=hd NPO
    have NGH:=hd NGO
    have NLH:=hd NLO
    clear NPO NGO NLO
    refine wp_region_held_drew (S:=fun W'=>Chg (b :: vj.ownBlock.toList) w4 W') (by kernel_rfl) (Chg.refl _ _).drew (fun hHeld=>?_)
    obtain ⟨wd,hwd⟩:∃ x,x=w4.drew:=⟨_,rfl⟩
    have CD:Hid (Chg [] w4 wd):=hd (by rw[hwd];exact (Chg.refl _ _).drew)
    rw[← hwd] at hHeld ⊢
    clear hwd
    have HWd:=hd (HWJ4.out.quiet CD.out)
    refine tq1 0 (fun w9 hSw=>cell_quiet hSw (HP4.out.cell (i:=0) rfl) NPH.out) ?_
    refine tq 1 ?_
    refine tq 2 ?_
    refine tq1 3 (fun w9 hSw=>cell_quiet hSw (HP4.out.cell (i:=0) rfl) NPH.out) ?_
    refine tq 4 ?_
    refine tq 5 ?_
    refine tq 6 ?_
    refine tq1 7 (fun w9 hSw=>cell_quiet hSw (HG.out.cell (i:=0) rfl) NGH.out) ?_
    refine tq 10 ?_ (hy:=by intro w9 hSw;have hmf:∀ (fn:Fn) (first cap:Array Value) (w:World),(Instr.makeFunc fn first cap).run Tryz.prog w = .ok (.func fn first cap) w:=fun _ _ _ _=>rfl;go_simp;try with_reducible rfl)
    refine rd1 8 (fun K hK=>?_)
    go_simp
    refine name_r HWd x.name (fun wp1 h3 h4=>?_)
    have HWwp1:=hd h3
    refine kq hK (hHeld.trans h4 (fun k hk=>.inl (by rw[List.mem_singleton] at hk;simp[hk]))) (fun hHeld=>?_)
    clear h3 h4
    have hz:¬ 9223372036854775807 < 6+x.name.length:=by omega
    refine tq 9 ?_
    rw[show (⟨List.toArray ([98,108,111,99,107,32]:Bytes)⟩:ByteArray)++⟨List.toArray x.name⟩=⟨(([98,108,111,99,107,32]:Bytes)++x.name).toArray⟩ from str2 _ _]
    obtain ⟨bn,h9⟩:∃ z,z=([98,108,111,99,107,32]:Bytes)++x.name:=⟨_,rfl⟩
    rw[← h9]
    have gbn:bn.length≤1006:=by rw[h9,List.length_append];show 6+x.name.length≤_;omega
    have Hbn:=hd h9
    clear h9 hz
    refine rd1 11 (fun K hK=>?_)
    have HSC:Hid (wr.heap.size≤wp1.heap.size):=hd (Nat.le_trans C4.out.size hHeld.size)
    have HHE:=hd hHeld
    go_simp
    refine open_w hT (hd (by decide)) HWwp1 bn (hd (by omega)) 40 (.inr (.inr rfl)) _ _ (x.rows.all Pr.rowOk) (x.rows.map Pr.rowL) (hd (fun v1 w1 X hX1 hX2=>?hdo)) (fun v9 wp2 h3 h4=>?_)
    case hdo=>exact rows_w hT HL HB0 (hd ((HQB.out.trans HHE.out (fun k hk=>.inr (HOB.out k hk))).trans hX2.chg (fun k hk=>.inr (HOB.out k hk)))) (hd hX1) x.rows ra rc _ (hd rfl) HRS (hd HZ.out.2.2) HZ.out.2.1 _ _ G PW (hd (hX2.chg.blk (HHE.out.blk HG.out NGH.out) NGH.out)) (hd (hX2.chg.blk (HHE.out.blk HP4.out NPH.out) NPH.out)) (hd ⟨NG,HNX.out.1⟩)
    refine kq hK (hHeld.trans h4.chg (fun k hk=>.inl hk)) (fun hHeld=>?_)
    have H3:=hd h3
    have H4:=hd h4
    clear h3 h4
    refine dq ?_
    have HH:=hd hHeld
    clear hHeld
    have HR5:Hid (Wr b v w v9 wp2):=hd (HR.out.trans ⟨(C4.out.mono (by simp)).trans HH.out (fun k hk=>.inl hk),fun k hk=>(H4.out.own k hk).imp id (fun h=>Nat.le_trans HSC.out h)⟩)
    have HP5:=hd (HH.out.blk HP4.out NPH.out)
    have HL5:=hd (HH.out.blk HL4.out NLH.out)
    go_wp2_with fail
    go_roundw
    case rel=>exact ⟨j+1,v9,vint (by omega),by omega,hd (by have h9:=H3.out;rw[Hbn.out] at h9;rw[HTK.out,List.all_append,List.all_cons,List.all_nil,Bool.and_true,Bool.not_and,← Bool.or_assoc,List.flatMap_append,Pr.puts_append,List.flatMap_singleton];rw[show Pr.blockOk x=(Pr.nameOk x.name && x.rows.all Pr.rowOk) from rfl,Bool.not_and,← Bool.or_assoc];exact h9),HR5,HP5,HL5⟩
    case measure=>simp[intN];omega
  have hjn:l.blocks.take j=l.blocks:=List.take_of_length_le (by rw[HN0.out];omega)
  rw[hjn] at HWJ
  have q1:¬ (j:Int) < (n0:Int):=by omega
  clear hjn
  obtain ⟨bad1,hb⟩:∃ q,q=(bad0 || !l.blocks.all Pr.blockOk):=⟨_,rfl⟩
  obtain ⟨out1,ho⟩:∃ q,q=Pr.puts out0 (l.blocks.flatMap Pr.blockL):=⟨_,rfl⟩
  rw[← hb,← ho] at HWJ
  have HBD1:=hd hb
  have HOU1:=hd ho
  clear hb ho
  have HW1:=HWJ
  have HR1:=HR
  have HP1:=HP
  have HLM1:=HLJ
  obtain ⟨v1,hv⟩:∃ z,z=vj:=⟨_,rfl⟩
  rw[← hv] at HW1 HR1
  clear hv HWJ HR HP HLJ
  have f1:wr.cell? ⟨LM,3,none⟩=some (.slice p1 n1 k1):=by have h9:=HLM1.out;rw[HLC.out] at h9;exact h9.cell (i:=3) rfl
  go_wp2_with fail
  clear f1
  go_loopw [37] (fun i wr=>∃ (j:Nat) (vj:Value),i = .int .i64 (j:Int)∧j≤n1∧Hid (Wst T b 2 (bad1 || !(l.areas.take j).all Pr.areaOk) (Pr.puts out1 ((l.areas.take j).map Pr.areaL)) vj wr)∧Hid (Wr b v w vj wr)∧Hid (Blk wr PW [.pointer (some ⟨b,0,none⟩)] 121)∧Hid (Blk wr LM LC 61)) (fun i _=>n1 - intN i)
  case atStart=>exact ⟨0,v1,rfl,Nat.zero_le _,hd (by simpa [Pr.puts] using HW1.out),HR1,HP1,HLM1⟩
  case round =>
   obtain ⟨j,vj,rfl,hj,HWJ,HR,HP,HLJ⟩:=hrel
   clear HW1 HR1 HP1 HLM1
   by_cases hlt:j < n1
   · skip
     obtain ⟨x,hr⟩:∃ x,l.areas[j]? = some x:=⟨l.areas[j]'(by rw[HN1.out];exact hlt),by simp⟩
     have HQR:Hid (Chg [] w0 wr):=hd (HR.out.seen HW.out HQ.out HB0.out)
     obtain ⟨g,off,cs,ha,hgl,hl,⟨hcs,i1,i2,i3,i4,i5,hnl⟩,hcell⟩:=HM1.out.elem hr
     subst ha
     have hcell:∀ (k:Nat) (c:Value),cs[k]? = some c→wr.cell? ⟨g,off+j*7+k,none⟩=some c:=fun k c h=>(World.cell?_of_block (HQR.out.block g hgl (by simp))).trans (hcell k c h)
     have HI:Hid ((Pr.I64 x.box.x∧Pr.I64 x.box.y∧Pr.I64 x.box.x2∧Pr.I64 x.box.y2)∧Pr.I64 x.holds):=hd ⟨⟨i1,i2,i3,i4⟩,i5⟩
     have bx:=HSL.out.2 x (List.mem_of_getElem? hr)
     clear i1 i2 i3 i4 i5 hnl
     subst hcs
     have c0:wr.cell? ⟨g,off+j*7,none⟩=some (.string ⟨x.name.toArray⟩):=hcell 0 _ rfl
     have c1:wr.cell? ⟨g,off+j*7+1,none⟩=some (.int .i64 x.box.x):=hcell 1 _ rfl
     have c2:wr.cell? ⟨g,off+j*7+2,none⟩=some (.int .i64 x.box.y):=hcell 2 _ rfl
     have c3:wr.cell? ⟨g,off+j*7+3,none⟩=some (.int .i64 x.box.x2):=hcell 3 _ rfl
     have c4:wr.cell? ⟨g,off+j*7+4,none⟩=some (.int .i64 x.box.y2):=hcell 4 _ rfl
     have c5:wr.cell? ⟨g,off+j*7+5,none⟩=some (.int .i64 x.holds):=hcell 5 _ rfl
     have c6:wr.cell? ⟨g,off+j*7+6,none⟩=some (.int .i64 x.at_):=hcell 6 _ rfl
     have htk:l.areas.take (j+1)=l.areas.take j++[x]:=by obtain ⟨hj2,rfl⟩:=List.getElem?_eq_some_iff.1 hr;exact List.take_succ_eq_append_getElem hj2
     have HTK:=hd htk
     have q1:(j:Int) < (n1:Int):=by omega
     have q0:(0:Int)≤(j:Int):=by omega
     clear hr hcell hl hgl htk
     go_upto_region 9 with (fail)
     obtain ⟨w4,hw4⟩:∃ W,W=wr.alloc (.cells #[.string ⟨x.name.toArray⟩,.int .i64 x.box.x,.int .i64 x.box.y,.int .i64 x.box.x2,.int .i64 x.box.y2,.int .i64 x.holds,.int .i64 x.at_] 56):=⟨_,rfl⟩
     rw[← hw4]
     obtain ⟨G,hG⟩:∃ X,X=wr.heap.size:=⟨_,rfl⟩
     rw[← hG]
     have HG:=newB hw4 hG
     have C4:=newC hw4
     have NG:G≠b:=by have:=HWJ.out.lt;omega
     clear hw4 hG c0 c1 c2 c3 c4 c5 c6
     have HP4:=hd (C4.out.blk HP.out (by simp))
     have HL4:=hd (C4.out.blk HLJ.out (by simp))
     have HWJ4:=hd (HWJ.out.quiet C4.out)
     have HQB:Hid (Chg [] w0 w4):=hd (HQR.out.trans C4.out (by simp))
     have HOB:Hid (∀ k ∈ b :: vj.ownBlock.toList,w0.heap.size≤k):=hd (by intro k hk;have h1:=HB0.out;rcases List.mem_cons.1 hk with rfl|hk;exact h1;rw[Option.mem_toList] at hk;have:=own_ge HWJ.out k hk;omega)
     have NPO:PW ∉ b :: vj.ownBlock.toList:=by simp only[List.mem_cons,Option.mem_toList,not_or];exact ⟨HNX.out.1,HWJ4.out.ne HP4.out (by decide)⟩
     have NGO:G ∉ b :: vj.ownBlock.toList:=by simp only[List.mem_cons,Option.mem_toList,not_or];exact ⟨NG,HWJ4.out.ne HG.out (by decide)⟩
     have NLO:LM ∉ b :: vj.ownBlock.toList:=by simp only[List.mem_cons,Option.mem_toList,not_or];exact ⟨HNX.out.2,HWJ4.out.ne HL4.out (by decide)⟩
     have NPH:=hd NPO
     have NGH:=hd NGO
     have NLH:=hd NLO
     clear NPO NGO NLO
     refine wp_region_held_drew (S:=fun W'=>Chg (b :: vj.ownBlock.toList) w4 W') (by kernel_rfl) (Chg.refl _ _).drew (fun hHeld=>?_)
     obtain ⟨wd,hwd⟩:∃ x,x=w4.drew:=⟨_,rfl⟩
     have CD:Hid (Chg [] w4 wd):=hd (by rw[hwd];exact (Chg.refl _ _).drew)
     rw[← hwd] at hHeld ⊢
     clear hwd
     have HWd:=hd (HWJ4.out.quiet CD.out)
     refine tq1 0 (fun w9 hSw=>cell_quiet hSw (HP4.out.cell (i:=0) rfl) NPH.out) ?_
     refine tq 1 ?_
     refine tq 2 ?_
     refine tq1 3 (fun w9 hSw=>cell_quiet hSw (HP4.out.cell (i:=0) rfl) NPH.out) ?_
     refine tq 4 ?_
     refine tq 5 ?_
     refine tq 6 ?_
     refine tq1 7 (fun w9 hSw=>cell_quiet hSw (HG.out.cell (i:=0) rfl) NGH.out) ?_
     refine tq1 10 (fun w9 hSw=>cell_quiet hSw (HP4.out.cell (i:=0) rfl) NPH.out) ?_
     refine tq 11 ?_
     refine tq 12 ?_ (hy:=by intro w9 hSw;have e1:=cell_quiet hSw (HG.out.cell (i:=1) rfl) NGH.out;have e2:=cell_quiet hSw (HG.out.cell (i:=2) rfl) NGH.out;have e3:=cell_quiet hSw (HG.out.cell (i:=3) rfl) NGH.out;have e4:=cell_quiet hSw (HG.out.cell (i:=4) rfl) NGH.out;go_simp;try with_reducible rfl)
     refine tq1 16 (fun w9 hSw=>cell_quiet hSw (HP4.out.cell (i:=0) rfl) NPH.out) ?_
     refine tq 17 ?_
     refine tq 18 ?_
     refine tq 19 ?_
     refine tq1 20 (fun w9 hSw=>cell_quiet hSw (HG.out.cell (i:=5) rfl) NGH.out) ?_
     refine rd2 8 21 (fun K hK=>?_) (fun K hK=>?_)
     · skip
       go_simp
       refine name_r HWd x.name (fun wqa1 h3 h4=>?_)
       have HWwqa1:=hd h3
       refine kq hK (hHeld.trans h4 (fun k hk=>.inl (by rw[List.mem_singleton] at hk;simp[hk]))) (fun hHeld=>?_)
       clear h3 h4
       have hz:¬ 9223372036854775807 < 5+x.name.length:=by omega
       refine tq 9 ?_
       rw[show (⟨List.toArray ([97,114,101,97,32]:Bytes)⟩:ByteArray)++⟨List.toArray x.name⟩=⟨(([97,114,101,97,32]:Bytes)++x.name).toArray⟩ from str2 _ _]
       obtain ⟨a1,h9⟩:∃ z,z=([97,114,101,97,32]:Bytes)++x.name:=⟨_,rfl⟩
       rw[← h9]
       have ga1:a1.length≤1005:=by rw[h9,List.length_append];show 5+x.name.length≤_;omega
       have Ha1:=hd h9
       clear h9 hz
       refine rd2 13 21 (fun K hK=>?_) (fun K hK=>?_)
       · skip
         go_simp
         refine box_r HL HB0 (hd ((HQB.out.trans hHeld (fun k hk=>.inr (HOB.out k hk))))) HWwqa1 x.box (hd HI.out.1) (fun wqaa2 h3 h4=>?_)
         have HWwqaa2:=hd h3
         refine kq hK (hHeld.trans h4 (fun k hk=>.inl (by rw[List.mem_singleton] at hk;simp[hk]))) (fun hHeld=>?_)
         clear h3 h4
         have gnb:(Pr.nums (Pr.boxN x.box)).length≤88:=Pr.nums_len (Pr.boxN x.box) (by have h:=HI.out.1;intro q hq;simp only[Pr.boxN,List.mem_cons,List.not_mem_nil,or_false] at hq;rcases hq with rfl|rfl|rfl|rfl;exact h.1;exact h.2.1;exact h.2.2.1;exact h.2.2.2)
         obtain ⟨nb,h9⟩:∃ z,z=Pr.nums (Pr.boxN x.box):=⟨_,rfl⟩
         rw[← h9] at gnb
         rw[← h9]
         have Hnb:=hd h9
         clear h9
         have hz:¬ 9223372036854775807 < a1.length+nb.length:=by omega
         refine tq 14 ?_
         rw[show (⟨List.toArray a1⟩:ByteArray)++⟨List.toArray nb⟩=⟨(a1++nb).toArray⟩ from str2 _ _]
         obtain ⟨a2,h9⟩:∃ z,z=a1++nb:=⟨_,rfl⟩
         rw[← h9]
         have ga2:a2.length≤1100:=by rw[h9,List.length_append];show a1.length+nb.length≤_;omega
         have Ha2:=hd h9
         clear h9 hz
         have hz:¬ 9223372036854775807 < a2.length+6:=by omega
         refine tq 15 ?_
         rw[show (⟨List.toArray a2⟩:ByteArray)++⟨List.toArray ([32,104,111,108,100,115]:Bytes)⟩=⟨(a2++([32,104,111,108,100,115]:Bytes)).toArray⟩ from str2 _ _]
         obtain ⟨a3,h9⟩:∃ z,z=a2++([32,104,111,108,100,115]:Bytes):=⟨_,rfl⟩
         rw[← h9]
         have ga3:a3.length≤1110:=by rw[h9,List.length_append];show a2.length+6≤_;omega
         have Ha3:=hd h9
         clear h9 hz
         refine rd1 21 (fun K hK=>?_)
         go_simp
         obtain ⟨wqaa3,hw⟩:∃ W,W=wqaa2.alloc (.cells #[.int .i64 x.holds] 3):=⟨_,rfl⟩
         rw[← hw]
         obtain ⟨X9,hX⟩:∃ X,X=wqaa2.heap.size:=⟨_,rfl⟩
         rw[← hX]
         have HX9:Hid (Blk wqaa3 X9 [.int .i64 x.holds] 3∧X9≠b):=hd ⟨by rw[hw,hX];exact Blk.new wqaa2 [.int .i64 x.holds] _,by have:=HWwqaa2.out.lt;omega⟩
         have Cw:=newC hw
         have HWwqaa3:=hd (HWwqaa2.out.quiet Cw.out)
         refine kq hK (hHeld.trans Cw.out (by simp)) (fun hHeld=>?_)
         clear hw hX
         clear Cw
         refine rd1 22 (fun K hK=>?_)
         go_simp
         refine numbers_r HL HB0 (hd ((HQB.out.trans hHeld (fun k hk=>.inr (HOB.out k hk))))) HWwqaa3 [x.holds] 1 ⟨rfl,by decide⟩ (by intro q hq;rw[List.mem_singleton] at hq;rw[hq];exact HI.out.2) HX9.out.1 HX9.out.2 (fun wqaa4 h3 h4=>?_)
         have HWwqaa4:=hd h3
         refine kq hK (hHeld.trans h4 (fun k hk=>.inl (by rw[List.mem_singleton] at hk;simp[hk]))) (fun hHeld=>?_)
         clear h3 h4
         have gnh:(Pr.nums [x.holds]).length≤22:=Pr.nums_len [x.holds] (by intro q hq;rw[List.mem_singleton] at hq;rw[hq];exact HI.out.2)
         obtain ⟨nh,h9⟩:∃ z,z=Pr.nums [x.holds]:=⟨_,rfl⟩
         rw[← h9] at gnh
         rw[← h9]
         have Hnh:=hd h9
         clear h9
         have hz:¬ 9223372036854775807 < a3.length+nh.length:=by omega
         refine tq 23 ?_
         rw[show (⟨List.toArray a3⟩:ByteArray)++⟨List.toArray nh⟩=⟨(a3++nh).toArray⟩ from str2 _ _]
         obtain ⟨a4,h9⟩:∃ z,z=a3++nh:=⟨_,rfl⟩
         rw[← h9]
         have ga4:a4.length≤1140:=by rw[h9,List.length_append];show a3.length+nh.length≤_;omega
         have Ha4:=hd h9
         clear h9 hz
         have hz:¬ 9223372036854775807 < a4.length+1:=by omega
         refine tq 24 ?_
         rw[show (⟨List.toArray a4⟩:ByteArray)++⟨List.toArray ([59]:Bytes)⟩=⟨(a4++([59]:Bytes)).toArray⟩ from str2 _ _]
         obtain ⟨a5,h9⟩:∃ z,z=a4++([59]:Bytes):=⟨_,rfl⟩
         rw[← h9]
         have ga5:a5.length≤1150:=by rw[h9,List.length_append];show a4.length+1≤_;omega
         have Ha5:=hd h9
         clear h9 hz
         refine rd1 25 (fun K hK=>?_)
         have HSC:Hid (wr.heap.size≤wqaa4.heap.size):=hd (Nat.le_trans C4.out.size hHeld.size)
         go_simp
         refine line_r hT (by decide) HWwqaa4 a5 (by omega) (fun v9 wqaa5 h3 h4=>?_)
         refine kq hK (hHeld.trans h4.chg (fun k hk=>.inl hk)) (fun hHeld=>?_)
         have H3:=hd h3
         have H4:=hd h4
         clear h3 h4
         refine dq ?_
         have HH:=hd hHeld
         clear hHeld
         have HR5:Hid (Wr b v w v9 wqaa5):=hd (HR.out.trans ⟨(C4.out.mono (by simp)).trans HH.out (fun k hk=>.inl hk),fun k hk=>(H4.out.own k hk).imp id (fun h=>Nat.le_trans HSC.out h)⟩)
         exact mPrX0
       go_simp
       obtain ⟨wqab2,hw⟩:∃ W,W=wqa1.alloc (.cells #[.int .i64 x.holds] 3):=⟨_,rfl⟩
       rw[← hw]
       obtain ⟨X9,hX⟩:∃ X,X=wqa1.heap.size:=⟨_,rfl⟩
       rw[← hX]
       have HX9:Hid (Blk wqab2 X9 [.int .i64 x.holds] 3∧X9≠b):=hd ⟨by rw[hw,hX];exact Blk.new wqa1 [.int .i64 x.holds] _,by have:=HWwqa1.out.lt;omega⟩
       have Cw:=newC hw
       have HWwqab2:=hd (HWwqa1.out.quiet Cw.out)
       refine kq hK (hHeld.trans Cw.out (by simp)) (fun hHeld=>?_)
       clear hw hX
       clear Cw
       refine rd1 13 (fun K hK=>?_)
       go_simp
       refine box_r HL HB0 (hd ((HQB.out.trans hHeld (fun k hk=>.inr (HOB.out k hk))))) HWwqab2 x.box (hd HI.out.1) (fun wqab3 h3 h4=>?_)
       have HX9:=hd (And.intro (h4.blk HX9.out.1 (by simp[HX9.out.2])) HX9.out.2)
       have HWwqab3:=hd h3
       refine kq hK (hHeld.trans h4 (fun k hk=>.inl (by rw[List.mem_singleton] at hk;simp[hk]))) (fun hHeld=>?_)
       clear h3 h4
       have gnb:(Pr.nums (Pr.boxN x.box)).length≤88:=Pr.nums_len (Pr.boxN x.box) (by have h:=HI.out.1;intro q hq;simp only[Pr.boxN,List.mem_cons,List.not_mem_nil,or_false] at hq;rcases hq with rfl|rfl|rfl|rfl;exact h.1;exact h.2.1;exact h.2.2.1;exact h.2.2.2)
       obtain ⟨nb,h9⟩:∃ z,z=Pr.nums (Pr.boxN x.box):=⟨_,rfl⟩
       rw[← h9] at gnb
       rw[← h9]
       have Hnb:=hd h9
       clear h9
       have hz:¬ 9223372036854775807 < a1.length+nb.length:=by omega
       refine tq 14 ?_
       rw[show (⟨List.toArray a1⟩:ByteArray)++⟨List.toArray nb⟩=⟨(a1++nb).toArray⟩ from str2 _ _]
       obtain ⟨a2,h9⟩:∃ z,z=a1++nb:=⟨_,rfl⟩
       rw[← h9]
       have ga2:a2.length≤1100:=by rw[h9,List.length_append];show a1.length+nb.length≤_;omega
       have Ha2:=hd h9
       clear h9 hz
       have hz:¬ 9223372036854775807 < a2.length+6:=by omega
       refine tq 15 ?_
       rw[show (⟨List.toArray a2⟩:ByteArray)++⟨List.toArray ([32,104,111,108,100,115]:Bytes)⟩=⟨(a2++([32,104,111,108,100,115]:Bytes)).toArray⟩ from str2 _ _]
       obtain ⟨a3,h9⟩:∃ z,z=a2++([32,104,111,108,100,115]:Bytes):=⟨_,rfl⟩
       rw[← h9]
       have ga3:a3.length≤1110:=by rw[h9,List.length_append];show a2.length+6≤_;omega
       have Ha3:=hd h9
       clear h9 hz
       refine rd1 22 (fun K hK=>?_)
       go_simp
       refine numbers_r HL HB0 (hd ((HQB.out.trans hHeld (fun k hk=>.inr (HOB.out k hk))))) HWwqab3 [x.holds] 1 ⟨rfl,by decide⟩ (by intro q hq;rw[List.mem_singleton] at hq;rw[hq];exact HI.out.2) HX9.out.1 HX9.out.2 (fun wqab4 h3 h4=>?_)
       have HWwqab4:=hd h3
       refine kq hK (hHeld.trans h4 (fun k hk=>.inl (by rw[List.mem_singleton] at hk;simp[hk]))) (fun hHeld=>?_)
       clear h3 h4
       have gnh:(Pr.nums [x.holds]).length≤22:=Pr.nums_len [x.holds] (by intro q hq;rw[List.mem_singleton] at hq;rw[hq];exact HI.out.2)
       obtain ⟨nh,h9⟩:∃ z,z=Pr.nums [x.holds]:=⟨_,rfl⟩
       rw[← h9] at gnh
       rw[← h9]
       have Hnh:=hd h9
       clear h9
       have hz:¬ 9223372036854775807 < a3.length+nh.length:=by omega
       refine tq 23 ?_
       rw[show (⟨List.toArray a3⟩:ByteArray)++⟨List.toArray nh⟩=⟨(a3++nh).toArray⟩ from str2 _ _]
       obtain ⟨a4,h9⟩:∃ z,z=a3++nh:=⟨_,rfl⟩
       rw[← h9]
       have ga4:a4.length≤1140:=by rw[h9,List.length_append];show a3.length+nh.length≤_;omega
       have Ha4:=hd h9
       clear h9 hz
       have hz:¬ 9223372036854775807 < a4.length+1:=by omega
       refine tq 24 ?_
       rw[show (⟨List.toArray a4⟩:ByteArray)++⟨List.toArray ([59]:Bytes)⟩=⟨(a4++([59]:Bytes)).toArray⟩ from str2 _ _]
       obtain ⟨a5,h9⟩:∃ z,z=a4++([59]:Bytes):=⟨_,rfl⟩
       rw[← h9]
       have ga5:a5.length≤1150:=by rw[h9,List.length_append];show a4.length+1≤_;omega
       have Ha5:=hd h9
       clear h9 hz
       refine rd1 25 (fun K hK=>?_)
       have HSC:Hid (wr.heap.size≤wqab4.heap.size):=hd (Nat.le_trans C4.out.size hHeld.size)
       go_simp
       refine line_r hT (by decide) HWwqab4 a5 (by omega) (fun v9 wqab5 h3 h4=>?_)
       refine kq hK (hHeld.trans h4.chg (fun k hk=>.inl hk)) (fun hHeld=>?_)
       have H3:=hd h3
       have H4:=hd h4
       clear h3 h4
       refine dq ?_
       have HH:=hd hHeld
       clear hHeld
       have HR5:Hid (Wr b v w v9 wqab5):=hd (HR.out.trans ⟨(C4.out.mono (by simp)).trans HH.out (fun k hk=>.inl hk),fun k hk=>(H4.out.own k hk).imp id (fun h=>Nat.le_trans HSC.out h)⟩)
       exact mPrX0
     go_simp
     obtain ⟨wqb1,hw⟩:∃ W,W=wd.alloc (.cells #[.int .i64 x.holds] 3):=⟨_,rfl⟩
     rw[← hw]
     obtain ⟨X9,hX⟩:∃ X,X=wd.heap.size:=⟨_,rfl⟩
     rw[← hX]
     have HX9:Hid (Blk wqb1 X9 [.int .i64 x.holds] 3∧X9≠b):=hd ⟨by rw[hw,hX];exact Blk.new wd [.int .i64 x.holds] _,by have:=HWd.out.lt;omega⟩
     have Cw:=newC hw
     have HWwqb1:=hd (HWd.out.quiet Cw.out)
     refine kq hK (hHeld.trans Cw.out (by simp)) (fun hHeld=>?_)
     clear hw hX
     clear Cw
     refine rd1 8 (fun K hK=>?_)
     go_simp
     refine name_r HWwqb1 x.name (fun wqb2 h3 h4=>?_)
     have HX9:=hd (And.intro (h4.blk HX9.out.1 (by simp[HX9.out.2])) HX9.out.2)
     have HWwqb2:=hd h3
     refine kq hK (hHeld.trans h4 (fun k hk=>.inl (by rw[List.mem_singleton] at hk;simp[hk]))) (fun hHeld=>?_)
     clear h3 h4
     have hz:¬ 9223372036854775807 < 5+x.name.length:=by omega
     refine tq 9 ?_
     rw[show (⟨List.toArray ([97,114,101,97,32]:Bytes)⟩:ByteArray)++⟨List.toArray x.name⟩=⟨(([97,114,101,97,32]:Bytes)++x.name).toArray⟩ from str2 _ _]
     obtain ⟨a1,h9⟩:∃ z,z=([97,114,101,97,32]:Bytes)++x.name:=⟨_,rfl⟩
     rw[← h9]
     have ga1:a1.length≤1005:=by rw[h9,List.length_append];show 5+x.name.length≤_;omega
     have Ha1:=hd h9
     clear h9 hz
     refine rd1 13 (fun K hK=>?_)
     go_simp
     refine box_r HL HB0 (hd ((HQB.out.trans hHeld (fun k hk=>.inr (HOB.out k hk))))) HWwqb2 x.box (hd HI.out.1) (fun wqb3 h3 h4=>?_)
     have HX9:=hd (And.intro (h4.blk HX9.out.1 (by simp[HX9.out.2])) HX9.out.2)
     have HWwqb3:=hd h3
     refine kq hK (hHeld.trans h4 (fun k hk=>.inl (by rw[List.mem_singleton] at hk;simp[hk]))) (fun hHeld=>?_)
     clear h3 h4
     have gnb:(Pr.nums (Pr.boxN x.box)).length≤88:=Pr.nums_len (Pr.boxN x.box) (by have h:=HI.out.1;intro q hq;simp only[Pr.boxN,List.mem_cons,List.not_mem_nil,or_false] at hq;rcases hq with rfl|rfl|rfl|rfl;exact h.1;exact h.2.1;exact h.2.2.1;exact h.2.2.2)
     obtain ⟨nb,h9⟩:∃ z,z=Pr.nums (Pr.boxN x.box):=⟨_,rfl⟩
     rw[← h9] at gnb
     rw[← h9]
     have Hnb:=hd h9
     clear h9
     have hz:¬ 9223372036854775807 < a1.length+nb.length:=by omega
     refine tq 14 ?_
     rw[show (⟨List.toArray a1⟩:ByteArray)++⟨List.toArray nb⟩=⟨(a1++nb).toArray⟩ from str2 _ _]
     obtain ⟨a2,h9⟩:∃ z,z=a1++nb:=⟨_,rfl⟩
     rw[← h9]
     have ga2:a2.length≤1100:=by rw[h9,List.length_append];show a1.length+nb.length≤_;omega
     have Ha2:=hd h9
     clear h9 hz
     have hz:¬ 9223372036854775807 < a2.length+6:=by omega
     refine tq 15 ?_
     rw[show (⟨List.toArray a2⟩:ByteArray)++⟨List.toArray ([32,104,111,108,100,115]:Bytes)⟩=⟨(a2++([32,104,111,108,100,115]:Bytes)).toArray⟩ from str2 _ _]
     obtain ⟨a3,h9⟩:∃ z,z=a2++([32,104,111,108,100,115]:Bytes):=⟨_,rfl⟩
     rw[← h9]
     have ga3:a3.length≤1110:=by rw[h9,List.length_append];show a2.length+6≤_;omega
     have Ha3:=hd h9
     clear h9 hz
     refine rd1 22 (fun K hK=>?_)
     go_simp
     refine numbers_r HL HB0 (hd ((HQB.out.trans hHeld (fun k hk=>.inr (HOB.out k hk))))) HWwqb3 [x.holds] 1 ⟨rfl,by decide⟩ (by intro q hq;rw[List.mem_singleton] at hq;rw[hq];exact HI.out.2) HX9.out.1 HX9.out.2 (fun wqb4 h3 h4=>?_)
     have HWwqb4:=hd h3
     refine kq hK (hHeld.trans h4 (fun k hk=>.inl (by rw[List.mem_singleton] at hk;simp[hk]))) (fun hHeld=>?_)
     clear h3 h4
     have gnh:(Pr.nums [x.holds]).length≤22:=Pr.nums_len [x.holds] (by intro q hq;rw[List.mem_singleton] at hq;rw[hq];exact HI.out.2)
     obtain ⟨nh,h9⟩:∃ z,z=Pr.nums [x.holds]:=⟨_,rfl⟩
     rw[← h9] at gnh
     rw[← h9]
     have Hnh:=hd h9
     clear h9
     have hz:¬ 9223372036854775807 < a3.length+nh.length:=by omega
     refine tq 23 ?_
     rw[show (⟨List.toArray a3⟩:ByteArray)++⟨List.toArray nh⟩=⟨(a3++nh).toArray⟩ from str2 _ _]
     obtain ⟨a4,h9⟩:∃ z,z=a3++nh:=⟨_,rfl⟩
     rw[← h9]
     have ga4:a4.length≤1140:=by rw[h9,List.length_append];show a3.length+nh.length≤_;omega
     have Ha4:=hd h9
     clear h9 hz
     have hz:¬ 9223372036854775807 < a4.length+1:=by omega
     refine tq 24 ?_
     rw[show (⟨List.toArray a4⟩:ByteArray)++⟨List.toArray ([59]:Bytes)⟩=⟨(a4++([59]:Bytes)).toArray⟩ from str2 _ _]
     obtain ⟨a5,h9⟩:∃ z,z=a4++([59]:Bytes):=⟨_,rfl⟩
     rw[← h9]
     have ga5:a5.length≤1150:=by rw[h9,List.length_append];show a4.length+1≤_;omega
     have Ha5:=hd h9
     clear h9 hz
     refine rd1 25 (fun K hK=>?_)
     have HSC:Hid (wr.heap.size≤wqb4.heap.size):=hd (Nat.le_trans C4.out.size hHeld.size)
     go_simp
     refine line_r hT (by decide) HWwqb4 a5 (by omega) (fun v9 wqb5 h3 h4=>?_)
     refine kq hK (hHeld.trans h4.chg (fun k hk=>.inl hk)) (fun hHeld=>?_)
     have H3:=hd h3
     have H4:=hd h4
     clear h3 h4
     refine dq ?_
     have HH:=hd hHeld
     clear hHeld
     have HR5:Hid (Wr b v w v9 wqb5):=hd (HR.out.trans ⟨(C4.out.mono (by simp)).trans HH.out (fun k hk=>.inl hk),fun k hk=>(H4.out.own k hk).imp id (fun h=>Nat.le_trans HSC.out h)⟩)
     exact mPrX0
   have hjn:l.areas.take j=l.areas:=List.take_of_length_le (by rw[HN1.out];omega)
   rw[hjn] at HWJ
   have q1:¬ (j:Int) < (n1:Int):=by omega
   clear hjn
   obtain ⟨bad2,hb⟩:∃ q,q=(bad1 || !l.areas.all Pr.areaOk):=⟨_,rfl⟩
   obtain ⟨out2,ho⟩:∃ q,q=Pr.puts out1 (l.areas.map Pr.areaL):=⟨_,rfl⟩
   rw[← hb,← ho] at HWJ
   have HBD2:=hd hb
   have HOU2:=hd ho
   clear hb ho
   have HW2:=HWJ
   have HR2:=HR
   have HP2:=HP
   have HLM2:=HLJ
   obtain ⟨v2,hv⟩:∃ z,z=vj:=⟨_,rfl⟩
   rw[← hv] at HW2 HR2
   clear hv HWJ HR HP HLJ
   have f2:wr.cell? ⟨LM,4,none⟩=some (.slice p2 n2 k2):=by have h9:=HLM2.out;rw[HLC.out] at h9;exact h9.cell (i:=4) rfl
   go_wp2_with fail
   clear f2
   go_loopw [71] (fun i wr=>∃ (j:Nat) (vj:Value),i = .int .i64 (j:Int)∧j≤n2∧Hid (Wst T b 2 (bad2 || !(l.aisles.take j).all Pr.boxOk) (Pr.puts out2 ((l.aisles.take j).map Pr.aisleL)) vj wr)∧Hid (Wr b v w vj wr)∧Hid (Blk wr PW [.pointer (some ⟨b,0,none⟩)] 121)∧Hid (Blk wr LM LC 61)) (fun i _=>n2 - intN i)
   case atStart=>exact ⟨0,v2,rfl,Nat.zero_le _,hd (by simpa [Pr.puts] using HW2.out),HR2,HP2,HLM2⟩
   case round =>
    obtain ⟨j,vj,rfl,hj,HWJ,HR,HP,HLJ⟩:=hrel
    clear HW2 HR2 HP2 HLM2
    by_cases hlt:j < n2
    · skip
      obtain ⟨x,hr⟩:∃ x,l.aisles[j]? = some x:=⟨l.aisles[j]'(by rw[HN2.out];exact hlt),by simp⟩
      have HQR:Hid (Chg [] w0 wr):=hd (HR.out.seen HW.out HQ.out HB0.out)
      obtain ⟨g,off,cs,ha,hgl,hl,⟨hcs,i1,i2,i3,i4⟩,hcell⟩:=HM2.out.elem hr
      subst ha
      have hcell:∀ (k:Nat) (c:Value),cs[k]? = some c→wr.cell? ⟨g,off+j*4+k,none⟩=some c:=fun k c h=>(World.cell?_of_block (HQR.out.block g hgl (by simp))).trans (hcell k c h)
      have HI:Hid (Pr.I64 x.x∧Pr.I64 x.y∧Pr.I64 x.x2∧Pr.I64 x.y2):=hd ⟨i1,i2,i3,i4⟩
      clear i1 i2 i3 i4
      subst hcs
      have c0:wr.cell? ⟨g,off+j*4,none⟩=some (.int .i64 x.x):=hcell 0 _ rfl
      have c1:wr.cell? ⟨g,off+j*4+1,none⟩=some (.int .i64 x.y):=hcell 1 _ rfl
      have c2:wr.cell? ⟨g,off+j*4+2,none⟩=some (.int .i64 x.x2):=hcell 2 _ rfl
      have c3:wr.cell? ⟨g,off+j*4+3,none⟩=some (.int .i64 x.y2):=hcell 3 _ rfl
      have htk:l.aisles.take (j+1)=l.aisles.take j++[x]:=by obtain ⟨hj2,rfl⟩:=List.getElem?_eq_some_iff.1 hr;exact List.take_succ_eq_append_getElem hj2
      have HTK:=hd htk
      have q1:(j:Int) < (n2:Int):=by omega
      have q0:(0:Int)≤(j:Int):=by omega
      clear hr hcell hl hgl htk
      go_upto_region 14 with (fail)
      obtain ⟨w4,hw4⟩:∃ W,W=wr.alloc (.cells #[.int .i64 x.x,.int .i64 x.y,.int .i64 x.x2,.int .i64 x.y2] 54):=⟨_,rfl⟩
      rw[← hw4]
      obtain ⟨G,hG⟩:∃ X,X=wr.heap.size:=⟨_,rfl⟩
      rw[← hG]
      have HG:=newB hw4 hG
      have C4:=newC hw4
      have NG:G≠b:=by have:=HWJ.out.lt;omega
      clear hw4 hG c0 c1 c2 c3
      have HP4:=hd (C4.out.blk HP.out (by simp))
      have HL4:=hd (C4.out.blk HLJ.out (by simp))
      have HWJ4:=hd (HWJ.out.quiet C4.out)
      have HQB:Hid (Chg [] w0 w4):=hd (HQR.out.trans C4.out (by simp))
      have HOB:Hid (∀ k ∈ b :: vj.ownBlock.toList,w0.heap.size≤k):=hd (by intro k hk;have h1:=HB0.out;rcases List.mem_cons.1 hk with rfl|hk;exact h1;rw[Option.mem_toList] at hk;have:=own_ge HWJ.out k hk;omega)
      have NPO:PW ∉ b :: vj.ownBlock.toList:=by simp only[List.mem_cons,Option.mem_toList,not_or];exact ⟨HNX.out.1,HWJ4.out.ne HP4.out (by decide)⟩
      have NGO:G ∉ b :: vj.ownBlock.toList:=by simp only[List.mem_cons,Option.mem_toList,not_or];exact ⟨NG,HWJ4.out.ne HG.out (by decide)⟩
      have NLO:LM ∉ b :: vj.ownBlock.toList:=by simp only[List.mem_cons,Option.mem_toList,not_or];exact ⟨HNX.out.2,HWJ4.out.ne HL4.out (by decide)⟩
      have NPH:=hd NPO
      have NGH:=hd NGO
      have NLH:=hd NLO
      clear NPO NGO NLO
      refine wp_region_held_drew (S:=fun W'=>Chg (b :: vj.ownBlock.toList) w4 W') (by kernel_rfl) (Chg.refl _ _).drew (fun hHeld=>?_)
      obtain ⟨wd,hwd⟩:∃ x,x=w4.drew:=⟨_,rfl⟩
      have CD:Hid (Chg [] w4 wd):=hd (by rw[hwd];exact (Chg.refl _ _).drew)
      rw[← hwd] at hHeld ⊢
      clear hwd
      have HWd:=hd (HWJ4.out.quiet CD.out)
      refine tq1 0 (fun w9 hSw=>cell_quiet hSw (HP4.out.cell (i:=0) rfl) NPH.out) ?_
      refine tq 1 ?_
      refine tq 2 ?_
      refine tq1 3 (fun w9 hSw=>cell_quiet hSw (HP4.out.cell (i:=0) rfl) NPH.out) ?_
      refine tq 4 ?_ (hy:=by intro w9 hSw;have e0:=cell_quiet hSw (HG.out.cell (i:=0) rfl) NGH.out;have e1:=cell_quiet hSw (HG.out.cell (i:=1) rfl) NGH.out;have e2:=cell_quiet hSw (HG.out.cell (i:=2) rfl) NGH.out;have e3:=cell_quiet hSw (HG.out.cell (i:=3) rfl) NGH.out;go_simp;try with_reducible rfl)
      refine rd1 5 (fun K hK=>?_)
      go_simp
      refine box_r HL HB0 (hd ((HQB.out.trans hHeld (fun k hk=>.inr (HOB.out k hk))))) HWd x (hd HI.out) (fun wr1 h3 h4=>?_)
      have HWwr1:=hd h3
      refine kq hK (hHeld.trans h4 (fun k hk=>.inl (by rw[List.mem_singleton] at hk;simp[hk]))) (fun hHeld=>?_)
      clear h3 h4
      have gnb:(Pr.nums (Pr.boxN x)).length≤88:=Pr.nums_len (Pr.boxN x) (by have h:=HI.out;intro q hq;simp only[Pr.boxN,List.mem_cons,List.not_mem_nil,or_false] at hq;rcases hq with rfl|rfl|rfl|rfl;exact h.1;exact h.2.1;exact h.2.2.1;exact h.2.2.2)
      obtain ⟨nb,h9⟩:∃ z,z=Pr.nums (Pr.boxN x):=⟨_,rfl⟩
      rw[← h9] at gnb
      rw[← h9]
      have Hnb:=hd h9
      clear h9
      have hz:¬ 9223372036854775807 < 5+nb.length:=by omega
      refine tq 6 ?_
      rw[show (⟨List.toArray ([97,105,115,108,101]:Bytes)⟩:ByteArray)++⟨List.toArray nb⟩=⟨(([97,105,115,108,101]:Bytes)++nb).toArray⟩ from str2 _ _]
      obtain ⟨a1,h9⟩:∃ z,z=([97,105,115,108,101]:Bytes)++nb:=⟨_,rfl⟩
      rw[← h9]
      have ga1:a1.length≤100:=by rw[h9,List.length_append];show 5+nb.length≤_;omega
      have Ha1:=hd h9
      clear h9 hz
      have hz:¬ 9223372036854775807 < a1.length+1:=by omega
      refine tq 7 ?_
      rw[show (⟨List.toArray a1⟩:ByteArray)++⟨List.toArray ([59]:Bytes)⟩=⟨(a1++([59]:Bytes)).toArray⟩ from str2 _ _]
      obtain ⟨a2,h9⟩:∃ z,z=a1++([59]:Bytes):=⟨_,rfl⟩
      rw[← h9]
      have ga2:a2.length≤110:=by rw[h9,List.length_append];show a1.length+1≤_;omega
      have Ha2:=hd h9
      clear h9 hz
      refine rd1 8 (fun K hK=>?_)
      have HSC:Hid (wr.heap.size≤wr1.heap.size):=hd (Nat.le_trans C4.out.size hHeld.size)
      go_simp
      refine line_r hT (by decide) HWwr1 a2 (by omega) (fun v9 wr2 h3 h4=>?_)
      refine kq hK (hHeld.trans h4.chg (fun k hk=>.inl hk)) (fun hHeld=>?_)
      have H3:=hd h3
      have H4:=hd h4
      clear h3 h4
      refine dq ?_
      have HH:=hd hHeld
      clear hHeld
      have HR5:Hid (Wr b v w v9 wr2):=hd (HR.out.trans ⟨(C4.out.mono (by simp)).trans HH.out (fun k hk=>.inl hk),fun k hk=>(H4.out.own k hk).imp id (fun h=>Nat.le_trans HSC.out h)⟩)
      exact mPrX1
    have hjn:l.aisles.take j=l.aisles:=List.take_of_length_le (by rw[HN2.out];omega)
    rw[hjn] at HWJ
    have q1:¬ (j:Int) < (n2:Int):=by omega
    clear hjn
    obtain ⟨bad3,hb⟩:∃ q,q=(bad2 || !l.aisles.all Pr.boxOk):=⟨_,rfl⟩
    obtain ⟨out3,ho⟩:∃ q,q=Pr.puts out2 (l.aisles.map Pr.aisleL):=⟨_,rfl⟩
    rw[← hb,← ho] at HWJ
    have HBD3:=hd hb
    have HOU3:=hd ho
    clear hb ho
    have HW3:=HWJ
    have HR3:=HR
    have HP3:=HP
    have HLM3:=HLJ
    obtain ⟨v3,hv⟩:∃ z,z=vj:=⟨_,rfl⟩
    rw[← hv] at HW3 HR3
    clear hv HWJ HR HP HLJ
    have f3:wr.cell? ⟨LM,5,none⟩=some (.slice p3 n3 k3):=by have h9:=HLM3.out;rw[HLC.out] at h9;exact h9.cell (i:=5) rfl
    go_wp2_with fail
    clear f3
    go_loopw [88] (fun i wr=>∃ (j:Nat) (vj:Value),i = .int .i64 (j:Int)∧j≤n3∧Hid (Wst T b 2 (bad3 || !(l.pillars.take j).all Pr.boxOk) (Pr.puts out3 ((l.pillars.take j).map Pr.pillarL)) vj wr)∧Hid (Wr b v w vj wr)∧Hid (Blk wr PW [.pointer (some ⟨b,0,none⟩)] 121)∧Hid (Blk wr LM LC 61)) (fun i _=>n3 - intN i)
    case atStart=>exact ⟨0,v3,rfl,Nat.zero_le _,hd (by simpa [Pr.puts] using HW3.out),HR3,HP3,HLM3⟩
    case round =>
     obtain ⟨j,vj,rfl,hj,HWJ,HR,HP,HLJ⟩:=hrel
     clear HW3 HR3 HP3 HLM3
     by_cases hlt:j < n3
     · skip
       obtain ⟨x,hr⟩:∃ x,l.pillars[j]? = some x:=⟨l.pillars[j]'(by rw[HN3.out];exact hlt),by simp⟩
       have HQR:Hid (Chg [] w0 wr):=hd (HR.out.seen HW.out HQ.out HB0.out)
       obtain ⟨g,off,cs,ha,hgl,hl,⟨hcs,i1,i2,i3,i4⟩,hcell⟩:=HM3.out.elem hr
       subst ha
       have hcell:∀ (k:Nat) (c:Value),cs[k]? = some c→wr.cell? ⟨g,off+j*4+k,none⟩=some c:=fun k c h=>(World.cell?_of_block (HQR.out.block g hgl (by simp))).trans (hcell k c h)
       have HI:Hid (Pr.I64 x.x∧Pr.I64 x.y∧Pr.I64 x.x2∧Pr.I64 x.y2):=hd ⟨i1,i2,i3,i4⟩
       clear i1 i2 i3 i4
       subst hcs
       have c0:wr.cell? ⟨g,off+j*4,none⟩=some (.int .i64 x.x):=hcell 0 _ rfl
       have c1:wr.cell? ⟨g,off+j*4+1,none⟩=some (.int .i64 x.y):=hcell 1 _ rfl
       have c2:wr.cell? ⟨g,off+j*4+2,none⟩=some (.int .i64 x.x2):=hcell 2 _ rfl
       have c3:wr.cell? ⟨g,off+j*4+3,none⟩=some (.int .i64 x.y2):=hcell 3 _ rfl
       have htk:l.pillars.take (j+1)=l.pillars.take j++[x]:=by obtain ⟨hj2,rfl⟩:=List.getElem?_eq_some_iff.1 hr;exact List.take_succ_eq_append_getElem hj2
       have HTK:=hd htk
       have q1:(j:Int) < (n3:Int):=by omega
       have q0:(0:Int)≤(j:Int):=by omega
       clear hr hcell hl hgl htk
       go_upto_region 19 with (fail)
       obtain ⟨w4,hw4⟩:∃ W,W=wr.alloc (.cells #[.int .i64 x.x,.int .i64 x.y,.int .i64 x.x2,.int .i64 x.y2] 54):=⟨_,rfl⟩
       rw[← hw4]
       obtain ⟨G,hG⟩:∃ X,X=wr.heap.size:=⟨_,rfl⟩
       rw[← hG]
       have HG:=newB hw4 hG
       have C4:=newC hw4
       have NG:G≠b:=by have:=HWJ.out.lt;omega
       clear hw4 hG c0 c1 c2 c3
       have HP4:=hd (C4.out.blk HP.out (by simp))
       have HL4:=hd (C4.out.blk HLJ.out (by simp))
       have HWJ4:=hd (HWJ.out.quiet C4.out)
       have HQB:Hid (Chg [] w0 w4):=hd (HQR.out.trans C4.out (by simp))
       have HOB:Hid (∀ k ∈ b :: vj.ownBlock.toList,w0.heap.size≤k):=hd (by intro k hk;have h1:=HB0.out;rcases List.mem_cons.1 hk with rfl|hk;exact h1;rw[Option.mem_toList] at hk;have:=own_ge HWJ.out k hk;omega)
       have NPO:PW ∉ b :: vj.ownBlock.toList:=by simp only[List.mem_cons,Option.mem_toList,not_or];exact ⟨HNX.out.1,HWJ4.out.ne HP4.out (by decide)⟩
       have NGO:G ∉ b :: vj.ownBlock.toList:=by simp only[List.mem_cons,Option.mem_toList,not_or];exact ⟨NG,HWJ4.out.ne HG.out (by decide)⟩
       have NLO:LM ∉ b :: vj.ownBlock.toList:=by simp only[List.mem_cons,Option.mem_toList,not_or];exact ⟨HNX.out.2,HWJ4.out.ne HL4.out (by decide)⟩
       have NPH:=hd NPO
       have NGH:=hd NGO
       have NLH:=hd NLO
       clear NPO NGO NLO
       refine wp_region_held_drew (S:=fun W'=>Chg (b :: vj.ownBlock.toList) w4 W') (by kernel_rfl) (Chg.refl _ _).drew (fun hHeld=>?_)
       obtain ⟨wd,hwd⟩:∃ x,x=w4.drew:=⟨_,rfl⟩
       have CD:Hid (Chg [] w4 wd):=hd (by rw[hwd];exact (Chg.refl _ _).drew)
       rw[← hwd] at hHeld ⊢
       clear hwd
       have HWd:=hd (HWJ4.out.quiet CD.out)
       refine tq1 0 (fun w9 hSw=>cell_quiet hSw (HP4.out.cell (i:=0) rfl) NPH.out) ?_
       refine tq 1 ?_
       refine tq 2 ?_
       refine tq1 3 (fun w9 hSw=>cell_quiet hSw (HP4.out.cell (i:=0) rfl) NPH.out) ?_
       refine tq 4 ?_ (hy:=by intro w9 hSw;have e0:=cell_quiet hSw (HG.out.cell (i:=0) rfl) NGH.out;have e1:=cell_quiet hSw (HG.out.cell (i:=1) rfl) NGH.out;have e2:=cell_quiet hSw (HG.out.cell (i:=2) rfl) NGH.out;have e3:=cell_quiet hSw (HG.out.cell (i:=3) rfl) NGH.out;go_simp;try with_reducible rfl)
       refine rd1 5 (fun K hK=>?_)
       go_simp
       refine box_r HL HB0 (hd ((HQB.out.trans hHeld (fun k hk=>.inr (HOB.out k hk))))) HWd x (hd HI.out) (fun ws1 h3 h4=>?_)
       have HWws1:=hd h3
       refine kq hK (hHeld.trans h4 (fun k hk=>.inl (by rw[List.mem_singleton] at hk;simp[hk]))) (fun hHeld=>?_)
       clear h3 h4
       have gnb:(Pr.nums (Pr.boxN x)).length≤88:=Pr.nums_len (Pr.boxN x) (by have h:=HI.out;intro q hq;simp only[Pr.boxN,List.mem_cons,List.not_mem_nil,or_false] at hq;rcases hq with rfl|rfl|rfl|rfl;exact h.1;exact h.2.1;exact h.2.2.1;exact h.2.2.2)
       obtain ⟨nb,h9⟩:∃ z,z=Pr.nums (Pr.boxN x):=⟨_,rfl⟩
       rw[← h9] at gnb
       rw[← h9]
       have Hnb:=hd h9
       clear h9
       have hz:¬ 9223372036854775807 < 6+nb.length:=by omega
       refine tq 6 ?_
       rw[show (⟨List.toArray ([112,105,108,108,97,114]:Bytes)⟩:ByteArray)++⟨List.toArray nb⟩=⟨(([112,105,108,108,97,114]:Bytes)++nb).toArray⟩ from str2 _ _]
       obtain ⟨a1,h9⟩:∃ z,z=([112,105,108,108,97,114]:Bytes)++nb:=⟨_,rfl⟩
       rw[← h9]
       have ga1:a1.length≤100:=by rw[h9,List.length_append];show 6+nb.length≤_;omega
       have Ha1:=hd h9
       clear h9 hz
       have hz:¬ 9223372036854775807 < a1.length+1:=by omega
       refine tq 7 ?_
       rw[show (⟨List.toArray a1⟩:ByteArray)++⟨List.toArray ([59]:Bytes)⟩=⟨(a1++([59]:Bytes)).toArray⟩ from str2 _ _]
       obtain ⟨a2,h9⟩:∃ z,z=a1++([59]:Bytes):=⟨_,rfl⟩
       rw[← h9]
       have ga2:a2.length≤110:=by rw[h9,List.length_append];show a1.length+1≤_;omega
       have Ha2:=hd h9
       clear h9 hz
       refine rd1 8 (fun K hK=>?_)
       have HSC:Hid (wr.heap.size≤ws1.heap.size):=hd (Nat.le_trans C4.out.size hHeld.size)
       go_simp
       refine line_r hT (by decide) HWws1 a2 (by omega) (fun v9 ws2 h3 h4=>?_)
       refine kq hK (hHeld.trans h4.chg (fun k hk=>.inl hk)) (fun hHeld=>?_)
       have H3:=hd h3
       have H4:=hd h4
       clear h3 h4
       refine dq ?_
       have HH:=hd hHeld
       clear hHeld
       have HR5:Hid (Wr b v w v9 ws2):=hd (HR.out.trans ⟨(C4.out.mono (by simp)).trans HH.out (fun k hk=>.inl hk),fun k hk=>(H4.out.own k hk).imp id (fun h=>Nat.le_trans HSC.out h)⟩)
       exact mPrX1
     have hjn:l.pillars.take j=l.pillars:=List.take_of_length_le (by rw[HN3.out];omega)
     rw[hjn] at HWJ
     have q1:¬ (j:Int) < (n3:Int):=by omega
     clear hjn
     obtain ⟨bad4,hb⟩:∃ q,q=(bad3 || !l.pillars.all Pr.boxOk):=⟨_,rfl⟩
     obtain ⟨out4,ho⟩:∃ q,q=Pr.puts out3 (l.pillars.map Pr.pillarL):=⟨_,rfl⟩
     rw[← hb,← ho] at HWJ
     have HBD4:=hd hb
     have HOU4:=hd ho
     clear hb ho
     have HW4:=HWJ
     have HR4:=HR
     have HP4:=HP
     have HLM4:=HLJ
     obtain ⟨v4,hv⟩:∃ z,z=vj:=⟨_,rfl⟩
     rw[← hv] at HW4 HR4
     clear hv HWJ HR HP HLJ
     have f4:wr.cell? ⟨LM,6,none⟩=some (.slice p4 n4 k4):=by have h9:=HLM4.out;rw[HLC.out] at h9;exact h9.cell (i:=6) rfl
     go_wp2_with fail
     clear f4
     go_loopw [105] (fun i wr=>∃ (j:Nat) (vj:Value),i = .int .i64 (j:Int)∧j≤n4∧Hid (Wst T b 2 (bad4 || !(l.doors.take j).all Pr.doorOk) (Pr.puts out4 ((l.doors.take j).map Pr.doorL)) vj wr)∧Hid (Wr b v w vj wr)∧Hid (Blk wr PW [.pointer (some ⟨b,0,none⟩)] 121)∧Hid (Blk wr LM LC 61)) (fun i _=>n4 - intN i)
     case atStart=>exact ⟨0,v4,rfl,Nat.zero_le _,hd (by simpa [Pr.puts] using HW4.out),HR4,HP4,HLM4⟩
     case round =>
      obtain ⟨j,vj,rfl,hj,HWJ,HR,HP,HLJ⟩:=hrel
      clear HW4 HR4 HP4 HLM4
      by_cases hlt:j < n4
      · skip
        obtain ⟨x,hr⟩:∃ x,l.doors[j]? = some x:=⟨l.doors[j]'(by rw[HN4.out];exact hlt),by simp⟩
        have HQR:Hid (Chg [] w0 wr):=hd (HR.out.seen HW.out HQ.out HB0.out)
        obtain ⟨g,off,cs,ha,hgl,hl,⟨hcs,i1,i2⟩,hcell⟩:=HM4.out.elem hr
        subst ha
        have hcell:∀ (k:Nat) (c:Value),cs[k]? = some c→wr.cell? ⟨g,off+j*2+k,none⟩=some c:=fun k c h=>(World.cell?_of_block (HQR.out.block g hgl (by simp))).trans (hcell k c h)
        have HI:Hid (Pr.I64 x.1∧Pr.I64 x.2):=hd ⟨i1,i2⟩
        clear i1 i2
        subst hcs
        have c0:wr.cell? ⟨g,off+j*2,none⟩=some (.int .i64 x.1):=hcell 0 _ rfl
        have c1:wr.cell? ⟨g,off+j*2+1,none⟩=some (.int .i64 x.2):=hcell 1 _ rfl
        have htk:l.doors.take (j+1)=l.doors.take j++[x]:=by obtain ⟨hj2,rfl⟩:=List.getElem?_eq_some_iff.1 hr;exact List.take_succ_eq_append_getElem hj2
        have HTK:=hd htk
        have q1:(j:Int) < (n4:Int):=by omega
        have q0:(0:Int)≤(j:Int):=by omega
        clear hr hcell hl hgl htk
        go_upto_region 24 with (fail)
        obtain ⟨w4,hw4⟩:∃ W,W=wr.alloc (.cells #[.int .i64 x.1,.int .i64 x.2] 23):=⟨_,rfl⟩
        rw[← hw4]
        obtain ⟨G,hG⟩:∃ X,X=wr.heap.size:=⟨_,rfl⟩
        rw[← hG]
        have HG:=newB hw4 hG
        have C4:=newC hw4
        have NG:G≠b:=by have:=HWJ.out.lt;omega
        clear hw4 hG c0 c1
        have HP4:=hd (C4.out.blk HP.out (by simp))
        have HL4:=hd (C4.out.blk HLJ.out (by simp))
        have HWJ4:=hd (HWJ.out.quiet C4.out)
        have HQB:Hid (Chg [] w0 w4):=hd (HQR.out.trans C4.out (by simp))
        have HOB:Hid (∀ k ∈ b :: vj.ownBlock.toList,w0.heap.size≤k):=hd (by intro k hk;have h1:=HB0.out;rcases List.mem_cons.1 hk with rfl|hk;exact h1;rw[Option.mem_toList] at hk;have:=own_ge HWJ.out k hk;omega)
        have NPO:PW ∉ b :: vj.ownBlock.toList:=by simp only[List.mem_cons,Option.mem_toList,not_or];exact ⟨HNX.out.1,HWJ4.out.ne HP4.out (by decide)⟩
        have NGO:G ∉ b :: vj.ownBlock.toList:=by simp only[List.mem_cons,Option.mem_toList,not_or];exact ⟨NG,HWJ4.out.ne HG.out (by decide)⟩
        have NLO:LM ∉ b :: vj.ownBlock.toList:=by simp only[List.mem_cons,Option.mem_toList,not_or];exact ⟨HNX.out.2,HWJ4.out.ne HL4.out (by decide)⟩
        have NPH:=hd NPO
        have NGH:=hd NGO
        have NLH:=hd NLO
        clear NPO NGO NLO
        refine wp_region_held_drew (S:=fun W'=>Chg (b :: vj.ownBlock.toList) w4 W') (by kernel_rfl) (Chg.refl _ _).drew (fun hHeld=>?_)
        obtain ⟨wd,hwd⟩:∃ x,x=w4.drew:=⟨_,rfl⟩
        have CD:Hid (Chg [] w4 wd):=hd (by rw[hwd];exact (Chg.refl _ _).drew)
        rw[← hwd] at hHeld ⊢
        clear hwd
        have HWd:=hd (HWJ4.out.quiet CD.out)
        refine tq1 0 (fun w9 hSw=>cell_quiet hSw (HP4.out.cell (i:=0) rfl) NPH.out) ?_
        refine tq 1 ?_
        refine tq 2 ?_
        refine tq1 3 (fun w9 hSw=>cell_quiet hSw (HP4.out.cell (i:=0) rfl) NPH.out) ?_
        refine tq 4 ?_
        refine tq 5 ?_
        refine tq 6 ?_
        refine tq1 7 (fun w9 hSw=>cell_quiet hSw (HG.out.cell (i:=0) rfl) NGH.out) ?_
        refine tq 8 ?_
        refine tq1 9 (fun w9 hSw=>cell_quiet hSw (HG.out.cell (i:=1) rfl) NGH.out) ?_
        refine rd1 10 (fun K hK=>?_)
        go_simp
        obtain ⟨wt1,hw⟩:∃ W,W=wd.alloc (.cells #[.int .i64 x.1,.int .i64 x.2] 3):=⟨_,rfl⟩
        rw[← hw]
        obtain ⟨X9,hX⟩:∃ X,X=wd.heap.size:=⟨_,rfl⟩
        rw[← hX]
        have HX9:Hid (Blk wt1 X9 [.int .i64 x.1,.int .i64 x.2] 3∧X9≠b):=hd ⟨by rw[hw,hX];exact Blk.new wd [.int .i64 x.1,.int .i64 x.2] _,by have:=HWd.out.lt;omega⟩
        have Cw:=newC hw
        have HWwt1:=hd (HWd.out.quiet Cw.out)
        refine kq hK (hHeld.trans Cw.out (by simp)) (fun hHeld=>?_)
        clear hw hX
        clear Cw
        refine rd1 11 (fun K hK=>?_)
        go_simp
        refine numbers_r HL HB0 (hd ((HQB.out.trans hHeld (fun k hk=>.inr (HOB.out k hk))))) HWwt1 [x.1,x.2] 2 ⟨rfl,by decide⟩ (by intro q hq;simp only[List.mem_cons,List.not_mem_nil,or_false] at hq;rcases hq with rfl|rfl;exact HI.out.1;exact HI.out.2) HX9.out.1 HX9.out.2 (fun wt2 h3 h4=>?_)
        have HWwt2:=hd h3
        refine kq hK (hHeld.trans h4 (fun k hk=>.inl (by rw[List.mem_singleton] at hk;simp[hk]))) (fun hHeld=>?_)
        clear h3 h4
        have gnb:(Pr.nums [x.1,x.2]).length≤44:=Pr.nums_len [x.1,x.2] (by intro q hq;simp only[List.mem_cons,List.not_mem_nil,or_false] at hq;rcases hq with rfl|rfl;exact HI.out.1;exact HI.out.2)
        obtain ⟨nb,h9⟩:∃ z,z=Pr.nums [x.1,x.2]:=⟨_,rfl⟩
        rw[← h9] at gnb
        rw[← h9]
        have Hnb:=hd h9
        clear h9
        have hz:¬ 9223372036854775807 < 4+nb.length:=by omega
        refine tq 12 ?_
        rw[show (⟨List.toArray ([100,111,111,114]:Bytes)⟩:ByteArray)++⟨List.toArray nb⟩=⟨(([100,111,111,114]:Bytes)++nb).toArray⟩ from str2 _ _]
        obtain ⟨a1,h9⟩:∃ z,z=([100,111,111,114]:Bytes)++nb:=⟨_,rfl⟩
        rw[← h9]
        have ga1:a1.length≤100:=by rw[h9,List.length_append];show 4+nb.length≤_;omega
        have Ha1:=hd h9
        clear h9 hz
        have hz:¬ 9223372036854775807 < a1.length+1:=by omega
        refine tq 13 ?_
        rw[show (⟨List.toArray a1⟩:ByteArray)++⟨List.toArray ([59]:Bytes)⟩=⟨(a1++([59]:Bytes)).toArray⟩ from str2 _ _]
        obtain ⟨a2,h9⟩:∃ z,z=a1++([59]:Bytes):=⟨_,rfl⟩
        rw[← h9]
        have ga2:a2.length≤110:=by rw[h9,List.length_append];show a1.length+1≤_;omega
        have Ha2:=hd h9
        clear h9 hz
        refine rd1 14 (fun K hK=>?_)
        have HSC:Hid (wr.heap.size≤wt2.heap.size):=hd (Nat.le_trans C4.out.size hHeld.size)
        go_simp
        refine line_r hT (by decide) HWwt2 a2 (by omega) (fun v9 wt3 h3 h4=>?_)
        refine kq hK (hHeld.trans h4.chg (fun k hk=>.inl hk)) (fun hHeld=>?_)
        have H3:=hd h3
        have H4:=hd h4
        clear h3 h4
        refine dq ?_
        have HH:=hd hHeld
        clear hHeld
        have HR5:Hid (Wr b v w v9 wt3):=hd (HR.out.trans ⟨(C4.out.mono (by simp)).trans HH.out (fun k hk=>.inl hk),fun k hk=>(H4.out.own k hk).imp id (fun h=>Nat.le_trans HSC.out h)⟩)
        exact mPrX1
      have hjn:l.doors.take j=l.doors:=List.take_of_length_le (by rw[HN4.out];omega)
      rw[hjn] at HWJ
      have q1:¬ (j:Int) < (n4:Int):=by omega
      clear hjn
      obtain ⟨bad5,hb⟩:∃ q,q=(bad4 || !l.doors.all Pr.doorOk):=⟨_,rfl⟩
      obtain ⟨out5,ho⟩:∃ q,q=Pr.puts out4 (l.doors.map Pr.doorL):=⟨_,rfl⟩
      rw[← hb,← ho] at HWJ
      have HBD5:=hd hb
      have HOU5:=hd ho
      clear hb ho
      go_wp2_with fail
      go_end0
      refine HRR.out vj wr ?_ HR.out
      have h9:=HWJ.out
      rw[HBD5.out,HBD4.out,HBD3.out,HBD2.out,HBD1.out,HBD0.out,HOU5.out,HOU4.out,HOU3.out,HOU2.out,HOU1.out,HOU0.out,← Pr.puts_append,← Pr.puts_append,← Pr.puts_append,← Pr.puts_append] at h9
      rw[show (bad || !Pr.innerOk l)=((((bad || !l.blocks.all Pr.blockOk) || !l.areas.all Pr.areaOk) || !l.aisles.all Pr.boxOk) || !l.pillars.all Pr.boxOk || !l.doors.all Pr.doorOk) by simp only[Pr.innerOk,Bool.not_and,Bool.or_assoc]]
      try simp only[List.append_assoc] at h9
      exact h9
end Go.Proofs.YtglepipfdmphhaaGreatDoor
