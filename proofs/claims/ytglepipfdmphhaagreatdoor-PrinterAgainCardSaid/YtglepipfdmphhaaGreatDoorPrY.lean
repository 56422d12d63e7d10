/-
 Printer, layer 13: halls.
-/
import Derived.Test.YtglepipfdmphhaaGreatDoorPrTk
import Derived.Test.YtglepipfdmphhaaGreatDoorPrX
import Derived.Test.YtglepipfdmphhaaGreatDoorPrL
set_option maxRecDepth 100000
set_option maxHeartbeats 40000000
namespace Go.Proofs.YtglepipfdmphhaaGreatDoor
set_option linter.unusedVariables false
set_option linter.unusedSimpArgs false
open Go Go.RowKit Go.Shelf
attribute [local irreducible] Go.wpStill
def SzL (l:Pr.Lv):Prop:=(l.name.length≤1000∧l.blocks.length≤1000000∧l.areas.length≤1000000∧l.aisles.length≤1000000∧l.pillars.length≤1000000∧l.doors.length≤1000000)∧(∀ x ∈ l.blocks,x.name.length≤1000∧x.rows.length≤1000000∧∀ r ∈ x.rows,r.name.length≤1000∧r.marks.length≤9000)∧∀ x ∈ l.areas,x.name.length≤1000
theorem lev_w {T:TypeId} (hT:Bty T 2) {w0 w1:World} (HL:Hid (Laid w0)) {b:Nat} (HB0:Hid (w0.heap.size≤b)) (HQ:Hid (Chg [] w0 w1)) {bad:Bool} {out:Bytes} {v:Value} (HW:Hid (Wst T b 2 bad out v w1)) (l:Pr.Lv) (p0 p1 p2 p3 p4:Option Addr) (k0 k1 k2 k3 k4:Nat)
 (HM:Hid (RdS 3 Pr.RBl w0 (.slice p0 l.blocks.length k0) l.blocks∧RdS 7 Pr.RAr w0 (.slice p1 l.areas.length k1) l.areas∧RdS 4 Pr.RBx w0 (.slice p2 l.aisles.length k2) l.aisles∧RdS 4 Pr.RBx w0 (.slice p3 l.pillars.length k3) l.pillars∧RdS 2 Pr.RPt w0 (.slice p4 l.doors.length k4) l.doors))
 (HSL:Hid (SzL l)) (G:Nat) (HG:Hid (Blk w1 G [.string ⟨l.name.toArray⟩,.int .i64 l.height,.slice p0 l.blocks.length k0,.slice p1 l.areas.length k1,.slice p2 l.aisles.length k2,.slice p3 l.pillars.length k3,.slice p4 l.doors.length k4,.int .i64 l.at_] 61)) :
 Calls Tryz.prog 17 #[.pointer (some ⟨b,0,none⟩),.pointer (some ⟨G,0,none⟩)] w1 fun e w2=>e = .returned (.tuple #[])∧∃ v2,Wst T b 2 (bad || !Pr.innerOk l) (Pr.puts out (Pr.innerL l)) v2 w2∧Wr b v w1 v2 w2:=by
 have d0:=HG.out.cell (i:=0) rfl
 have d1:=HG.out.cell (i:=1) rfl
 have d2:=HG.out.cell (i:=2) rfl
 have d3:=HG.out.cell (i:=3) rfl
 have d4:=HG.out.cell (i:=4) rfl
 have d5:=HG.out.cell (i:=5) rfl
 have d6:=HG.out.cell (i:=6) rfl
 have d7:=HG.out.cell (i:=7) rfl
 go_enter Tryz.func17,Tryz.ntmps17
 go_wp2_with fail
 clear d0 d1 d2 d3 d4 d5 d6 d7
 refine level_r hT HL HB0 HQ HW l p0 p1 p2 p3 p4 k0 k1 k2 k3 k4 _ _ _ _ _ (hd rfl) (hd rfl) (hd rfl) (hd rfl) (hd rfl) HSL.out.1.2 (hd HM.out.1) (hd HM.out.2.1) (hd HM.out.2.2.1) (hd HM.out.2.2.2.1) (hd HM.out.2.2.2.2) (hd HSL.out.2) (fun v5 w5 h5 h6=>?_)
 have H5:=hd h5
 have H6:=hd h6
 clear h5 h6
 go_wp2_with fail
 go_end0
 exact ⟨rfl,v5,H5.out,H6.out⟩
theorem mPrY0 {G:Prop} (h:G:=by
  go_wp2_with fail
  go_roundw
  case rel=>exact ⟨j+1,v9,vint (by omega),by omega,hd (by have h9:=H3.out;rw[Ha3.out,Ha2.out,Ha1.out,Hnh.out] at h9;rw[HTK.out,List.all_append,List.all_cons,List.all_nil,Bool.and_true,Bool.not_and,← Bool.or_assoc,List.flatMap_append,Pr.puts_append,List.flatMap_singleton];rw[show Pr.levelOk x=((Pr.nameOk x.name && Pr.numsOk [x.height]) && Pr.innerOk x) by simp[Pr.levelOk,Pr.innerOk,Pr.numsOk],Bool.not_and,Bool.not_and,← Bool.or_assoc,← Bool.or_assoc];exact h9),HR5⟩
  case measure=>simp[intN];omega):G:=h
theorem levels_w {T:TypeId} (hT:Bty T 2) {w0 w1:World} (HL:Hid (Laid w0)) {b:Nat} (HB0:Hid (w0.heap.size≤b)) (HQ:Hid (Chg [] w0 w1)) {bad:Bool} {out:Bytes} {v:Value} (HW:Hid (Wst T b 1 bad out v w1)) (ls:List Pr.Lv) (ao:Option Addr) (cap n:Nat) (HN:Hid (ls.length=n)) (HM:Hid (RdS 8 Pr.RLv w0 (.slice ao n cap) ls)) (hn:n≤1000000) (HSL:Hid (∀ l ∈ ls,SzL l))
 (nm x1 x2:Value) (HB:Nat) (HHB:Hid (Blk w1 HB [nm,x1,x2,.slice ao n cap] 26)) :
 Calls Tryz.prog 16 #[.pointer (some ⟨HB,0,none⟩),.pointer (some ⟨b,0,none⟩)] w1 fun e w2=>e = .returned (.tuple #[])∧∃ v2,Wst T b 1 (bad || !ls.all Pr.levelOk) (Pr.puts out (ls.flatMap Pr.levelL)) v2 w2∧Wr b v w1 v2 w2:=by
 have k1:=HHB.out.cell (i:=3) rfl
 go_enter Tryz.func16,Tryz.ntmps16
 go_wp2_with fail
 clear k1
 go_loopw [7] (fun i wr=>∃ (j:Nat) (vj:Value),i = .int .i64 (j:Int)∧j≤n∧Hid (Wst T b 1 (bad || !(ls.take j).all Pr.levelOk) (Pr.puts out ((ls.take j).flatMap Pr.levelL)) vj wr)∧Hid (Wr b v w1 vj wr)) (fun i _=>n - intN i)
 case atStart=>exact ⟨0,v,rfl,Nat.zero_le _,hd (by simpa [Pr.puts] using HW.out),hd (Wr.refl _ _ _)⟩
 case round =>
  obtain ⟨j,vj,rfl,hj,HWJ,HR⟩:=hrel
  by_cases hlt:j < n
  · obtain ⟨x,hr⟩:∃ x,ls[j]? = some x:=⟨ls[j]'(by rw[HN.out];exact hlt),by simp⟩
    have HQR:Hid (Chg [] w0 wr):=hd (HR.out.seen HW.out HQ.out HB0.out)
    obtain ⟨g,off,cs,ha,hgl,hl,⟨u1,u2,u3,u4,u5,hcs,i0,h1,h2,h3,h4,h5,hnl⟩,hcell⟩:=HM.out.elem hr
    subst ha
    have hcell:∀ (k:Nat) (c:Value),cs[k]? = some c→wr.cell? ⟨g,off+j*8+k,none⟩=some c:=fun k c h=>(World.cell?_of_block (HQR.out.block g hgl (by simp))).trans (hcell k c h)
    obtain ⟨p0,k0,rfl,_⟩:=h1.form
    obtain ⟨p1,k1,rfl,_⟩:=h2.form
    obtain ⟨p2,k2,rfl,_⟩:=h3.form
    obtain ⟨p3,k3,rfl,_⟩:=h4.form
    obtain ⟨p4,k4,rfl,_⟩:=h5.form
    have HMS:=hd (And.intro h1 (And.intro h2 (And.intro h3 (And.intro h4 h5))))
    have HI:=hd i0
    have HZ:=hd (HSL.out x (List.mem_of_getElem? hr))
    have bx:=HZ.out.1.1
    clear h1 h2 h3 h4 h5 i0 hnl
    subst hcs
    have c0:wr.cell? ⟨g,off+j*8,none⟩=some (.string ⟨x.name.toArray⟩):=hcell 0 _ rfl
    have c1:wr.cell? ⟨g,off+j*8+1,none⟩=some (.int .i64 x.height):=hcell 1 _ rfl
    have c2:wr.cell? ⟨g,off+j*8+2,none⟩=some (.slice p0 x.blocks.length k0):=hcell 2 _ rfl
    have c3:wr.cell? ⟨g,off+j*8+3,none⟩=some (.slice p1 x.areas.length k1):=hcell 3 _ rfl
    have c4:wr.cell? ⟨g,off+j*8+4,none⟩=some (.slice p2 x.aisles.length k2):=hcell 4 _ rfl
    have c5:wr.cell? ⟨g,off+j*8+5,none⟩=some (.slice p3 x.pillars.length k3):=hcell 5 _ rfl
    have c6:wr.cell? ⟨g,off+j*8+6,none⟩=some (.slice p4 x.doors.length k4):=hcell 6 _ rfl
    have c7:wr.cell? ⟨g,off+j*8+7,none⟩=some (.int .i64 x.at_):=hcell 7 _ rfl
    have htk:ls.take (j+1)=ls.take j++[x]:=by obtain ⟨hj2,rfl⟩:=List.getElem?_eq_some_iff.1 hr;exact List.take_succ_eq_append_getElem hj2
    have HTK:=hd htk
    have q1:(j:Int) < (n:Int):=by omega
    have q0:(0:Int)≤(j:Int):=by omega
    clear hr hcell hl hgl htk
    go_upto_region 3 with (fail)
    obtain ⟨w4,hw4⟩:∃ W,W=wr.alloc (.cells #[.string ⟨x.name.toArray⟩,.int .i64 x.height,.slice p0 x.blocks.length k0,.slice p1 x.areas.length k1,.slice p2 x.aisles.length k2,.slice p3 x.pillars.length k3,.slice p4 x.doors.length k4,.int .i64 x.at_] 61):=⟨_,rfl⟩
    rw[← hw4]
    obtain ⟨G,hG⟩:∃ X,X=wr.heap.size:=⟨_,rfl⟩
    rw[← hG]
    have HG:=newB hw4 hG
    have C4:=newC hw4
    have NG:G≠b:=by have:=HWJ.out.lt;omega
    clear hw4 hG c0 c1 c2 c3 c4 c5 c6 c7
    have HWJ4:=hd (HWJ.out.quiet C4.out)
    have HQB:Hid (Chg [] w0 w4):=hd (HQR.out.trans C4.out (by simp))
    have HOB:Hid (∀ k ∈ b :: vj.ownBlock.toList,w0.heap.size≤k):=hd (by intro k hk;have h1:=HB0.out;rcases List.mem_cons.1 hk with rfl|hk;exact h1;rw[Option.mem_toList] at hk;have:=own_ge HWJ.out k hk;omega)
    have NGO:G ∉ b :: vj.ownBlock.toList:=by simp only[List.mem_cons,Option.mem_toList,not_or];exact ⟨NG,HWJ4.out.ne HG.out (by decide)⟩
    have NGH:=hd NGO
    clear NGO
    refine wp_region_held_drew (S:=fun W'=>Chg (b :: vj.ownBlock.toList) w4 W') (by kernel_rfl) (Chg.refl _ _).drew (fun hHeld=>?_)
    obtain ⟨wd,hwd⟩:∃ x,x=w4.drew:=⟨_,rfl⟩
    have CD:Hid (Chg [] w4 wd):=hd (by rw[hwd];exact (Chg.refl _ _).drew)
    rw[← hwd] at hHeld ⊢
    clear hwd
    have HWd:=hd (HWJ4.out.quiet CD.out)
    refine tq 0 ?_
    refine tq 1 ?_
    refine tq 2 ?_
    refine tq1 3 (fun w9 hSw=>cell_quiet hSw (HG.out.cell (i:=0) rfl) NGH.out) ?_
    refine tq 7 ?_
    refine tq 8 ?_
    refine tq1 9 (fun w9 hSw=>cell_quiet hSw (HG.out.cell (i:=1) rfl) NGH.out) ?_
    refine tq 13 ?_ (hy:=by intro w9 hSw;have hmf:∀ (fn:Fn) (first cap:Array Value) (w:World),(Instr.makeFunc fn first cap).run Tryz.prog w = .ok (.func fn first cap) w:=fun _ _ _ _=>rfl;go_simp;try with_reducible rfl)
    refine rd2 4 10 (fun K hK=>?_) (fun K hK=>?_)
    · skip
      go_simp
      refine name_r HWd x.name (fun wua1 h3 h4=>?_)
      have HWwua1:=hd h3
      refine kq hK (hHeld.trans h4 (fun k hk=>.inl (by rw[List.mem_singleton] at hk;simp[hk]))) (fun hHeld=>?_)
      clear h3 h4
      have hz:¬ 9223372036854775807 < 6+x.name.length:=by omega
      refine tq 5 ?_
      rw[show (⟨List.toArray ([108,101,118,101,108,32]:Bytes)⟩:ByteArray)++⟨List.toArray x.name⟩=⟨(([108,101,118,101,108,32]:Bytes)++x.name).toArray⟩ from str2 _ _]
      obtain ⟨a1,h9⟩:∃ z,z=([108,101,118,101,108,32]:Bytes)++x.name:=⟨_,rfl⟩
      rw[← h9]
      have ga1:a1.length≤1006:=by rw[h9,List.length_append];show 6+x.name.length≤_;omega
      have Ha1:=hd h9
      clear h9 hz
      have hz:¬ 9223372036854775807 < a1.length+7:=by omega
      refine tq 6 ?_
      rw[show (⟨List.toArray a1⟩:ByteArray)++⟨List.toArray ([32,104,101,105,103,104,116]:Bytes)⟩=⟨(a1++([32,104,101,105,103,104,116]:Bytes)).toArray⟩ from str2 _ _]
      obtain ⟨a2,h9⟩:∃ z,z=a1++([32,104,101,105,103,104,116]:Bytes):=⟨_,rfl⟩
      rw[← h9]
      have ga2:a2.length≤1020:=by rw[h9,List.length_append];show a1.length+7≤_;omega
      have Ha2:=hd h9
      clear h9 hz
      refine rd1 10 (fun K hK=>?_)
      go_simp
      obtain ⟨wua2,hw⟩:∃ W,W=wua1.alloc (.cells #[.int .i64 x.height] 3):=⟨_,rfl⟩
      rw[← hw]
      obtain ⟨X9,hX⟩:∃ X,X=wua1.heap.size:=⟨_,rfl⟩
      rw[← hX]
      have HX9:Hid (Blk wua2 X9 [.int .i64 x.height] 3∧X9≠b):=hd ⟨by rw[hw,hX];exact Blk.new wua1 [.int .i64 x.height] _,by have:=HWwua1.out.lt;omega⟩
      have Cw:=newC hw
      have HWwua2:=hd (HWwua1.out.quiet Cw.out)
      refine kq hK (hHeld.trans Cw.out (by simp)) (fun hHeld=>?_)
      clear hw hX
      clear Cw
      refine rd1 11 (fun K hK=>?_)
      go_simp
      refine numbers_r HL HB0 (hd ((HQB.out.trans hHeld (fun k hk=>.inr (HOB.out k hk))))) HWwua2 [x.height] 1 ⟨rfl,by decide⟩ (by intro q hq;rw[List.mem_singleton] at hq;rw[hq];exact HI.out) HX9.out.1 HX9.out.2 (fun wua3 h3 h4=>?_)
      have HWwua3:=hd h3
      refine kq hK (hHeld.trans h4 (fun k hk=>.inl (by rw[List.mem_singleton] at hk;simp[hk]))) (fun hHeld=>?_)
      clear h3 h4
      have gnh:(Pr.nums [x.height]).length≤22:=Pr.nums_len [x.height] (by intro q hq;rw[List.mem_singleton] at hq;rw[hq];exact HI.out)
      obtain ⟨nh,h9⟩:∃ z,z=Pr.nums [x.height]:=⟨_,rfl⟩
      rw[← h9] at gnh
      rw[← h9]
      have Hnh:=hd h9
      clear h9
      have hz:¬ 9223372036854775807 < a2.length+nh.length:=by omega
      refine tq 12 ?_
      rw[show (⟨List.toArray a2⟩:ByteArray)++⟨List.toArray nh⟩=⟨(a2++nh).toArray⟩ from str2 _ _]
      obtain ⟨a3,h9⟩:∃ z,z=a2++nh:=⟨_,rfl⟩
      rw[← h9]
      have ga3:a3.length≤1060:=by rw[h9,List.length_append];show a2.length+nh.length≤_;omega
      have Ha3:=hd h9
      clear h9 hz
      refine rd1 14 (fun K hK=>?_)
      have HSC:Hid (wr.heap.size≤wua3.heap.size):=hd (Nat.le_trans C4.out.size hHeld.size)
      have HHE:=hd hHeld
      go_simp
      refine open_w hT (hd (by decide)) HWwua3 a3 (hd (by omega)) 17 (.inr (.inl rfl)) _ _ (Pr.innerOk x) (Pr.innerL x) (hd (fun v1 w1 X hX1 hX2=>?hdoua)) (fun v9 wua4 h3 h4=>?_)
      case hdoua=>exact lev_w hT HL HB0 (hd ((HQB.out.trans HHE.out (fun k hk=>.inr (HOB.out k hk))).trans hX2.chg (fun k hk=>.inr (HOB.out k hk)))) (hd hX1) x p0 p1 p2 p3 p4 k0 k1 k2 k3 k4 HMS HZ G (hd (hX2.chg.blk (HHE.out.blk HG.out NGH.out) NGH.out))
      refine kq hK (hHeld.trans h4.chg (fun k hk=>.inl hk)) (fun hHeld=>?_)
      have H3:=hd h3
      have H4:=hd h4
      clear h3 h4
      refine dq ?_
      have HH:=hd hHeld
      clear hHeld
      have HR5:Hid (Wr b v w1 v9 wua4):=hd (HR.out.trans ⟨(C4.out.mono (by simp)).trans HH.out (fun k hk=>.inl hk),fun k hk=>(H4.out.own k hk).imp id (fun h=>Nat.le_trans HSC.out h)⟩)
      exact mPrY0
    go_simp
    obtain ⟨wub1,hw⟩:∃ W,W=wd.alloc (.cells #[.int .i64 x.height] 3):=⟨_,rfl⟩
    rw[← hw]
    obtain ⟨X9,hX⟩:∃ X,X=wd.heap.size:=⟨_,rfl⟩
    rw[← hX]
    have HX9:Hid (Blk wub1 X9 [.int .i64 x.height] 3∧X9≠b):=hd ⟨by rw[hw,hX];exact Blk.new wd [.int .i64 x.height] _,by have:=HWd.out.lt;omega⟩
    have Cw:=newC hw
    have HWwub1:=hd (HWd.out.quiet Cw.out)
    refine kq hK (hHeld.trans Cw.out (by simp)) (fun hHeld=>?_)
    clear hw hX
    clear Cw
    refine rd1 4 (fun K hK=>?_)
    go_simp
    refine name_r HWwub1 x.name (fun wub2 h3 h4=>?_)
    have HX9:=hd (And.intro (h4.blk HX9.out.1 (by simp[HX9.out.2])) HX9.out.2)
    have HWwub2:=hd h3
    refine kq hK (hHeld.trans h4 (fun k hk=>.inl (by rw[List.mem_singleton] at hk;simp[hk]))) (fun hHeld=>?_)
    clear h3 h4
    have hz:¬ 9223372036854775807 < 6+x.name.length:=by omega
    refine tq 5 ?_
    rw[show (⟨List.toArray ([108,101,118,101,108,32]:Bytes)⟩:ByteArray)++⟨List.toArray x.name⟩=⟨(([108,101,118,101,108,32]:Bytes)++x.name).toArray⟩ from str2 _ _]
    obtain ⟨a1,h9⟩:∃ z,z=([108,101,118,101,108,32]:Bytes)++x.name:=⟨_,rfl⟩
    rw[← h9]
    have ga1:a1.length≤1006:=by rw[h9,List.length_append];show 6+x.name.length≤_;omega
    have Ha1:=hd h9
    clear h9 hz
    have hz:¬ 9223372036854775807 < a1.length+7:=by omega
    refine tq 6 ?_
    rw[show (⟨List.toArray a1⟩:ByteArray)++⟨List.toArray ([32,104,101,105,103,104,116]:Bytes)⟩=⟨(a1++([32,104,101,105,103,104,116]:Bytes)).toArray⟩ from str2 _ _]
    obtain ⟨a2,h9⟩:∃ z,z=a1++([32,104,101,105,103,104,116]:Bytes):=⟨_,rfl⟩
    rw[← h9]
    have ga2:a2.length≤1020:=by rw[h9,List.length_append];show a1.length+7≤_;omega
    have Ha2:=hd h9
    clear h9 hz
    refine rd1 11 (fun K hK=>?_)
    go_simp
    refine numbers_r HL HB0 (hd ((HQB.out.trans hHeld (fun k hk=>.inr (HOB.out k hk))))) HWwub2 [x.height] 1 ⟨rfl,by decide⟩ (by intro q hq;rw[List.mem_singleton] at hq;rw[hq];exact HI.out) HX9.out.1 HX9.out.2 (fun wub3 h3 h4=>?_)
    have HWwub3:=hd h3
    refine kq hK (hHeld.trans h4 (fun k hk=>.inl (by rw[List.mem_singleton] at hk;simp[hk]))) (fun hHeld=>?_)
    clear h3 h4
    have gnh:(Pr.nums [x.height]).length≤22:=Pr.nums_len [x.height] (by intro q hq;rw[List.mem_singleton] at hq;rw[hq];exact HI.out)
    obtain ⟨nh,h9⟩:∃ z,z=Pr.nums [x.height]:=⟨_,rfl⟩
    rw[← h9] at gnh
    rw[← h9]
    have Hnh:=hd h9
    clear h9
    have hz:¬ 9223372036854775807 < a2.length+nh.length:=by omega
    refine tq 12 ?_
    rw[show (⟨List.toArray a2⟩:ByteArray)++⟨List.toArray nh⟩=⟨(a2++nh).toArray⟩ from str2 _ _]
    obtain ⟨a3,h9⟩:∃ z,z=a2++nh:=⟨_,rfl⟩
    rw[← h9]
    have ga3:a3.length≤1060:=by rw[h9,List.length_append];show a2.length+nh.length≤_;omega
    have Ha3:=hd h9
    clear h9 hz
    refine rd1 14 (fun K hK=>?_)
    have HSC:Hid (wr.heap.size≤wub3.heap.size):=hd (Nat.le_trans C4.out.size hHeld.size)
    have HHE:=hd hHeld
    go_simp
    refine open_w hT (hd (by decide)) HWwub3 a3 (hd (by omega)) 17 (.inr (.inl rfl)) _ _ (Pr.innerOk x) (Pr.innerL x) (hd (fun v1 w1 X hX1 hX2=>?hdoub)) (fun v9 wub4 h3 h4=>?_)
    case hdoub=>exact lev_w hT HL HB0 (hd ((HQB.out.trans HHE.out (fun k hk=>.inr (HOB.out k hk))).trans hX2.chg (fun k hk=>.inr (HOB.out k hk)))) (hd hX1) x p0 p1 p2 p3 p4 k0 k1 k2 k3 k4 HMS HZ G (hd (hX2.chg.blk (HHE.out.blk HG.out NGH.out) NGH.out))
    refine kq hK (hHeld.trans h4.chg (fun k hk=>.inl hk)) (fun hHeld=>?_)
    have H3:=hd h3
    have H4:=hd h4
    clear h3 h4
    refine dq ?_
    have HH:=hd hHeld
    clear hHeld
    have HR5:Hid (Wr b v w1 v9 wub4):=hd (HR.out.trans ⟨(C4.out.mono (by simp)).trans HH.out (fun k hk=>.inl hk),fun k hk=>(H4.out.own k hk).imp id (fun h=>Nat.le_trans HSC.out h)⟩)
    exact mPrY0
  have hjn:ls.take j=ls:=List.take_of_length_le (by rw[HN.out];omega)
  rw[hjn] at HWJ
  have q1:¬ (j:Int) < (n:Int):=by omega
  clear hjn
  go_wp2_with fail
  go_end0
  exact ⟨rfl,vj,HWJ.out,HR.out⟩
namespace Pr
theorem hall_ascii {h:Hl} (ho:hallOk h=true) (hl:(hallText h).length≤20000):∀ c ∈ hallText h,c.toNat < 128:=by
 have h1:(full (hallL h)).length≤20000:=by
  rcases Nat.lt_or_ge 20000 (full (hallL h)).length with h2|h2
  · have h3:=puts_over (out:=[]) (l:=hallL h) (by simpa using h2)
    unfold hallText at hl
    omega
  exact h2
 have h4:hallText h=full (hallL h):=by
  unfold hallText
  rw[puts_full (out:=[]) (by simpa using h1)]
  rfl
 rw[h4]
 exact (hall_lws ho).2.2.1
end Pr
theorem mPrY1 {G:Prop} (h:G:=by
  clear hq9
  go_wp2_with fail
  refine end_r HL HB0 (hd (HQB.out.trans HH.out (fun k hk=>.inr (HOB.out k hk)))) HF (hd (fun hb hl=>Pr.hall_ascii (by simpa using hb) hl)) (fun w' hc=>?_)
  have HCE:=hd hc
  clear hc
  rw[Bool.not_not]
  go_wp2_with fail
  exact HRR.out w' HCE.out):G:=h
theorem hall_r {w:World} (HL:Hid (Laid w)) (h:Pr.Hl) (ao:Option Addr) (cap n:Nat) (HN:Hid (h.levels.length=n)) (HM:Hid (RdS 8 Pr.RLv w (.slice ao n cap) h.levels)) (HI:Hid (Pr.I64 h.sx∧Pr.I64 h.sy)) (hn:n≤1000000) (bx:h.name.length≤1000) (HSL:Hid (∀ l ∈ h.levels,SzL l)) {R:Ending→World→Prop}
 (hR:∀ w',Chg [] w w'→R (.returned (.tuple #[.string ⟨(Pr.hall h).1.toArray⟩,.int .i64 ((Pr.hall h).2:Nat)])) w') :
 Calls Tryz.prog 7 #[.agg #[.string ⟨h.name.toArray⟩,.int .i64 h.sx,.int .i64 h.sy,.slice ao n cap]] w R:=by
 have HRR:=hd hR
 clear hR
 go_enter Tryz.func7,Tryz.ntmps7
 go_upto_region 2 with (fail)
 obtain ⟨wa,hwa⟩:∃ W,W=w.alloc (.cells #[.string ⟨h.name.toArray⟩,.int .i64 h.sx,.int .i64 h.sy,.slice ao n cap] 26):=⟨_,rfl⟩
 rw[← hwa]
 obtain ⟨w4,hw4⟩:∃ W,W=wa.alloc (.cells #[.pointer none,.slice none 0 0,.int .i64 0,.bool false] 77):=⟨_,rfl⟩
 rw[← hw4]
 obtain ⟨b,hb⟩:∃ X,X=w.heap.size+1:=⟨_,rfl⟩
 rw[← hb]
 obtain ⟨G,hG⟩:∃ X,X=w.heap.size:=⟨_,rfl⟩
 rw[← hG]
 have hb2:wa.heap.size=b:=by rw[hwa,hb];simp
 obtain ⟨vj,hvj⟩:∃ z,z=Value.slice none 0 0:=⟨_,rfl⟩
 have HWJ4:Hid (Wst 77 b 0 false [] vj w4):=hd (by
  have h1:=BW.new wa 77 [.int .i64 0,.bool false]
  rw[hb2] at h1
  rw[hw4,hvj]
  exact ⟨[],h1,by simp,fun _=>rfl⟩)
 have HG:Hid (Blk w4 G [.string ⟨h.name.toArray⟩,.int .i64 h.sx,.int .i64 h.sy,.slice ao n cap] 26):=hd (by rw[hw4,hwa,hG];exact (Blk.new w [.string ⟨h.name.toArray⟩,.int .i64 h.sx,.int .i64 h.sy,.slice ao n cap] _).alloc _)
 have HQB:Hid (Chg [] w w4):=hd (by rw[hw4,hwa];exact ((Chg.refl _ _).alloc _).alloc _)
 have NG:G≠b:=by omega
 have HB0:Hid (w.heap.size≤b):=hd (by omega)
 have HOB:Hid (∀ k ∈ b :: vj.ownBlock.toList,w.heap.size≤k):=hd (by intro k hk;have h1:=HB0.out;rcases List.mem_cons.1 hk with rfl|hk;exact h1;rw[Option.mem_toList] at hk;have:=own_ge HWJ4.out k hk;omega)
 have NGO:G ∉ b :: vj.ownBlock.toList:=by simp only[List.mem_cons,Option.mem_toList,not_or];exact ⟨NG,HWJ4.out.ne HG.out (by decide)⟩
 have NGH:=hd NGO
 have hT:Bty 77 2:=.inr (.inl ⟨rfl,rfl⟩)
 have HT2:=hd hT
 clear hwa hw4 hb hG hb2 hvj NGO hT
 refine wp_region_held_drew (S:=fun W'=>Chg (b :: vj.ownBlock.toList) w4 W') (by kernel_rfl) (Chg.refl _ _).drew (fun hHeld=>?_)
 obtain ⟨wd,hwd⟩:∃ x,x=w4.drew:=⟨_,rfl⟩
 have CD:Hid (Chg [] w4 wd):=hd (by rw[hwd];exact (Chg.refl _ _).drew)
 rw[← hwd] at hHeld ⊢
 clear hwd
 have HWd:=hd (HWJ4.out.quiet CD.out)
 refine tq 0 ?_
 refine tq 1 ?_
 refine tq 2 ?_
 refine tq1 3 (fun w9 hSw=>cell_quiet hSw (HG.out.cell (i:=0) rfl) NGH.out) ?_
 refine tq 7 ?_
 refine tq 8 ?_
 refine tq 9 ?_
 refine tq1 10 (fun w9 hSw=>cell_quiet hSw (HG.out.cell (i:=1) rfl) NGH.out) ?_
 refine tq 11 ?_
 refine tq 12 ?_
 refine tq1 13 (fun w9 hSw=>cell_quiet hSw (HG.out.cell (i:=2) rfl) NGH.out) ?_
 refine tq 17 ?_ (hy:=by intro w9 hSw;have hmf:∀ (fn:Fn) (first cap:Array Value) (w:World),(Instr.makeFunc fn first cap).run Tryz.prog w = .ok (.func fn first cap) w:=fun _ _ _ _=>rfl;go_simp;try with_reducible rfl)
 refine rd2 4 14 (fun K hK=>?_) (fun K hK=>?_)
 · skip
   go_simp
   refine name_r HWd h.name (fun wha1 h3 h4=>?_)
   have HWwha1:=hd h3
   refine kq hK (hHeld.trans h4 (fun k hk=>.inl (by rw[List.mem_singleton] at hk;simp[hk]))) (fun hHeld=>?_)
   clear h3 h4
   have hz:¬ 9223372036854775807 < 5+h.name.length:=by omega
   refine tq 5 ?_
   rw[show (⟨List.toArray ([104,97,108,108,32]:Bytes)⟩:ByteArray)++⟨List.toArray h.name⟩=⟨(([104,97,108,108,32]:Bytes)++h.name).toArray⟩ from str2 _ _]
   obtain ⟨a1,h9⟩:∃ z,z=([104,97,108,108,32]:Bytes)++h.name:=⟨_,rfl⟩
   rw[← h9]
   have ga1:a1.length≤1005:=by rw[h9,List.length_append];show 5+h.name.length≤_;omega
   have Ha1:=hd h9
   clear h9 hz
   have hz:¬ 9223372036854775807 < a1.length+6:=by omega
   refine tq 6 ?_
   rw[show (⟨List.toArray a1⟩:ByteArray)++⟨List.toArray ([32,115,116,97,103,101]:Bytes)⟩=⟨(a1++([32,115,116,97,103,101]:Bytes)).toArray⟩ from str2 _ _]
   obtain ⟨a2,h9⟩:∃ z,z=a1++([32,115,116,97,103,101]:Bytes):=⟨_,rfl⟩
   rw[← h9]
   have ga2:a2.length≤1020:=by rw[h9,List.length_append];show a1.length+6≤_;omega
   have Ha2:=hd h9
   clear h9 hz
   refine rd1 14 (fun K hK=>?_)
   go_simp
   obtain ⟨wha2,hw⟩:∃ W,W=wha1.alloc (.cells #[.int .i64 h.sx,.int .i64 h.sy] 3):=⟨_,rfl⟩
   rw[← hw]
   obtain ⟨X9,hX⟩:∃ X,X=wha1.heap.size:=⟨_,rfl⟩
   rw[← hX]
   have HX9:Hid (Blk wha2 X9 [.int .i64 h.sx,.int .i64 h.sy] 3∧X9≠b):=hd ⟨by rw[hw,hX];exact Blk.new wha1 [.int .i64 h.sx,.int .i64 h.sy] _,by have:=HWwha1.out.lt;omega⟩
   have Cw:=newC hw
   have HWwha2:=hd (HWwha1.out.quiet Cw.out)
   refine kq hK (hHeld.trans Cw.out (by simp)) (fun hHeld=>?_)
   clear hw hX
   clear Cw
   refine rd1 15 (fun K hK=>?_)
   go_simp
   refine numbers_r HL HB0 (hd ((HQB.out.trans hHeld (fun k hk=>.inr (HOB.out k hk))))) HWwha2 [h.sx,h.sy] 2 ⟨rfl,by decide⟩ (by intro q hq;simp only[List.mem_cons,List.not_mem_nil,or_false] at hq;rcases hq with rfl|rfl;exact HI.out.1;exact HI.out.2) HX9.out.1 HX9.out.2 (fun wha3 h3 h4=>?_)
   have HWwha3:=hd h3
   refine kq hK (hHeld.trans h4 (fun k hk=>.inl (by rw[List.mem_singleton] at hk;simp[hk]))) (fun hHeld=>?_)
   clear h3 h4
   have gnh:(Pr.nums [h.sx,h.sy]).length≤44:=Pr.nums_len [h.sx,h.sy] (by intro q hq;simp only[List.mem_cons,List.not_mem_nil,or_false] at hq;rcases hq with rfl|rfl;exact HI.out.1;exact HI.out.2)
   obtain ⟨nh,h9⟩:∃ z,z=Pr.nums [h.sx,h.sy]:=⟨_,rfl⟩
   rw[← h9] at gnh
   rw[← h9]
   have Hnh:=hd h9
   clear h9
   have hz:¬ 9223372036854775807 < a2.length+nh.length:=by omega
   refine tq 16 ?_
   rw[show (⟨List.toArray a2⟩:ByteArray)++⟨List.toArray nh⟩=⟨(a2++nh).toArray⟩ from str2 _ _]
   obtain ⟨a3,h9⟩:∃ z,z=a2++nh:=⟨_,rfl⟩
   rw[← h9]
   have ga3:a3.length≤1070:=by rw[h9,List.length_append];show a2.length+nh.length≤_;omega
   have Ha3:=hd h9
   clear h9 hz
   refine rd1 18 (fun K hK=>?_)
   have HHE:=hd hHeld
   go_simp
   refine open_w HT2.out (hd (by decide)) HWwha3 a3 (hd (by omega)) 16 (.inl rfl) _ _ (h.levels.all Pr.levelOk) (h.levels.flatMap Pr.levelL) (hd (fun v1 w1 X hX1 hX2=>?hdoha)) (fun v9 wha4 h3 h4=>?_)
   case hdoha=>exact levels_w HT2.out HL HB0 (hd ((HQB.out.trans HHE.out (fun k hk=>.inr (HOB.out k hk))).trans hX2.chg (fun k hk=>.inr (HOB.out k hk)))) (hd hX1) h.levels ao cap n HN HM hn HSL _ _ _ G (hd (hX2.chg.blk (HHE.out.blk HG.out NGH.out) NGH.out))
   refine kq hK (hHeld.trans h4.chg (fun k hk=>.inl hk)) (fun hHeld=>?_)
   have H3:=hd h3
   have H4:=hd h4
   clear h3 h4
   refine dq ?_
   have HH:=hd hHeld
   clear hHeld
   have hq9:(false || !Pr.nameOk h.name || !Pr.numsOk [h.sx,h.sy] || !h.levels.all Pr.levelOk) = !Pr.hallOk h:=by simp only[Pr.hallOk,Bool.not_and,Bool.false_or,Bool.or_assoc]
   have HF:Hid (Wst 77 b 0 (!Pr.hallOk h) (Pr.hallText h) v9 wha4):=hd (by have h9:=H3.out;rw[Ha3.out,Ha2.out,Ha1.out,Hnh.out,hq9] at h9;exact h9)
   exact mPrY1
 go_simp
 obtain ⟨whb1,hw⟩:∃ W,W=wd.alloc (.cells #[.int .i64 h.sx,.int .i64 h.sy] 3):=⟨_,rfl⟩
 rw[← hw]
 obtain ⟨X9,hX⟩:∃ X,X=wd.heap.size:=⟨_,rfl⟩
 rw[← hX]
 have HX9:Hid (Blk whb1 X9 [.int .i64 h.sx,.int .i64 h.sy] 3∧X9≠b):=hd ⟨by rw[hw,hX];exact Blk.new wd [.int .i64 h.sx,.int .i64 h.sy] _,by have:=HWd.out.lt;omega⟩
 have Cw:=newC hw
 have HWwhb1:=hd (HWd.out.quiet Cw.out)
 refine kq hK (hHeld.trans Cw.out (by simp)) (fun hHeld=>?_)
 clear hw hX
 clear Cw
 refine rd1 4 (fun K hK=>?_)
 go_simp
 refine name_r HWwhb1 h.name (fun whb2 h3 h4=>?_)
 have HX9:=hd (And.intro (h4.blk HX9.out.1 (by simp[HX9.out.2])) HX9.out.2)
 have HWwhb2:=hd h3
 refine kq hK (hHeld.trans h4 (fun k hk=>.inl (by rw[List.mem_singleton] at hk;simp[hk]))) (fun hHeld=>?_)
 clear h3 h4
 have hz:¬ 9223372036854775807 < 5+h.name.length:=by omega
 refine tq 5 ?_
 rw[show (⟨List.toArray ([104,97,108,108,32]:Bytes)⟩:ByteArray)++⟨List.toArray h.name⟩=⟨(([104,97,108,108,32]:Bytes)++h.name).toArray⟩ from str2 _ _]
 obtain ⟨a1,h9⟩:∃ z,z=([104,97,108,108,32]:Bytes)++h.name:=⟨_,rfl⟩
 rw[← h9]
 have ga1:a1.length≤1005:=by rw[h9,List.length_append];show 5+h.name.length≤_;omega
 have Ha1:=hd h9
 clear h9 hz
 have hz:¬ 9223372036854775807 < a1.length+6:=by omega
 refine tq 6 ?_
 rw[show (⟨List.toArray a1⟩:ByteArray)++⟨List.toArray ([32,115,116,97,103,101]:Bytes)⟩=⟨(a1++([32,115,116,97,103,101]:Bytes)).toArray⟩ from str2 _ _]
 obtain ⟨a2,h9⟩:∃ z,z=a1++([32,115,116,97,103,101]:Bytes):=⟨_,rfl⟩
 rw[← h9]
 have ga2:a2.length≤1020:=by rw[h9,List.length_append];show a1.length+6≤_;omega
 have Ha2:=hd h9
 clear h9 hz
 refine rd1 15 (fun K hK=>?_)
 go_simp
 refine numbers_r HL HB0 (hd ((HQB.out.trans hHeld (fun k hk=>.inr (HOB.out k hk))))) HWwhb2 [h.sx,h.sy] 2 ⟨rfl,by decide⟩ (by intro q hq;simp only[List.mem_cons,List.not_mem_nil,or_false] at hq;rcases hq with rfl|rfl;exact HI.out.1;exact HI.out.2) HX9.out.1 HX9.out.2 (fun whb3 h3 h4=>?_)
 have HWwhb3:=hd h3
 refine kq hK (hHeld.trans h4 (fun k hk=>.inl (by rw[List.mem_singleton] at hk;simp[hk]))) (fun hHeld=>?_)
 clear h3 h4
 have gnh:(Pr.nums [h.sx,h.sy]).length≤44:=Pr.nums_len [h.sx,h.sy] (by intro q hq;simp only[List.mem_cons,List.not_mem_nil,or_false] at hq;rcases hq with rfl|rfl;exact HI.out.1;exact HI.out.2)
 obtain ⟨nh,h9⟩:∃ z,z=Pr.nums [h.sx,h.sy]:=⟨_,rfl⟩
 rw[← h9] at gnh
 rw[← h9]
 have Hnh:=hd h9
 clear h9
 have hz:¬ 9223372036854775807 < a2.length+nh.length:=by omega
 refine tq 16 ?_
 rw[show (⟨List.toArray a2⟩:ByteArray)++⟨List.toArray nh⟩=⟨(a2++nh).toArray⟩ from str2 _ _]
 obtain ⟨a3,h9⟩:∃ z,z=a2++nh:=⟨_,rfl⟩
 rw[← h9]
 have ga3:a3.length≤1070:=by rw[h9,List.length_append];show a2.length+nh.length≤_;omega
 have Ha3:=hd h9
 clear h9 hz
 refine rd1 18 (fun K hK=>?_)
 have HHE:=hd hHeld
 go_simp
 refine open_w HT2.out (hd (by decide)) HWwhb3 a3 (hd (by omega)) 16 (.inl rfl) _ _ (h.levels.all Pr.levelOk) (h.levels.flatMap Pr.levelL) (hd (fun v1 w1 X hX1 hX2=>?hdohb)) (fun v9 whb4 h3 h4=>?_)
 case hdohb=>exact levels_w HT2.out HL HB0 (hd ((HQB.out.trans HHE.out (fun k hk=>.inr (HOB.out k hk))).trans hX2.chg (fun k hk=>.inr (HOB.out k hk)))) (hd hX1) h.levels ao cap n HN HM hn HSL _ _ _ G (hd (hX2.chg.blk (HHE.out.blk HG.out NGH.out) NGH.out))
 refine kq hK (hHeld.trans h4.chg (fun k hk=>.inl hk)) (fun hHeld=>?_)
 have H3:=hd h3
 have H4:=hd h4
 clear h3 h4
 refine dq ?_
 have HH:=hd hHeld
 clear hHeld
 have hq9:(false || !Pr.nameOk h.name || !Pr.numsOk [h.sx,h.sy] || !h.levels.all Pr.levelOk) = !Pr.hallOk h:=by simp only[Pr.hallOk,Bool.not_and,Bool.false_or,Bool.or_assoc]
 have HF:Hid (Wst 77 b 0 (!Pr.hallOk h) (Pr.hallText h) v9 whb4):=hd (by have h9:=H3.out;rw[Ha3.out,Ha2.out,Ha1.out,Hnh.out,hq9] at h9;exact h9)
 exact mPrY1
end Go.Proofs.YtglepipfdmphhaaGreatDoor
