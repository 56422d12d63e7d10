/-
 LxG, LxH, LxI in one text.
-/
import Derived.Test.YtglepipfdmphhaaGreatDoorLxF
import Derived.RangeFuncNested
import Derived.RangeFuncBound
import Derived.RangeFuncCalls
import Derived.RangeFuncLeaves
import Derived.Shelf.Abstract
import Derived.Shelf.RegionOpen
import Derived.OwnWalkIn
import Derived.TacticsInMore
import Derived.LoopNIn
import Derived.LoopIn
import Derived.Sort.CutIn
import Derived.Scope
import Derived.OrdersIn
import Derived.Deep.RegionLaw
import Derived.Deep.AppendLies
import Derived.StillTail
set_option maxRecDepth 100000
set_option maxHeartbeats 40000000
namespace Go.Proofs.YtglepipfdmphhaaGreatDoor
set_option linter.unusedVariables false
set_option linter.unusedSimpArgs false
open Go Go.RowKit Go.Shelf
attribute [local go_sem] Oper.semAt_some
attribute [local irreducible] Lx.tab Lx.tab0 Lx.cls
def tkv (t:Lx.Tk):Value:=.agg #[.int .i64 t.kind,.string ⟨t.text.toArray⟩,.int .i64 t.n,.int .i64 t.at_]
def fnd (x:Lx.Tk × Nat):Value:=.agg #[.int .i64 x.1.kind,.string ⟨x.1.text.toArray⟩,.int .i64 x.1.n,.int .i64 x.1.at_,.int .i64 x.2]
def atv (bt bc:Nat):Value:=.func (.func 69) #[] #[.pointer (some ⟨bt,0,none⟩),.pointer (some ⟨bc,0,none⟩)]
theorem Chg.grown0 {w w':World} (h:Chg [] w w'):w.grownBy w' none:=⟨h.os,h.tape,h.output,h.size,fun k hk _=>h.block k hk (by simp)⟩
theorem chg_bytes (w:World) (e:TypeId) (s:ByteArray):Chg [] w (Lib.bytesWorld w e s):=⟨rfl,rfl,rfl,by rw[Lib.bytesWorld_size];omega,fun j hj _=>Lib.bytesWorld_at_old w e s j hj⟩
theorem mk_n {s:Bytes} {o kd ln er:Nat} (h:Lx.tok s=(kd,ln,er)):(Lx.mk o s).n=if kd=2∧er=0 then Lx.num (s.take ln) else 0:=by unfold Lx.mk;rw[h]
theorem line_pos2 {s:Bytes} {k:Nat} (h:k < s.length) (hc:Lx.at' s k=2):0 < Lx.wl Lx.line (s.drop k):=by
 rw[Lx.at'_lt h] at hc
 rw[List.drop_eq_getElem_cons h]
 exact Lx.wl_pos (by
  unfold Lx.line
  rw[decide_eq_true_iff]
  intro e
  rw[e] at hc
  revert hc
  decide +kernel)
theorem mLxI0 {G:Prop} (h:G:=by
  refine ⟨trivial,(fun h0=>by cases h0),?_⟩
  refine (callsIn_wide.2 (at_list _ s ((m:Int)+1) (m+1) rfl bt bc sb HSB d1 HT1.out)).mono ?_
  rintro e W6 ⟨rfl,rfl⟩
  gi_wp2
  go_roundw
  case rel=>exact ⟨j+1,vint (by have:=HM.out;omega),by rw[HM.out,Nat.add_assoc],by have:=HM.out;omega,wl_more hwl HM HMO.out,trivial⟩
  case measure=>simp[intOf];omega):G:=h
theorem mLxI1 {G:Prop} (h:G:=by
  have HR1:Hid (Lx.tok (s.drop k)=(3,2,0)):=Lib.hid (by rw[HR.out,if_pos ((eq61 HSB _ _ hx).2 rfl)])
  gi_meet
  case rel=>exact ⟨3,2,0,0,vint (by omega),Lib.hid ⟨by decide,by decide,HR1.out,by rw[mk_n HR1.out];rfl,by omega⟩,HB1.out.set 0 _,(Chg.refl _ _).setCell _ _ (.inl (by simp))⟩):G:=h
theorem mLxI2 {G:Prop} (h:G:=by
  gi_meet
  case rel=>exact ⟨2,j,6,0,vint (by have:=HM.out;omega),Lib.hid ⟨by decide,by decide,HR.out,by rw[mk_n HR.out];rfl,by have:=HM.out;omega⟩,(HB1.out.set 0 _).set 4 _,((Chg.refl _ _).setCell _ _ (.inl (by simp))).setCell _ _ (.inl (by simp))⟩):G:=h
theorem mLxI3 {G:Prop} (h:G:=by
  gi_meet
  case rel=>exact ⟨3,1,5,0,vint (by omega),Lib.hid ⟨by decide,by decide,HR1.out,by rw[mk_n HR1.out];rfl,HLT.out⟩,(HB1.out.set 0 _).set 4 _,((Chg.refl _ _).setCell _ _ (.inl (by simp))).setCell _ _ (.inl (by simp))⟩):G:=h
theorem mLxI4 {G:Prop} (h:G:=by
  have f4:=HB1.out.free 4
  gi_wp2
  gi_meet
  case rel=>exact ⟨0,0,5,0,vint (by omega),Lib.hid ⟨by decide,by decide,HTK.out,by rw[mk_n HTK.out];rfl,hk⟩,HB1.out.set 4 _,(Chg.refl _ _).setCell _ _ (.inl (by simp))⟩):G:=h
theorem toks_in (n:Nat) (hn:3≤n) (l bt bc ba:Nat) (s:Bytes) (hs:s.length≤1000000) (J Jx:List (Lx.Tk × Nat)→World→Prop) (Kp:World→World→Prop)
 (HJ:Hid (∀ pre A B,J pre A→A.grownBy B none→J pre B))
 (HP:Hid (∀ pre A,J pre A→A.cell? ⟨bt,0,none⟩=some (.string ⟨s.toArray⟩)∧Blk A bc Lx.tab 157∧A.cell? ⟨ba,0,none⟩=some (atv bt bc)))
 (HK:Hid (∀ pre V A B g,J pre V→V.grownBy A none→V.heap.size≤g→g < A.heap.size→(∃ i u,A.cell? ⟨g,i,none⟩=some u)→Kp A B→B.heap[g]? = A.heap[g]?))
 (HY:Hid (∀ pre x A,J pre A→(pre++[x]) <+: Lx.from' s 0→YieldAt Fence.wide (n - 1) Tryz.prog l #[fnd x] A fun e B=>(e = .returned (.bool true)∧J (pre++[x]) B∧Kp A B)∨(e = .returned (.bool false)∧Jx (pre++[x]) B)))
 (W:World) (h0:J [] W) :
 CallsIn Fence.wide n Tryz.prog 70 #[.func (.yield l) #[] #[],.pointer (some ⟨bt,0,none⟩),.pointer (some ⟨ba,0,none⟩)] W fun e W'=>(∃ v,e = .returned v) ∧
  (J (Lx.from' s 0) W'∨∃ pre,pre <+: Lx.from' s 0∧Jx pre W'):=by
 obtain ⟨sb,hsb⟩:∃ sb:ByteArray,sb=⟨s.toArray⟩:=⟨_,rfl⟩
 rw[← hsb] at HP
 have hsz:sb.size=s.length:=by rw[hsb];rfl
 have HSB:=Lib.hid hsb
 have HSZ:=Lib.hid hsz
 clear hsb hsz
 refine callsIn_of_wp Tryz.func70 rfl trivial ?_ rfl
 simp only[Tryz.ntmps70,List.size_toArray,List.length_cons,List.length_nil,Nat.reduceAdd,Nat.reduceSub,Array.replicate_succ,Array.replicate_zero,List.push_toArray,List.append_toArray,List.nil_append,List.cons_append]
 refine wpIn_wide.2 (wp_scope_straight ((wpIn_wide (n:=n)).1 ?_))
 gi_wp2
 apply wpIn_label
 gi_wp2
 gi_loopw [4] (fun i wr=>∃ (k:Nat) (pre:List (Lx.Tk × Nat)),i = .int .i64 (k:Int)∧k≤s.length∧Hid (Lx.from' s 0=pre++Lx.from' s k)∧J pre wr)
  (fun i _=>s.length - (intOf i).toNat)
 case atStart=>exact ⟨0,[],rfl,Nat.zero_le _,Lib.hid rfl,h0⟩
 case round =>
  obtain ⟨k,pre,rfl,hk,hfr,hJ1⟩:=hrel
  obtain ⟨c1,c2,c3⟩:=HP.out _ _ hJ1
  have HB:=Lib.hid c2
  have HJ1:=Lib.hid hJ1
  have l1:bt < wr.heap.size:=World.block_lt_of_cell? _ _ c1
  have l2:bc < wr.heap.size:=c2.lt
  have l3:ba < wr.heap.size:=World.block_lt_of_cell? _ _ c3
  clear c2 hJ1
  by_cases hlt:k < s.length
  · have q1:(k:Int) < (sb.size:Int):=by rw[HSZ.out];omega
    have HLT:=Lib.hid hlt
    unfold atv at c3
    gi_wp2
    obtain ⟨W1,hW1⟩:∃ W1,W1=wr.alloc (.cells #[.int .i64 0,.string ⟨#[]⟩,.int .i64 0,.int .i64 k,.int .i64 0] 129):=⟨_,rfl⟩
    obtain ⟨g,hg⟩:∃ g,g=wr.heap.size:=⟨_,rfl⟩
    rw[← hW1,← hg]
    have hb1:Blk W1 g [.int .i64 0,.string ⟨#[]⟩,.int .i64 0,.int .i64 k,.int .i64 0] 129:=by rw[hW1,hg];exact Blk.new wr _ _
    have hC1:Chg [] wr W1:=by rw[hW1];exact (Chg.refl _ _).alloc _
    have HG:Hid (g=wr.heap.size):=Lib.hid hg
    have HB1:=Lib.hid hb1
    have HC1:=Lib.hid hC1
    have HT1:=Lib.hid (hC1.blk HB.out (by simp))
    have d1:W1.cell? ⟨bt,0,none⟩=some (.string sb):=(World.cell?_of_block (a:=⟨bt,0,none⟩) (hC1.block bt l1 (by simp))).trans c1
    have d3:W1.cell? ⟨ba,0,none⟩=some (atv bt bc):=(World.cell?_of_block (a:=⟨ba,0,none⟩) (hC1.block ba l3 (by simp))).trans c3
    unfold atv at d3
    have ne1:¬ bt=g:=by omega
    have ne1':¬ g=bt:=by omega
    have ne2:¬ bc=g:=by omega
    have ne3:¬ ba=g:=by omega
    have ne3':¬ g=ba:=by omega
    clear hW1 hg hb1 hC1 c1 c3 l1 l2 l3
    refine ⟨trivial,(fun h0=>by cases h0),?_⟩
    refine (callsIn_wide.2 (at_list _ s (k:Int) k rfl bt bc sb HSB d1 HT1.out)).mono ?_
    rintro e W5 ⟨rfl,rfl⟩
    obtain ⟨c,hc⟩:∃ c,Lx.at' s k=c:=⟨_,rfl⟩
    have hc9:c≤8:=by rw[← hc];exact Lx.at'_le s k
    have HFE:=Lib.hid (Lx.from_eq s k hlt)
    have HTK:=Lib.hid (Lx.tok_at s k hlt)
    rw[← Lx.at'_lt hlt,hc] at HFE HTK
    rw[hc]
    have HCc:=Lib.hid hc
    clear hc
    dsimp only
    gi_step
    gi_step
    gi_step
    gi_step
    gi_cut [4] from 21 (fun i4 wc=>∃ (kd ln er nv:Nat),i4 = .int .i64 ((k+ln:Nat):Int)∧Hid (c≠1∧c≠2∧Lx.tok (s.drop k)=(kd,ln,er)∧(Lx.mk k (s.drop k)).n=nv∧k+ln≤s.length) ∧
     Blk wc g [.int .i64 kd,.string ⟨#[]⟩,.int .i64 nv,.int .i64 k,.int .i64 er] 129∧Chg [g] W5 wc)
    case first =>
     obtain rfl|rfl|rfl|rfl|rfl|rfl|rfl|rfl|rfl:c=0∨c=1∨c=2∨c=3∨c=4∨c=5∨c=6∨c=7∨c=8:=by omega
     · have g4:=HB1.out.cell (i:=4) rfl
       exact mLxI4
     · gi_wp2
       go_roundw
       case rel=>exact ⟨k+1,pre,vint (by omega),HLT.out,Lib.hid (by rw[hfr.out,HFE.out];rfl),HJ.out _ _ _ HJ1.out HC1.out.grown0⟩
       case measure=>simp[intOf];omega
     · have HFE2:Hid (Lx.from' s k=Lx.from' s (k+Lx.wl Lx.line (s.drop k))):=Lib.hid HFE.out
       gi_upto_region 9 with fail
       gi_loopw [4] (fun i wq=>∃ j:Nat,i = .int .i64 ((k+j:Nat):Int)∧k+j≤s.length∧Hid (Lx.wl Lx.line (s.drop k)=j+Lx.wl Lx.line (s.drop (k+j)))∧wq=W5) (fun i _=>s.length - (intOf i).toNat)
       case atStart=>exact ⟨0,rfl,hk,Lib.hid (by simp),rfl⟩
       case round =>
        obtain ⟨j,rfl,hj,hwl,rfl⟩:=hrel
        obtain ⟨m,hm⟩:∃ m,m=k+j:=⟨_,rfl⟩
        rw[← hm]
        have HM:=Lib.hid hm
        rw[← hm] at hj hwl
        clear hm
        by_cases hm:m < s.length
        · have r1:(m:Int) < (sb.size:Int):=by rw[HSZ.out];omega
          have r0:(0:Int)≤(m:Int):=by omega
          gi_wp2
          · rename_i hx
            go_roundw
            case rel=>exact ⟨j+1,vint (by have:=HM.out;omega),by have:=HM.out;omega,wl_more hwl HM (line_yes HSB _ hm hx),trivial⟩
            case measure=>simp[intOf];omega
          rename_i hx
          have hw0:=line_no HSB _ hm hx
          go_roundw
          case rel=>exact ⟨m,pre,rfl,hj,Lib.hid (by rw[hfr.out,HFE2.out,hwl.out,hw0,Nat.add_zero,← HM.out]),HJ.out _ _ _ HJ1.out HC1.out.grown0⟩
          case measure =>
           have hj0:0 < j:=by
            have h9:=hwl.out
            rw[hw0,Nat.add_zero] at h9
            have h8:=line_pos2 hlt HCc.out
            omega
           have:=HM.out
           simp[intOf];omega
        have r1:¬ (m:Int) < (sb.size:Int):=by rw[HSZ.out];omega
        have hw0:=Lx.wl_end Lx.line s m (by omega)
        gi_wp2
        go_roundw
        case rel=>exact ⟨m,pre,rfl,hj,Lib.hid (by rw[hfr.out,HFE2.out,hwl.out,hw0,Nat.add_zero,← HM.out]),HJ.out _ _ _ HJ1.out HC1.out.grown0⟩
        case measure=>simp[intOf];omega
     · have g0:=HB1.out.cell (i:=0) rfl
       have f0:=HB1.out.free 0
       have g4:=HB1.out.cell (i:=4) rfl
       have f4:=HB1.out.free 4
       have HT3:Hid (Lx.tok (s.drop k)=(1,Lx.wl Lx.word (s.drop k),if 24 < Lx.wl Lx.word (s.drop k) then 3 else 0)):=Lib.hid HTK.out
       clear HTK HFE
       gi_wp2
       refine ⟨trivial,(fun h0=>by cases h0),?_⟩
       refine (callsIn_wide.2 (at_list _ s (k:Int) k rfl bt bc sb HSB d1 HT1.out)).mono ?_
       rintro e W6 ⟨rfl,rfl⟩
       gi_upto_region 13 with fail
       gi_loopw [4,7] (fun i t7 wq=>∃ j:Nat,i = .int .i64 ((k+j:Nat):Int)∧t7 = .int .u8 (Lx.at' s (k+j):Nat)∧k+j≤s.length∧Hid (Lx.wl Lx.word (s.drop k)=j+Lx.wl Lx.word (s.drop (k+j)))∧wq=W6) (fun i _ _=>s.length - (intOf i).toNat)
       case atStart=>exact ⟨0,rfl,rfl,hk,Lib.hid (by simp),rfl⟩
       case round =>
        obtain ⟨j,rfl,rfl,hj,hwl,rfl⟩:=hrel
        obtain ⟨m,hm⟩:∃ m,m=k+j:=⟨_,rfl⟩
        rw[← hm]
        have HM:=Lib.hid hm
        rw[← hm] at hj hwl
        clear hm
        obtain ⟨d,hd⟩:∃ d,Lx.at' s m=d:=⟨_,rfl⟩
        rw[hd]
        by_cases hw:d=3∨d=4∨d=5
        · have hm:=(Lx.wl_word s m).2 (by rw[hd];exact hw)
          have HMO:Hid (Lx.wl Lx.word (s.drop m)=Lx.wl Lx.word (s.drop (m+1))+1):=Lib.hid ((Lx.wl_word s m).1.trans (if_pos (by rw[hd];exact hw)))
          clear hd
          rcases hw with rfl|rfl|rfl
          · gi_wp2
            exact mLxI0
          · gi_wp2
            exact mLxI0
          gi_wp2
          exact mLxI0
        have hw0:Lx.wl Lx.word (s.drop m)=0:=(Lx.wl_word s m).1.trans (if_neg (by rw[hd];exact hw))
        have HWJ:Hid (Lx.wl Lx.word (s.drop k)=j):=Lib.hid (by rw[hwl.out,hw0,Nat.add_zero])
        have n3:((d:Int) == 3)=false:=beq_eq_false_iff_ne.2 (by omega)
        have n4:((d:Int) == 4)=false:=beq_eq_false_iff_ne.2 (by omega)
        have n5:((d:Int) == 5)=false:=beq_eq_false_iff_ne.2 (by omega)
        have e24:(m:Int) - (k:Int)=(j:Int):=by have:=HM.out;omega
        clear hw hw0 hd
        by_cases h24:24 < j
        · have h24i:(24:Int) < (j:Int):=by omega
          gi_wp2
          gi_meet
          case rel=>exact ⟨1,j,3,0,vint (by have:=HM.out;omega),Lib.hid ⟨by decide,by decide,by rw[HT3.out,HWJ.out,if_pos h24],by rw[mk_n HT3.out];rfl,by have:=HM.out;omega⟩,(HB1.out.set 0 _).set 4 _,((Chg.refl _ _).setCell _ _ (.inl (by simp))).setCell _ _ (.inl (by simp))⟩
        have h24i:¬ (24:Int) < (j:Int):=by omega
        gi_wp2
        gi_meet
        case rel=>exact ⟨1,j,0,0,vint (by have:=HM.out;omega),Lib.hid ⟨by decide,by decide,by rw[HT3.out,HWJ.out,if_neg h24],by rw[mk_n HT3.out];rfl,by have:=HM.out;omega⟩,HB1.out.set 0 _,(Chg.refl _ _).setCell _ _ (.inl (by simp))⟩
     · have g0:=HB1.out.cell (i:=0) rfl
       have f0:=HB1.out.free 0
       have g2:=HB1.out.cell (i:=2) rfl
       have f2:=HB1.out.free 2
       have g4:=HB1.out.cell (i:=4) rfl
       have f4:=HB1.out.free 4
       have HT4:Hid (Lx.tok (s.drop k)=(2,Lx.wl Lx.dig (s.drop k),if 10 < Lx.wl Lx.dig (s.drop k)∨Lx.at' s (k+Lx.wl Lx.dig (s.drop k))=3∨Lx.at' s (k+Lx.wl Lx.dig (s.drop k))=5 then 6 else 0)):=Lib.hid HTK.out
       clear HTK HFE
       gi_upto_region 20 with fail
       gi_loopw [4] (fun i wq=>∃ j:Nat,i = .int .i64 ((k+j:Nat):Int)∧k+j≤s.length∧Hid (Lx.wl Lx.dig (s.drop k)=j+Lx.wl Lx.dig (s.drop (k+j)))∧wq=W5) (fun i _=>s.length - (intOf i).toNat)
       case atStart=>exact ⟨0,rfl,hk,Lib.hid (by simp),rfl⟩
       case round =>
        obtain ⟨j,rfl,hj,hwl,rfl⟩:=hrel
        obtain ⟨m,hm⟩:∃ m,m=k+j:=⟨_,rfl⟩
        rw[← hm]
        have HM:=Lib.hid hm
        rw[← hm] at hj hwl
        clear hm
        gi_wp2
        refine ⟨trivial,(fun h0=>by cases h0),?_⟩
        refine (callsIn_wide.2 (at_list _ s (m:Int) m rfl bt bc sb HSB d1 HT1.out)).mono ?_
        rintro e W6 ⟨rfl,rfl⟩
        obtain ⟨d,hd⟩:∃ d,Lx.at' s m=d:=⟨_,rfl⟩
        rw[hd]
        by_cases hw:d=4
        · have hm:=(Lx.wl_dig s m).2 (by rw[hd];exact hw)
          have HMO:Hid (Lx.wl Lx.dig (s.drop m)=Lx.wl Lx.dig (s.drop (m+1))+1):=Lib.hid ((Lx.wl_dig s m).1.trans (if_pos (by rw[hd];exact hw)))
          clear hd
          subst hw
          gi_wp2
          refine ⟨⟨.int .i64 ((m:Int)+1),_,_,_,_,_,_,⟨j+1,vint (by have:=HM.out;omega),by have:=HM.out;omega,wl_more hwl HM HMO.out,trivial⟩,rfl⟩,?_⟩
          simp[intOf];omega
        have hw0:Lx.wl Lx.dig (s.drop m)=0:=(Lx.wl_dig s m).1.trans (if_neg (by rw[hd];exact hw))
        have HWJ:Hid (Lx.wl Lx.dig (s.drop k)=j):=Lib.hid (by rw[hwl.out,hw0,Nat.add_zero])
        have hj0:0 < j:=by
         have h9:=HWJ.out
         rw[(Lx.wl_dig s k).1,if_pos HCc.out] at h9
         omega
        have n4:((d:Int) == 4)=false:=beq_eq_false_iff_ne.2 (by omega)
        have e10:(m:Int) - (k:Int)=(j:Int):=by have:=HM.out;omega
        have HD:=Lib.hid hd
        have HDE:Hid (Lx.tok (s.drop k)=(2,j,if 10 < j∨d=3∨d=5 then 6 else 0)):=Lib.hid (by
         rw[HT4.out,HWJ.out,← HM.out,HD.out])
        clear hw hw0 hd
        by_cases h24:10 < j
        · have h24i:(10:Int) < (j:Int):=by omega
          gi_wp2
          refine ⟨trivial,(fun h0=>by cases h0),?_⟩
          refine (callsIn_wide.2 (at_list _ s (m:Int) m rfl bt bc sb HSB (by go_simp) ((HT1.out).other _ _ (by exact ne2)))).mono ?_
          rintro e W7 ⟨rfl,rfl⟩
          gi_wp2
          gi_meet
          case rel=>exact ⟨2,j,6,0,vint (by have:=HM.out;omega),Lib.hid ⟨by decide,by decide,HDE.out.trans (by rw[if_pos (Or.inl h24)]),by rw[mk_n (HDE.out.trans (by rw[if_pos (Or.inl h24)]))];rfl,by have:=HM.out;omega⟩,(HB1.out.set 0 _).set 4 _,((Chg.refl _ _).setCell _ _ (.inl (by simp))).setCell _ _ (.inl (by simp))⟩
        have h24i:¬ (10:Int) < (j:Int):=by omega
        gi_wp2
        refine ⟨trivial,(fun h0=>by cases h0),?_⟩
        refine (callsIn_wide.2 (at_list _ s (m:Int) m rfl bt bc sb HSB (by go_simp) ((HT1.out).other _ _ (by exact ne2)))).mono ?_
        rintro e W7 ⟨rfl,rfl⟩
        rw[HD.out]
        by_cases h35:d=3∨d=5
        · have HR:Hid (Lx.tok (s.drop k)=(2,j,6)):=Lib.hid (by rw[HDE.out,if_pos (.inr h35)])
          clear HDE HD HT4
          rcases h35 with rfl|rfl
          · gi_wp2
            exact mLxI2
          gi_wp2
          exact mLxI2
        have HR:Hid (Lx.tok (s.drop k)=(2,j,0)):=Lib.hid (by rw[HDE.out,if_neg];omega)
        have n3:((d:Int) == 3)=false:=beq_eq_false_iff_ne.2 (by omega)
        have n5:((d:Int) == 5)=false:=beq_eq_false_iff_ne.2 (by omega)
        clear HDE HD HT4 h35
        have s1:(0:Int)≤(k:Int):=by omega
        have s2:(k:Int)≤(m:Int):=by have:=HM.out;omega
        have s3:(m:Int)≤(sb.size:Int):=by have:=HSZ.out;omega
        gi_wp2
        refine ⟨trivial,(fun h0=>by cases h0),?_⟩
        refine (callsIn_wide.2 (Tryz.strconv_Atoi (sb.extract k m) ((Lx.num ((s.drop k).take j):Nat):Int) ?hl ?hat _)).mono ?_
        case hl =>
         rw[HM.out,sb_cut HSB]
         show ((s.drop k).take j).length≤18
         rw[List.length_take]
         omega
        case hat =>
         rw[HM.out,sb_cut HSB]
         refine atoi_num _ ?_ (fun c hc=>?_)
         · intro h9
           have h8:=congrArg List.length h9
           rw[List.length_take,List.length_drop] at h8
           have:=HLT.out
           have:=HM.out
           simp at h8
           omega
         rw[← HWJ.out] at hc
         have:=wl_take _ _ hc
         unfold Lx.dig at this
         exact of_decide_eq_true this
        rintro e W8 ⟨rfl,t,hW8⟩
        obtain ⟨nu,hnu⟩:∃ nu,Lx.num ((s.drop k).take j)=nu:=⟨_,rfl⟩
        rw[hnu]
        have HNU:=Lib.hid hnu
        have HC8:Chg [] (W6.setCell ⟨g,0,none⟩ (.int .i64 2)) W8:=by rw[hW8];exact chg_bytes _ _ _
        have HB8:=Lib.hid (HC8.blk (HB1.out.set 0 (.int .i64 2)) (by simp))
        have y2:=HB8.out.cell (i:=2) rfl
        have z2:=HB8.out.free 2
        have HC9:Hid (Chg [g] W6 W8):=Lib.hid (((Chg.refl [g] W6).setCell ⟨g,0,none⟩ (.int .i64 2) (.inl (by simp))).trans HC8 (by simp))
        clear hW8 HC8 hnu
        gi_wp2
        gi_meet
        case rel=>exact ⟨2,j,0,nu,vint (by have:=HM.out;omega),Lib.hid ⟨by decide,by decide,HR.out,by rw[mk_n HR.out,← HNU.out];rfl,by have:=HM.out;omega⟩,HB8.out.set 2 _,HC9.out.setCell _ _ (.inl (by simp))⟩
     · have g4:=HB1.out.cell (i:=4) rfl
       exact mLxI4
     · have HR:Hid (Lx.tok (s.drop k)=(3,1,0)):=Lib.hid HTK.out
       clear HTK HFE
       have g0:=HB1.out.cell (i:=0) rfl
       have f0:=HB1.out.free 0
       gi_wp2
       refine ⟨trivial,(fun h0=>by cases h0),?_⟩
       refine (callsIn_wide.2 (at_list _ s (k:Int) k rfl bt bc sb HSB (by go_simp) ((HT1.out).other _ _ (by exact ne2)))).mono ?_
       rintro e W7 ⟨rfl,rfl⟩
       rw[HCc.out]
       gi_wp2
       gi_meet
       case rel=>exact ⟨3,1,0,0,vint (by omega),Lib.hid ⟨by decide,by decide,HR.out,by rw[mk_n HR.out];rfl,HLT.out⟩,HB1.out.set 0 _,(Chg.refl _ _).setCell _ _ (.inl (by simp))⟩
     · have HR:Hid (Lx.tok (s.drop k)=if s[k+1]? = some 61 then (3,2,0) else (3,1,0)):=Lib.hid (by rw[HTK.out];simp)
       clear HTK HFE
       have g0:=HB1.out.cell (i:=0) rfl
       have f0:=HB1.out.free 0
       gi_wp2
       refine ⟨trivial,(fun h0=>by cases h0),?_⟩
       refine (callsIn_wide.2 (at_list _ s (k:Int) k rfl bt bc sb HSB (by go_simp) ((HT1.out).other _ _ (by exact ne2)))).mono ?_
       rintro e W7 ⟨rfl,rfl⟩
       rw[HCc.out]
       have r0:(0:Int)≤(k:Int)+1:=by omega
       by_cases h1:k+1 < s.length
       · have r1:(k:Int)+1 < (sb.size:Int):=by rw[HSZ.out];omega
         gi_wp2
         · rename_i hx
           exact mLxI1
         rename_i hx
         have HR1:Hid (Lx.tok (s.drop k)=(3,1,0)):=Lib.hid (by rw[HR.out,if_neg (fun h9=>by have:=(eq61 HSB _ _ hx).1 h9;cases this)])
         gi_meet
         case rel=>exact ⟨3,1,0,0,vint (by omega),Lib.hid ⟨by decide,by decide,HR1.out,by rw[mk_n HR1.out];rfl,HLT.out⟩,HB1.out.set 0 _,(Chg.refl _ _).setCell _ _ (.inl (by simp))⟩
       have r1:¬ (k:Int)+1 < (sb.size:Int):=by rw[HSZ.out];omega
       have HR1:Hid (Lx.tok (s.drop k)=(3,1,0)):=Lib.hid (by rw[HR.out,List.getElem?_eq_none (by omega)];rfl)
       gi_wp2
       gi_meet
       case rel=>exact ⟨3,1,0,0,vint (by omega),Lib.hid ⟨by decide,by decide,HR1.out,by rw[mk_n HR1.out];rfl,HLT.out⟩,HB1.out.set 0 _,(Chg.refl _ _).setCell _ _ (.inl (by simp))⟩
     have HR:Hid (Lx.tok (s.drop k)=if s[k+1]? = some 61 then (3,2,0) else (3,1,5)):=Lib.hid (by rw[HTK.out];simp)
     clear HTK HFE
     have g0:=HB1.out.cell (i:=0) rfl
     have f0:=HB1.out.free 0
     have g4:=HB1.out.cell (i:=4) rfl
     have f4:=HB1.out.free 4
     gi_wp2
     refine ⟨trivial,(fun h0=>by cases h0),?_⟩
     refine (callsIn_wide.2 (at_list _ s (k:Int) k rfl bt bc sb HSB (by go_simp) ((HT1.out).other _ _ (by exact ne2)))).mono ?_
     rintro e W7 ⟨rfl,rfl⟩
     rw[HCc.out]
     have r0:(0:Int)≤(k:Int)+1:=by omega
     by_cases h1:k+1 < s.length
     · have r1:(k:Int)+1 < (sb.size:Int):=by rw[HSZ.out];omega
       gi_wp2
       · rename_i hx
         exact mLxI1
       rename_i hx
       have HR1:Hid (Lx.tok (s.drop k)=(3,1,5)):=Lib.hid (by rw[HR.out,if_neg (fun h9=>by have:=(eq61 HSB _ _ hx).1 h9;cases this)])
       exact mLxI3
     have r1:¬ (k:Int)+1 < (sb.size:Int):=by rw[HSZ.out];omega
     have HR1:Hid (Lx.tok (s.drop k)=(3,1,5)):=Lib.hid (by rw[HR.out,List.getElem?_eq_none (by omega)];rfl)
     gi_wp2
     exact mLxI3
    case rest =>
     obtain ⟨kd,ln,er,nv,rfl,hH,hBg,hCg⟩:=hcut
     obtain ⟨m,hm⟩:∃ m,m=k+ln:=⟨_,rfl⟩
     rw[← hm]
     have HM:=Lib.hid hm
     have hms:m≤s.length:=by rw[hm];exact hH.out.2.2.2.2
     clear hm
     have d1':wc.cell? ⟨bt,0,none⟩=some (.string sb):=(World.cell?_of_block (a:=⟨bt,0,none⟩) (hCg.block bt (World.block_lt_of_cell? _ _ d1) (by simp[ne1]))).trans d1
     have g0:=hBg.cell (i:=0) rfl
     have g1:=hBg.cell (i:=1) rfl
     have f1:=hBg.free 1
     have g2:=hBg.cell (i:=2) rfl
     have g3:=hBg.cell (i:=3) rfl
     have g4:=hBg.cell (i:=4) rfl
     have HBg:=Lib.hid hBg
     have HCg:Hid (Chg [] wr wc):=Lib.hid (HC1.out.trans hCg (fun x hx=>.inr (by simp at hx;rw[hx,HG.out];exact Nat.le_refl _)))
     have s1:(0:Int)≤(k:Int):=by omega
     have s2:(k:Int)≤(m:Int):=by have:=HM.out;omega
     have s3:(m:Int)≤(sb.size:Int):=by rw[HSZ.out];omega
     clear hBg hCg d1 HT1 HC1 HB1
     obtain ⟨x,hx⟩:∃ x:Lx.Tk × Nat,x=(Lx.mk k (s.drop k),er):=⟨_,rfl⟩
     have HX:Hid (Lx.from' s k=x :: (if er≠0 then [] else Lx.from' s m)):=Lib.hid (by
      rw[HFE.out,if_neg hH.out.1,if_neg hH.out.2.1,hH.out.2.2.1,hx,HM.out]
      by_cases h0:er=0
      · rw[if_neg (by simpa using h0),if_neg (by simpa using h0),h0]
      rw[if_pos h0,if_pos h0])
     have HXE:Hid (fnd x = .agg #[.int .i64 kd,.string (sb.extract k m),.int .i64 nv,.int .i64 k,.int .i64 er]):=Lib.hid (by
      rw[hx,HM.out,sb_cut HSB]
      unfold fnd
      simp only[hH.out.2.2.2.1]
      unfold Lx.mk
      rw[hH.out.2.2.1])
     have HLN:Hid (er=0→0 < ln):=Lib.hid (fun h0=>by
      have h9:=hH.out.2.2.1
      rw[List.drop_eq_getElem_cons HLT.out] at h9
      have h8:=Lx.tok_pos (c:=s[k]'HLT.out) (r:=s.drop (k+1)) (by rw[h9];exact h0)
      rw[h9] at h8
      exact h8.1)
     clear hx HFE HTK hH
     gi_upto_region 38 with fail
     obtain ⟨W9,hW9⟩:∃ W9,W9=wc.setCell ⟨g,1,none⟩ (.string (sb.extract k m)):=⟨_,rfl⟩
     rw[← hW9]
     have hB9:Blk W9 g [.int .i64 kd,.string (sb.extract k m),.int .i64 nv,.int .i64 k,.int .i64 er] 129:=by rw[hW9];exact HBg.out.set 1 _
     have hC9:Chg [] wr W9:=by rw[hW9];exact HCg.out.setCell _ _ (.inr (by rw[← HG.out];exact Nat.le_refl _))
     have hl9:g < W9.heap.size:=hB9.lt
     obtain ⟨fn,tmps,assign,body,hy,hR⟩:=HY.out pre x W9 (HJ.out _ _ _ HJ1.out hC9.grown0) (by rw[hfr.out,HX.out];exact ⟨if er≠0 then [] else Lx.from' s m,by simp⟩)
     rw[HXE.out] at hy
     have HC9:=Lib.hid hC9
     have HB9:=Lib.hid hB9
     have p0:=hB9.cell (i:=0) rfl
     have p1:=hB9.cell (i:=1) rfl
     have p2:=hB9.cell (i:=2) rfl
     have p3:=hB9.cell (i:=3) rfl
     have p4:=hB9.cell (i:=4) rfl
     have hKK:=fun B hk=>HK.out pre wr W9 B g HJ1.out hC9.grown0 (by rw[HG.out];exact Nat.le_refl _) hl9 ⟨0,_,p0⟩ hk
     have HKK:=Lib.hid hKK
     clear hB9 hC9 hW9 HBg HCg g0 g1 g2 g3 g4 f1 d1' hKK hl9
     gi_wp2
     refine ⟨(fun h0=>by cases h0),?_⟩
     refine hR.mono ?_
     rintro e W3 (⟨rfl,hJ3,hk3⟩|⟨rfl,hJx3⟩)
     · have e4:W3.cell? ⟨g,4,none⟩=some (.int .i64 er):=(World.cell?_of_block (a:=⟨g,4,none⟩) (HKK.out _ hk3)).trans p4
       have HJ3:=Lib.hid hJ3
       clear hJ3 hk3 hy hR p0 p1 p2 p3 p4
       by_cases h0:er=0
       · subst h0
         have hl0:=HLN.out rfl
         gi_wp2
         go_roundw
         case rel=>exact ⟨m,pre++[x],rfl,hms,Lib.hid (by rw[hfr.out,HX.out,if_neg (by simp)];simp),HJ3.out⟩
         case measure=>have:=HM.out;simp[intOf];omega
       have n0:((er:Int) != 0)=true:=bne_iff_ne.2 (by omega)
       gi_wp2
       simp only[Exit.inBlock,Exit.then,Exit.noGoto]
       refine bodyPost_ret (results_none rfl _ _ _) rfl ?_
       refine ⟨⟨_,rfl⟩,.inl ?_⟩
       rw[hfr.out,HX.out,if_pos h0]
       exact HJ3.out
     gi_wp2
     simp only[Exit.inBlock,Exit.then,Exit.noGoto]
     refine bodyPost_ret (results_none rfl _ _ _) rfl ?_
     exact ⟨⟨_,rfl⟩,.inr ⟨_,by rw[hfr.out,HX.out];exact ⟨if er≠0 then [] else Lx.from' s m,by simp⟩,hJx3⟩⟩
  have q1:¬ (k:Int) < (sb.size:Int):=by rw[HSZ.out];omega
  have HKE:Hid (k=s.length):=Lib.hid (by omega)
  gi_wp2
  go_end0
  refine ⟨⟨_,rfl⟩,.inl ?_⟩
  rw[hfr.out,HKE.out,Lx.from_end s _ (Nat.le_refl _),List.append_nil]
  exact HJ1.out
end Go.Proofs.YtglepipfdmphhaaGreatDoor
namespace Go.Proofs.YtglepipfdmphhaaGreatDoor
set_option linter.unusedVariables false
set_option linter.unusedSimpArgs false
open Go Go.RowKit Go.Shelf
section
variable {α:Type} {P:Program} {n:Nat}
def Gives (P:Program) (n:Nat) (g:Nat) (lb:Array Value) (enc:α→Value) (Kp:World→World→Prop) (Pr:World→Prop) (all:List α):Prop :=
 ∀ (l:Nat) (J Jx:List α→World→Prop) (W:World),
  (∀ pre A B,J pre A→A.grownBy B none→J pre B)→(∀ pre A,J pre A→Pr A) →
  (∀ pre V A B g,J pre V→V.grownBy A none→V.heap.size≤g→g < A.heap.size→(∃ i u,A.cell? ⟨g,i,none⟩=some u)→Kp A B→B.heap[g]? = A.heap[g]?) →
  (∀ pre x A,J pre A→(pre++[x]) <+: all→YieldAt Fence.wide (n - 1) P l #[enc x] A fun e B =>
   (e = .returned (.bool true)∧J (pre++[x]) B∧Kp A B)∨(e = .returned (.bool false)∧Jx (pre++[x]) B)) →
  J [] W→CallsIn Fence.wide n P g (#[.func (.yield l) #[] #[]]++lb) W fun e B=>(∃ v,e = .returned v)∧(J all B∨∃ pre,pre <+: all∧Jx pre B)
def Cellish (B:Nat) (I:World→Prop):Prop:=(∀ W o,I W→I (W.alloc o))∧(∀ W W',I W→W.grownBy W' none→I W')∧∀ W l o o',B≤l→W.heap[l]? = some o→o.isCells=false→I W→I (W.putObj l o')
def BodyEnd (B:Nat) (Kp:World→World→Prop) (I Ix:World→Prop) (W:World):Exit→Act→World→Prop
 | .normal,_,W'=>KeepsFrom B W W'∧Kp W W'∧I W'
 | .ret,_,W'=>KeepsFrom B W W'∧Ix W'
 | _,_,_=>False
theorem range_gives {g:Operand} {p:Tmp} {assign body:Code} {Q:Exit→Act→World→Prop} {a:Act} {w:World} {gf:Nat} {lb:Array Value}
 (h1:1≤n) (hg:a.eval g = .func (.func gf) #[] lb) (eg:∀ args w,(callFunc gf args).run P w = .ok (.enter gf args) w)
 {enc:α→Value} {Kp:World→World→Prop} {Pr:World→Prop} {all:List α} (hseq:Gives P (n - 1) gf lb enc Kp Pr all)
 (hKt:∀ {A B C:World},Kp A B→Kp B C→Kp A C) (hKb:∀ (W:World) (l:Nat) (o o':Obj),w.heap.size≤l→W.heap[l]? = some o→o.isCells=false→Kp W (W.putObj l o'))
 (I Ix:List α→World→Prop) (hI:∀ pre,Cellish w.heap.size (I pre)) (hIx:∀ pre,Cellish w.heap.size (Ix pre)) (hPr:∀ pre A,I pre A→Pr A)
 (hKK:∀ pre V A B g,I pre V→V.grownBy A none→V.heap.size≤g→g < A.heap.size→(∃ i u,A.cell? ⟨g,i,none⟩=some u)→Kp A B→B.heap[g]? = A.heap[g]?)
 (h0:I [] w) (a₁:α→World→Act) (w₁:α→World→World) (hw₁:∀ (x:α) (W:World),W.grownBy (w₁ x W) none) (hKw:∀ (pre:List α) (x:α) (W:World),I pre W→Kp W (w₁ x W))
 (hassign:∀ (l:Nat) (x:α) (W:World) (K:Act→World→Prop),K (a₁ x W) (w₁ x W) →
  assign.wpIn (Fence.wide.inRound l) (n - 1 - 1) P (Exit.then K (fun _ _ _=>False)) { tmps:=a.tmps.setIfInBounds p (enc x),defers:=[] } W)
 (hbody:∀ (l:Nat) (pre:List α) (x:α) (W W':World),I pre W→I pre W'→(∀ k,W.heap.size≤k→W'.heap[k]? = (w₁ x W).heap[k]?)→(pre++[x]) <+: all→body.wpIn (Fence.wide.inRound l) (n - 1 - 1) P (BodyEnd w.heap.size Kp (I (pre++[x])) (Ix (pre++[x])) W') (a₁ x W) W')
 (hdone:∀ (D:Nat) (W:World),w.heap.size≤D→I all W→W.heap[D]? = some (.deferred (some []))→Q .normal { a with defers:={ target:=.collected D,args:=#[] } :: a.defers } W)
 (hstop:∀ (D:Nat) (pre:List α) (W:World),w.heap.size≤D→pre <+: all→Ix pre W→W.heap[D]? = some (.deferred (some []))→Q .ret { a with defers:={ target:=.collected D,args:=#[] } :: a.defers } W) :
 (Code.rangeFunc g #[p] assign body).wpIn Fence.wide n P Q a w:=by
 refine wpIn_rangeFunc fun fn hfn=>?_
 let rec0:LoopState→Option Code→Loop:=fun st pe=>{ state:=st,pending:=pe,fn:=fn,tmps:=a.tmps,params:=#[p],assign:=assign,body:=body,defers:=w.heap.size }
 have hrec:∀ st pe,rec0 st pe = { state:=st,pending:=pe,fn:=fn,tmps:=a.tmps,params:=#[p],assign:=assign,body:=body,defers:=w.heap.size }:=fun _ _=>rfl
 generalize rec0=R at hrec
 obtain ⟨W1,hW1⟩:∃ W1,W1=(w.alloc (.deferred (some []))).alloc (.loop (R .ready none)):=⟨_,rfl⟩
 have hL:W1.heap[w.heap.size+1]? = some (.loop (R .ready none)):=by
  rw[hW1];have:=World.alloc_heap_new (w.alloc (.deferred (some []))) (.loop (R .ready none));rwa [World.size_alloc] at this
 have hD:W1.heap[w.heap.size]? = some (.deferred (some [])):=by
  rw[hW1];exact (Below.heap_alloc _ _ _ (by simp)).trans (World.alloc_heap_new w _)
 have hI1:I [] W1:=by rw[hW1];exact (hI _).1 _ _ ((hI _).1 _ _ h0)
 refine ⟨w.heap.size+1,[{ target:=.collected w.heap.size,args:=#[] }],W1,{ target:=.fn (.func gf) lb,args:=#[.func (.yield (w.heap.size+1)) #[] #[]] },W1,gf,
  #[.func (.yield (w.heap.size+1)) #[] #[]]++lb,W1,?_,?_,fun _ _=>trivial,?_,fun _=>h1,?_⟩
 · rw[hW1,hrec];exact run_enterLoop_outer _ _ _ _ _
 · simp only[resolve,hg]
   simp[go_sem]
 · simp[invoke,go_sem,eg]
 refine (hseq (w.heap.size+1) (fun pre W=>I pre W∧W.heap[w.heap.size+1]? = some (.loop (R .ready none))∧W.heap[w.heap.size]? = some (.deferred (some [])))
  (fun pre W=>Ix pre W∧W.heap[w.heap.size+1]? = some (.loop (R .done (some .ret)))∧W.heap[w.heap.size]? = some (.deferred (some []))) W1
  (fun pre A B hs hg'=>⟨(hI pre).2.1 A B hs.1 hg',(hg'.block _ (Array.getElem?_eq_some_iff.1 hs.2.1).1 (by simp)).trans hs.2.1,(hg'.block _ (Array.getElem?_eq_some_iff.1 hs.2.2).1 (by simp)).trans hs.2.2⟩)
  (fun pre A hs=>hPr pre A hs.1) (fun pre V A B g hs=>hKK pre V A B g hs.1) ?_ ⟨hI1,hL,hD⟩).mono ?_
 · rintro pre x W0 ⟨hi0,hl0,hd0⟩ hpre
   have hlt0:w.heap.size+1 < W0.heap.size:=(Array.getElem?_eq_some_iff.1 hl0).1
   have hy:=run_yield (P:=P) (args:=#[enc x]) hl0 (by rw[hrec];rfl)
   have hg1:=hw₁ x W0
   have hkw:=hKw pre x W0 hi0
   have hi:=(hI pre).2.1 _ _ hi0 hg1
   have hl:=(hg1.block _ hlt0 (by simp)).trans hl0
   have hd:=(hg1.block w.heap.size (by omega) (by simp)).trans hd0
   have hlt:=Nat.lt_of_lt_of_le hlt0 hg1.size
   have hbr:=run_beginRound (P:=P) hl (by rw[hrec])
   have hbusy:({ R .ready none with state:=.busy }:Loop)=R .busy none:=by rw[hrec,hrec]
   rw[hbusy] at hbr
   refine ⟨fn,a.tmps.setIfInBounds p (enc x),assign,body,by rw[hy,hrec];simp,roundIn_of_wpIn hfn (hassign _ x W0 _ ⟨_,hbr,?_⟩)⟩
   obtain ⟨W,hW⟩:∃ W,W=w₁ x W0:=⟨_,rfl⟩
   rw[← hW] at hi hl hd hlt hkw ⊢
   have hl2:(W.putObj (w.heap.size+1) (.loop (R .busy none))).heap[w.heap.size+1]? = some (.loop (R .busy none)):=World.putObj_heap_same hlt
   have hd2:(W.putObj (w.heap.size+1) (.loop (R .busy none))).heap[w.heap.size]? = some (.deferred (some [])):=(World.putObj_heap_other (by omega)).trans hd
   have hk2:Kp W0 (W.putObj (w.heap.size+1) (.loop (R .busy none))):=hKt hkw (hKb _ _ _ _ (by omega) hl rfl)
   refine wpIn_mono (hbody _ pre x W0 _ hi0 ((hI pre).2.2 _ _ _ _ (by omega) hl rfl hi) (fun k hk=>by rw[← hW];exact World.putObj_heap_other (by omega)) hpre) ?_
   intro e a3 W3 hp
   cases e with
   | normal =>
    obtain ⟨hk3,hkp3,hi3⟩:=hp
    have hl3:=hk3.same _ _ (by omega) hl2 rfl
    have hd3:=hk3.same _ _ (Nat.le_refl _) hd2 rfl
    have her:=run_endRound (P:=P) none hl3
    have hrdy:({ R .busy none with state:=if (none:Option Code).isNone then .ready else .done,pending:=none }:Loop)=R .ready none:=by rw[hrec,hrec];rfl
    rw[hrdy] at her
    exact ⟨_,_,her,.inl ⟨rfl,⟨(hI _).2.2 _ _ _ _ (by omega) hl3 rfl hi3,World.putObj_heap_same (Array.getElem?_eq_some_iff.1 hl3).1,(World.putObj_heap_other (by omega)).trans hd3⟩,hKt (hKt hk2 hkp3) (hKb _ _ _ _ (by omega) hl3 rfl)⟩⟩
   | ret =>
    obtain ⟨hk3,hi3⟩:=hp
    have hl3:=hk3.same _ _ (by omega) hl2 rfl
    have hd3:=hk3.same _ _ (Nat.le_refl _) hd2 rfl
    have her:=run_endRound (P:=P) (some .ret) hl3
    have hrdy:({ R .busy none with state:=if (some Code.ret:Option Code).isNone then .ready else .done,pending:=some .ret }:Loop)=R .done (some .ret):=by rw[hrec,hrec];rfl
    rw[hrdy] at her
    exact ⟨_,_,her,.inr ⟨rfl,(hIx _).2.2 _ _ _ _ (by omega) hl3 rfl hi3,World.putObj_heap_same (Array.getElem?_eq_some_iff.1 hl3).1,(World.putObj_heap_other (by omega)).trans hd3⟩⟩
   | exit id=>exact hp.elim
   | goto t=>exact hp.elim
   | panic ch=>exact hp.elim
   | outgrown=>exact hp.elim
 rintro e W2 ⟨⟨v,rfl⟩,(⟨hi,hl,hd⟩|⟨pre,hpre,hi,hl,hd⟩)⟩
 · have hel:=run_endLoop (P:=P) hl (by rw[hrec];simp)
   rw[show (R .ready none).pending=none by rw[hrec]] at hel
   exact ⟨none,_,hel,hdone _ _ (Nat.le_refl _) ((hI _).2.2 _ _ _ _ (by omega) hl rfl hi) ((World.putObj_heap_other (by omega)).trans hd)⟩
 have hel:=run_endLoop (P:=P) hl (by rw[hrec];simp)
 rw[show (R .done (some .ret)).pending=some .ret by rw[hrec]] at hel
 exact ⟨some .ret,_,hel,wpIn_ret (hstop _ _ _ (Nat.le_refl _) hpre ((hIx _).2.2 _ _ _ _ (by omega) hl rfl hi) ((World.putObj_heap_other (by omega)).trans hd))⟩
end
end Go.Proofs.YtglepipfdmphhaaGreatDoor
namespace Go.Proofs.YtglepipfdmphhaaGreatDoor
set_option linter.unusedVariables false
set_option linter.unusedSimpArgs false
open Go Go.RowKit Go.Shelf
theorem rows_round {P:Program} {r:String} {args:Array Value} {w:World} {R:Value→World→Prop} {l n:Nat} (h:Rows P r args w R):RowsIn (Fence.wide.inRound l) n P r args w R :=
 fun c cs _=>let ⟨v,w',hr,s⟩:=h c cs;⟨v,w',hr,stepsIn_wide.2 s⟩
theorem oper_round {P:Program} {o:Oper} {a:Act} {w:World} {K:Act→World→Prop} {Q:Exit→Act→World→Prop} {l n:Nat} (hs:∀ c,o.op≠.defer c)
 (h:o.wp P a w K Q):o.wpIn (Fence.wide.inRound l) n P a w K Q:=by
 refine ⟨fun _ _=>trivial,?_⟩
 show o.uponIn (Fence.wide.inRound l) n P a K Q ((o.semAt (some l) a.eval).run P w)
 rw[Oper.semAt_eq _ _ _ hs]
 unfold Oper.wp at h
 generalize (execOp a.eval o).run P w=r at h
 match r,h with
 | .ok (.value v) w',h=>exact h
 | .ok .skip w',h=>exact h
 | .ok (.defer d) w',h=>exact h
 | .ok (.enter f args) w',h=>exact ⟨(fun h0=>by cases h0),CallsIn.inRound l (callsIn_wide.2 h)⟩
 | .ok (.row r args) w',h=>exact ⟨(fun h0=>by cases h0),rows_round h⟩
 | .ok (.round ..) w',h=>exact h.elim
 | .halt (.panic v) w',h=>exact h
theorem any_round {P:Program} {md:Region.Mode} {ops:Array Oper} {Q:Exit→Act→World→Prop} {l n:Nat} (hops:∀ (i:Nat) (o:Oper),ops[i]? = some o→∀ c,o.op≠.defer c) (hno:¬ LetsOut Q) :
 ∀ (fuel:Nat) (listed:Array Bool) (a:Act) (w:World),wpAny P md ops Q fuel listed a w→wpAnyIn (Fence.wide.inRound l) n P md ops Q fuel listed a w:=by
 intro fuel
 induction fuel with
 | zero=>exact fun _ _ _ h=>h
 | succ fuel ih =>
  intro listed a w h
  refine ⟨h.1,fun i hi=>?_⟩
  have hw:=h.2 i hi
  unfold wpOp at hw
  unfold wpOpIn
  cases ho:ops[i]? with
  | none=>rw[ho] at hw;exact ih _ _ _ hw
  | some o =>
   rw[ho] at hw
   simp only at hw ⊢
   by_cases hwant:Region.wanted o (yielded ops a.tmps)=true
   · rw[if_pos hwant] at hw ⊢
     rcases hw with hw|hw
     · exact Oper.wpIn_mono (ih _) (oper_round (hops i o ho) hw)
     exact absurd hw.2 hno
   rw[if_neg hwant] at hw ⊢
   exact ⟨fun _ _=>trivial,ih _ _ _ hw⟩
theorem region_round {P:Program} {id:Nat} {ops:Array Oper} {Q:Exit→Act→World→Prop} {a:Act} {w:World} {l n:Nat} (hm:P.follows .mixedOrders=true) (hops:∀ (i:Nat) (o:Oper),ops[i]? = some o→∀ c,o.op≠.defer c) (hno:¬ LetsOut Q)
 (h:wpAny P .any ops Q ops.size (Array.replicate ops.size false) a w.drew):(Code.region id ops true).wpIn (Fence.wide.inRound l) n P Q a w :=
 wpIn_region_any hm (any_round hops hno _ _ _ _ h)
def noDefer (o:Oper):Bool:=match o.op with
 | .defer _=>false
 | _=>true
theorem region_round' {P:Program} {id:Nat} {ops:Array Oper} {Q:Exit→Act→World→Prop} {a:Act} {w:World} {l n:Nat} (hm:P.follows .mixedOrders=true) (hops:ops.all noDefer=true) (hno:¬ LetsOut Q)
 (h:wpAny P .any ops Q ops.size (Array.replicate ops.size false) a w.drew):(Code.region id ops true).wpIn (Fence.wide.inRound l) n P Q a w :=
 region_round hm (fun i o ho c hc=>by
  have h1:=Array.all_eq_true.1 hops i (Array.getElem?_eq_some_iff.1 ho).1
  rw[(Array.getElem?_eq_some_iff.1 ho).2] at h1
  unfold noDefer at h1
  rw[hc] at h1
  cases h1) hno h
theorem region_round_tail {P:Program} {id:Nat} {Q:Exit→Act→World→Prop} {a:Act} {w:World} {l:List Oper} {lr n':Nat} (n:Nat) (hm:P.follows .mixedOrders=true) (hB:Region.lexTailB .any l.toArray n=true)
 (hops:l.toArray.all noDefer=true) (hno:¬ LetsOut Q) (h:∀ L:Act→Prop,(∀ a',wpList P l.toArray Q (l.drop n) a' w.drew→L a')→wpStill P l.toArray w.drew L (l.take n) a):(Code.region id l.toArray true).wpIn (Fence.wide.inRound lr) n' P Q a w:=by
 have h:=h _ (fun _ h=>h)
 simp only[Region.lexTailB,Bool.and_eq_true,decide_eq_true_eq] at hB
 obtain ⟨⟨⟨⟨hsel,hn⟩,hs⟩,hc⟩,hlex⟩:=hB
 have hn':n < l.length:=by simpa using hn
 have htl:(l.take n).length=n:=by simp;omega
 have hdl:(l.drop n).length=l.toArray.size - n:=by simp
 have inv0:HeadInv .any l.toArray n (Array.replicate l.toArray.size false) :=
  ⟨by simp,fun j oj _ hl=>(by rw[getD_replicate_false] at hl;cases hl),fun t _ ht=>getD_in (by simpa using ht) (getD_replicate_false _ _)⟩
 have H:=wpAnyL_lex (md:=.any) (g:=l.toArray.size - n) hsel hs hc hn (l.take n) 0 _ a (fun j hj=>by
  have hj':j < n:=by rw[htl] at hj;exact hj
  simp[hj']) (by simpa using htl) inv0 (by rw[htl];exact hlex) h
 refine region_round' hm hops hno ?_
 have:=wpAny_of_head (Q':=Q) (g:=l.toArray.size - n) (fun listed a' hL=>by
  have:=wpAny_of_seq (md:=.any) (Q':=Q) (l.drop n) n listed a' w.drew (fun j=>by simp[List.getElem?_drop]) (by rw[hdl];exact hL.1) hL.2
  rwa [hdl] at this) _ _ _ H
 rw[htl,show n+(l.toArray.size - n)=l.toArray.size by omega] at this
 exact this
theorem wpListIn_append_lies {F:Fence} {nn:Nat} {P:Program} (w:World) {ops:Array Oper} {rest:List Oper} {o:Oper} {a:Act} {Q:Exit→Act→World→Prop}
 (hgd:o.guard=none) (s x:Operand) (t:TypeId) (ho:o.op = .call { callee:=.builtin .append,args:=#[s,x],argTypes:=#[t,t] })
 (base:Nat) (e:TypeId) (i:TypeInfo) (z:Value) (size bytes:Nat) (ht:P.underlying t=some (.slice e)) (hi:P.info? e=some i) (hz:i.zero=some z)
 (hsize:i.size=size) (hby:i.bytes=bytes) (hzs:z.cells.size=size) (hsz:0 < size)
 (v:Value) (n:Nat) (xs:List Value) (hs:a.eval s=v) (hown:w.ownsRow base e size v n xs)
 (ad:Addr) (m c:Nat) (news:List Value) (hx:a.eval x = .slice (some ad) m c) (hl:news.length=m*size) (hnews:∀ j u,news[j]? = some u→w.cell? (ad.add j)=some u) (h1:∀ u ∈ news,u.oneCell'=true)
 (hm:0 < m) (h63:n+m≤maxLen) (hbytes:(n+m)*bytes≤140737488355328) (hbase:base≤w.heap.size) (H:Nat) (hH:w.heap.size=H)
 (h:∀ g cap w',w'.ownsRow base e size (.slice (some ⟨g,0,none⟩) (n+m) cap) (n+m) (xs++news)→w.grownBy w' v.ownBlock→(v.ownBlock=some g∨g=H)→g < w'.heap.size→wpListIn F nn P ops Q rest (a.put o.dst (.slice (some ⟨g,0,none⟩) (n+m) cap)) w') :
 wpListIn F nn P ops Q (o :: rest) a w:=by
 refine wpListIn_plain hgd fun K hK'=>?_
 obtain ⟨g,cap,w',hr,h2,h3,h4,h5⟩:=run_append_lies (P:=P) w t o.type base e i z size bytes ht hi hz hsize hby hzs hsz v n xs hown ad m c news hl hnews h1 hm h63 hbytes hbase H hH
 unfold Oper.wpIn
 refine ⟨?_,?_⟩
 · simp[Oper.about,ho,resolve,Target.leads,Sem.run_pure]
 rw[Oper.semAt_plain F _ _ (by rw[ho];intro c hc';cases hc')]
 simp[execOp,ho,resolve,invoke,builtin,hs,hx,hr,Result.andThen]
 exact hK' _ _ (h g cap w' h2 h3 h4 h5)
theorem row_keptB {w w':World} {B:Nat} {e:TypeId} {size:Nat} {v:Value} {n:Nat} {xs:List Value} (h:w.ownsRow B e size v n xs) (hc:Chg [] w w'):w'.ownsRow B e size v n xs:=by
 refine ⟨h.1,?_⟩
 rcases h.2 with h0|⟨g,cap,cur,rfl,hb,hg,rest⟩
 · exact .inl h0
 exact .inr ⟨g,cap,cur,rfl,hb,(hc.block g (Array.getElem?_eq_some_iff.1 hg).1 (by simp)).trans hg,rest⟩
theorem put_cells {W:World} {l k:Nat} {o o':Obj} {cs:Array Value} {e:TypeId} {fr:Nat × Nat} (hl:W.heap[l]? = some o) (ho:o.isCells=false) (hk:W.heap[k]? = some (.cells cs e fr)):(W.putObj l o').heap[k]? = some (.cells cs e fr):=by
 refine (World.putObj_heap_other ?_).trans hk
 intro h
 subst h
 rw[hl] at hk
 cases hk
 cases ho
theorem grown0_chg {w w':World} (h:w.grownBy w' none):Chg [] w w':=⟨h.os,h.tape,h.output,h.size,fun k hk _=>h.block k hk (by simp)⟩
def marks (Ds:List Nat):List Deferred:=Ds.map fun D=>{ target:=.collected D,args:=#[] }
def Marked (B:Nat) (Ds:List Nat) (w:World):Prop:=Ds.Nodup∧∀ D ∈ Ds,B≤D∧w.heap[D]? = some (.deferred (some []))
theorem Marked.nil (B:Nat) (w:World):Marked B [] w:=⟨List.nodup_nil,by simp⟩
theorem Marked.keeps {B:Nat} {Ds:List Nat} {w w':World} (h:Marked B Ds w) (hk:KeepsOthers w w'):Marked B Ds w' :=
 ⟨h.1,fun D hD=>⟨(h.2 D hD).1,hk.same _ _ (h.2 D hD).2 rfl⟩⟩
theorem Marked.lt {B:Nat} {Ds:List Nat} {w:World} (h:Marked B Ds w) {D:Nat} (hD:D ∈ Ds):D < w.heap.size:=(Array.getElem?_eq_some_iff.1 (h.2 D hD).2).1
theorem Marked.cons {B:Nat} {Ds:List Nat} {w:World} (h:Marked B Ds w) {D:Nat} (hn:D ∉ Ds) (hB:B≤D) (hD:w.heap[D]? = some (.deferred (some []))):Marked B (D :: Ds) w :=
 ⟨List.nodup_cons.2 ⟨hn,h.1⟩,fun E hE=>(List.mem_cons.1 hE).elim (fun h1=>by rw[h1];exact ⟨hB,hD⟩) (h.2 E)⟩
theorem Marked.chg {own:List Nat} {B:Nat} {Ds:List Nat} {w w':World} (h:Marked B Ds w) (hc:Chg own w w') (ho:∀ k ∈ own,∃ o,w.heap[k]? = some o∧o.isCells=true):Marked B Ds w' :=
 ⟨h.1,fun D hD=>⟨(h.2 D hD).1,(hc.block D (h.lt hD) (fun hm=>by
  obtain ⟨o,h1,h2⟩:=ho D hm
  rw[(h.2 D hD).2] at h1
  cases h1
  cases h2)).trans (h.2 D hD).2⟩⟩
structure KpP (bi bo:Nat) (A B:World):Prop where
 same:∀ k o,k≠bi→k≠bo→(∀ v,A.cell? ⟨bo,0,none⟩=some v→v.ownBlock≠some k)→A.heap[k]? = some o→o.isCells=true→B.heap[k]? = some o
 own:∀ v' k,B.cell? ⟨bo,0,none⟩=some v'→v'.ownBlock=some k→(∃ v,A.cell? ⟨bo,0,none⟩=some v∧v.ownBlock=some k)∨(A.heap.size≤k∧k < B.heap.size)
 size:A.heap.size≤B.heap.size
structure WfP (B0 bi bo:Nat) (V:World):Prop where
 li:bi < V.heap.size
 lo:bo < V.heap.size
 gi:B0≤bi
 go:B0≤bo
 own:∀ v k,V.cell? ⟨bo,0,none⟩=some v→v.ownBlock=some k→B0≤k∧k < V.heap.size
theorem WfP.grown {B0 bi bo:Nat} {A B:World} (h:WfP B0 bi bo A) (hg:A.grownBy B none):WfP B0 bi bo B:=by
 have hb:B.heap[bo]? = A.heap[bo]?:=hg.block bo h.lo (by simp)
 refine ⟨Nat.lt_of_lt_of_le h.li hg.size,Nat.lt_of_lt_of_le h.lo hg.size,h.gi,h.go,fun v k hv hk=>?_⟩
 have:=h.own v k ((World.cell?_of_block (a:=⟨bo,0,none⟩) hb).symm.trans hv) hk
 exact ⟨this.1,Nat.lt_of_lt_of_le this.2 hg.size⟩
theorem WfP.kp {B0 bi bo:Nat} {A B:World} (h:WfP B0 bi bo A) (hk:KpP bi bo A B):WfP B0 bi bo B:=by
 refine ⟨Nat.lt_of_lt_of_le h.li hk.size,Nat.lt_of_lt_of_le h.lo hk.size,h.gi,h.go,fun v k hv hkk=>?_⟩
 rcases hk.own v k hv hkk with ⟨u,hu,hku⟩|⟨h1,h2⟩
 · have:=h.own u k hu hku
   exact ⟨this.1,Nat.lt_of_lt_of_le this.2 hk.size⟩
 exact ⟨by have:=h.gi;have:=h.li;omega,h2⟩
theorem KpP.trans {bi bo:Nat} {A B C:World} (h:KpP bi bo A B) (h2:KpP bi bo B C):KpP bi bo A C:=by
 refine ⟨fun k o n1 n2 hn ho hc=>?_,fun v' k hv hk=>?_,Nat.le_trans h.size h2.size⟩
 · refine h2.same k o n1 n2 (fun v hv e=>?_) (h.same k o n1 n2 hn ho hc) hc
   rcases h.own v k hv e with ⟨u,hu,hku⟩|⟨h3,_⟩
   · exact hn u hu hku
   have:=(Array.getElem?_eq_some_iff.1 ho).1
   omega
 rcases h2.own v' k hv hk with ⟨u,hu,hku⟩|⟨h3,h4⟩
 · rcases h.own u k hu hku with h5|⟨h5,h6⟩
   · exact .inl h5
   exact .inr ⟨h5,Nat.lt_of_lt_of_le h6 h2.size⟩
 exact .inr ⟨Nat.le_trans h.size h3,h4⟩
theorem KpP.put {bi bo:Nat} {W:World} {l:Nat} {o o':Obj} (hb:bo < l) (hl:W.heap[l]? = some o) (ho:o.isCells=false):KpP bi bo W (W.putObj l o'):=by
 have hbo:(W.putObj l o').heap[bo]? = W.heap[bo]?:=World.putObj_heap_other (by omega)
 refine ⟨fun k q n1 n2 hn hq hc=>?_,fun v' k hv hk=>?_,by simp⟩
 · by_cases hkl:k=l
   · subst hkl
     rw[hl] at hq
     cases hq
     rw[ho] at hc
     cases hc
   exact (World.putObj_heap_other hkl).trans hq
 exact .inl ⟨v',(World.cell?_of_block (a:=⟨bo,0,none⟩) hbo).symm.trans hv,hk⟩
theorem leaves_mark1 {n:Nat} {P:Program} {fn:Func} {tmps:Array Value} {R:Ending→World→Prop} {B:Nat} (J:World→Prop)
 (HJ:∀ A D,B≤D→A.heap[D]? = some (.deferred (some []))→J A→J (A.putObj D (.deferred none))) (hR:∀ w,J w→∃ v,(results fn tmps).run P w = .ok v w∧R (.returned v) w)
 (D:Nat) (w:World) (hm:Marked B [D] w) (hj:J w):LeavesInM Fence.wide n P fn tmps R [{ target:=.collected D,args:=#[] }] .returning w:=by
 have hD:=hm.2 D (by simp)
 exact ⟨by simp,.inl ⟨D,_,rfl,run_takeDeferred hD.2,hR _ (HJ _ _ hD.1 hD.2 hj)⟩⟩
theorem keeps_setCell {W:World} {b i:Nat} {v:Value} {cs:List Value} {e:TypeId} (hb:Blk W b cs e):KeepsOthers W (W.setCell ⟨b,i,none⟩ v):=by
 refine ⟨by simp,fun k o ho hoc=>?_⟩
 refine (heap_setCell_other W ⟨b,i,none⟩ k v ?_).trans ho
 rintro rfl
 have h:=hb
 unfold Blk at h
 rw[ho] at h
 cases h
 cases hoc
theorem kp_setCell {bi bo b:Nat} {W:World} {v:Value} {cs:List Value} {e:TypeId} (hb:Blk W b cs e) (hx:b=bi∨b=bo) (hv:∀ k,v.ownBlock=some k→(∃ u,W.cell? ⟨bo,0,none⟩=some u∧u.ownBlock=some k)∨(W.heap.size≤k∧k < W.heap.size)):KpP bi bo W (W.setCell ⟨b,0,none⟩ v):=by
 refine ⟨fun k o n1 n2 _ ho _=>?_,fun v' k hv' hk=>?_,by simp⟩
 · refine (heap_setCell_other W ⟨b,0,none⟩ k v ?_).trans ho
   rintro rfl
   exact hx.elim n1 n2
 by_cases hbb:bo=b
 · subst hbb
   have h:=(hb.set 0 v)
   cases cs with
   | nil =>
    have h1:=h.cell (i:=0) (v:=v')
    unfold Blk at h
    rw[cell_of_row _ bo 0 _ e (0,0) h] at hv'
    simp at hv'
   | cons c cs =>
    rw[h.cell (i:=0) rfl] at hv'
    cases hv'
    exact (hv k hk).imp_right (fun h=>by simpa using h)
 exact .inl ⟨v',(World.cell?_of_block (a:=⟨bo,0,none⟩) (heap_setCell_other W ⟨b,0,none⟩ bo v hbb)).symm.trans hv',hk⟩
theorem KeepsOthers.setCell {W:World} {a:Addr} {v:Value} (h:∃ cs e fr,W.heap[a.block]? = some (.cells cs e fr)):KeepsOthers W (W.setCell a v):=by
 obtain ⟨cs,e,fr,h⟩:=h
 refine ⟨by simp,fun k o ho hoc=>?_⟩
 refine (heap_setCell_other W a k v ?_).trans ho
 rintro rfl
 rw[ho] at h
 cases h
 cases hoc
theorem owns_form {w:World} {base:Nat} {e:TypeId} {size:Nat} {v:Value} {n:Nat} {xs:List Value} (h:w.ownsRow base e size v n xs):∃ ao cap,v = .slice ao n cap:=by
 rcases h.2 with ⟨rfl,rfl⟩|⟨g,cap,cur,rfl,_⟩
 · exact ⟨_,_,rfl⟩
 exact ⟨_,_,rfl⟩
theorem info_tok:(Tryz.prog.info? 93).map (fun i=>(i.zero,i.size,i.bytes))=some (some (.agg #[.int .i64 0,.string ⟨#[]⟩,.int .i64 0,.int .i64 0]),4,40):=by kernel_rfl
def tkc (t:Lx.Tk):List Value:=[.int .i64 t.kind,.string ⟨t.text.toArray⟩,.int .i64 t.n,.int .i64 t.at_]
def TokS (w:World) (v:Value) (l:List Lx.Tk):Prop:=∃ ao cap,v = .slice ao l.length cap∧l.length≤cap∧∀ (i:Nat) (t:Lx.Tk),l[i]? = some t→∃ g off,ao=some ⟨g,off,none⟩ ∧
 w.cell? ⟨g,off+4*i,none⟩=some (.int .i64 t.kind)∧w.cell? ⟨g,off+4*i+1,none⟩=some (.string ⟨t.text.toArray⟩)∧w.cell? ⟨g,off+4*i+2,none⟩=some (.int .i64 t.n)∧w.cell? ⟨g,off+4*i+3,none⟩=some (.int .i64 t.at_)
theorem TokS.quiet {w w':World} {v:Value} {l:List Lx.Tk} (h:TokS w v l) (hc:Chg [] w w'):TokS w' v l:=by
 obtain ⟨ao,cap,h1,h2,h3⟩:=h
 refine ⟨ao,cap,h1,h2,fun i t ht=>?_⟩
 obtain ⟨g,off,h4,h5,h6,h7,h8⟩:=h3 i t ht
 have hg:=hc.block g (World.block_lt_of_cell? _ _ h5) (by simp)
 exact ⟨g,off,h4,(World.cell?_of_block (a:=⟨g,off+4*i,none⟩) hg).trans h5,(World.cell?_of_block (a:=⟨g,off+4*i+1,none⟩) hg).trans h6,(World.cell?_of_block (a:=⟨g,off+4*i+2,none⟩) hg).trans h7,(World.cell?_of_block (a:=⟨g,off+4*i+3,none⟩) hg).trans h8⟩
theorem flat4 (l:List Lx.Tk) (i j:Nat) (hj:j < 4) (t:Lx.Tk) (h:l[i]? = some t):(l.flatMap tkc)[4*i+j]? = (tkc t)[j]?:=by
 induction l generalizing i with
 | nil=>simp at h
 | cons a r ih =>
  rw[List.flatMap_cons]
  cases i with
  | zero =>
   simp only[List.getElem?_cons_zero,Option.some.injEq] at h
   subst h
   rw[Nat.mul_zero,Nat.zero_add,List.getElem?_append_left (by show j < 4;exact hj)]
  | succ i =>
   rw[List.getElem?_append_right (by show 4≤_;omega),show 4*(i+1)+j - (tkc a).length=4*i+j by show 4*(i+1)+j - 4=_;omega]
   exact ih i (by simpa using h)
theorem flat_len (l:List Lx.Tk):(l.flatMap tkc).length=l.length*4:=by
 induction l with
 | nil=>rfl
 | cons a r ih=>rw[List.flatMap_cons,List.length_append,ih,List.length_cons];show 4+_=_;omega
theorem toks_of_owns {w:World} {base:Nat} {e:TypeId} {v:Value} {l:List Lx.Tk} (h:w.ownsRow base e 4 v l.length (l.flatMap tkc)):TokS w v l:=by
 rcases h.2 with ⟨rfl,h0⟩|⟨g,cap,cur,rfl,_,hg,hle,_,hsz,ht⟩
 · have:l=[]:=List.eq_nil_of_length_eq_zero h0
   subst this
   exact ⟨none,0,rfl,Nat.le_refl _,fun i t h=>by simp at h⟩
 refine ⟨some ⟨g,0,none⟩,cap,rfl,hle,fun i t hi=>⟨g,0,rfl,?_⟩⟩
 have hlt:=(List.getElem?_eq_some_iff.1 hi).1
 have key:∀ j,j < 4→w.cell? ⟨g,0+4*i+j,none⟩=(tkc t)[j]?:=fun j hj=>by
  have h1:=flat4 l i j hj t hi
  rw[← ht,List.getElem?_take_of_lt (by omega)] at h1
  rw[Nat.zero_add,cell_of_row w g _ _ e (0,0) hg,← h1]
  simp
 exact ⟨key 0 (by decide),key 1 (by decide),key 2 (by decide),key 3 (by decide)⟩
end Go.Proofs.YtglepipfdmphhaaGreatDoor
