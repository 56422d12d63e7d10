/-
  PrFe, PrFf, PrHd in one text.
-/
import Derived.Test.YtglepipfdmphhaaGreatDoorPrRu
import Derived.Test.YtglepipfdmphhaaGreatDoorPrY
set_option maxRecDepth 100000
set_option maxHeartbeats 40000000
namespace Go.Proofs.YtglepipfdmphhaaGreatDoor
set_option linter.unusedVariables false
set_option linter.unusedSimpArgs false
open Go Go.RowKit Go.Shelf
attribute [local irreducible] Go.wpStill
theorem take_snoc9 {α:Type} {l:List α} {j:Nat} {x:α} (h:l[j]? = some x):l.take (j+1)=l.take j++[x]:=by obtain ⟨hj2,rfl⟩:=List.getElem?_eq_some_iff.1 h;exact List.take_succ_eq_append_getElem hj2
theorem all_snoc9 {α:Type} {l:List α} {j:Nat} {x:α} {P:α→Prop} (h:l[j]? = some x) (h1:∀ y ∈ l.take j,P y) (h2:P x):∀ y ∈ l.take (j+1),P y:=by
 rw[take_snoc9 h]
 intro y hy
 rcases List.mem_append.1 hy with h3|h3
 · exact h1 y h3
 rw[List.mem_singleton] at h3
 rw[h3]
 exact h2
theorem all_end9 {α:Type} {l:List α} {j:Nat} {P:α→Prop} (h:l.length≤j) (h1:∀ y ∈ l.take j,P y):∀ y ∈ l,P y:=by
 rw[List.take_of_length_le h] at h1
 exact h1
def SzRw (r:Pr.Rw):Prop:=r.name.length≤1000∧r.marks.length≤9000
def SzBl (x:Pr.Bl):Prop:=x.name.length≤1000∧x.rows.length≤1000000∧∀ r ∈ x.rows,r.name.length≤1000∧r.marks.length≤9000
def SzAr (x:Pr.Ar):Prop:=x.name.length≤1000
theorem few_r {w:World} (h:Pr.Hl) (ao:Option Addr) (cap n:Nat) (HN:Hid (h.levels.length=n)) (HM:Hid (RdS 8 Pr.RLv w (.slice ao n cap) h.levels)) (hnr:Rch n) {R:Ending→World→Prop}
 (hR:∀ w' q,Chg [] w w'→(q=true→n≤60∧h.name.length≤60∧∀ l ∈ h.levels,SzL l)→R (.returned (.bool q)) w') :
 Calls Tryz.prog 6 #[.agg #[.string ⟨h.name.toArray⟩,.int .i64 h.sx,.int .i64 h.sy,.slice ao n cap],.int .i64 60] w R:=by
 have HRR:=hd hR
 clear hR
 unfold Rch at hnr
 go_enter Tryz.func6,Tryz.ntmps6
 go_upto_region 1 with (fail)
 obtain ⟨w1,hw1⟩:∃ W,W=w.alloc (.cells #[.string ⟨h.name.toArray⟩,.int .i64 h.sx,.int .i64 h.sy,.slice ao n cap] 26):=⟨_,rfl⟩
 rw[← hw1]
 obtain ⟨H,hH⟩:∃ X,X=w.heap.size:=⟨_,rfl⟩
 rw[← hH]
 have HH:=newB hw1 hH
 have C1:=newC hw1
 clear hw1 hH
 have k0:=HH.out.cell (i:=0) rfl
 have k3:=HH.out.cell (i:=3) rfl
 have hfalse:∀ w',Chg [] w1 w'→R (.returned (.bool false)) w':=fun w' hc=>HRR.out w' false (C1.out.trans hc (by simp)) (fun e=>by cases e)
 have HF:=hd hfalse
 clear hfalse
 by_cases h60:60 < n
 · have e60:(60:Int) < (n:Int):=by omega
   go_wp2_with fail
   exact HF.out w1 (Chg.refl _ _)
 have e60:¬ (60:Int) < (n:Int):=by omega
 by_cases hn60:60 < h.name.length
 · have f60:(60:Int) < (h.name.length:Int):=by omega
   go_wp2_with fail
   exact HF.out w1 (Chg.refl _ _)
 have f60:¬ (60:Int) < (h.name.length:Int):=by omega
 go_wp2_with fail
 clear k0 e60 f60 k3
 go_loopw [6,5] (fun i tv wr=>∃ (j tn:Nat),i = .int .i64 (j:Int)∧tv = .int .i64 (tn:Int)∧j≤n∧tn≤240∧Hid (∀ l ∈ h.levels.take j,SzL l)∧Hid (Chg [] w1 wr)) (fun i _ _=>n - intN i)
 case atStart=>exact ⟨0,0,rfl,rfl,Nat.zero_le _,Nat.zero_le _,hd (by simp),hd (Chg.refl _ _)⟩
 case round =>
  obtain ⟨j,tn,rfl,rfl,hj,htn,HS,HC⟩:=hrel
  have k3:=(HC.out.blk HH.out (by simp)).cell (i:=3) rfl
  by_cases hlt:j < n
  · obtain ⟨x,hr⟩:∃ x,h.levels[j]? = some x:=⟨h.levels[j]'(by rw[HN.out];exact hlt),by simp⟩
    have HQR:Hid (Chg [] w wr):=hd (C1.out.trans HC.out (by simp))
    have HX:=hd hr
    obtain ⟨g,off,cs,ha,hgl,hl,⟨u1,u2,u3,u4,u5,hcs,i0,h1,h2,h3,h4,h5,hnl⟩,hcel0⟩:=HM.out.elem hr
    subst ha
    have hcell:∀ (k:Nat) (c:Value),cs[k]? = some c→wr.cell? ⟨g,off+j*8+k,none⟩=some c:=fun k c h=>(World.cell?_of_block (HQR.out.block g hgl (by simp))).trans (hcel0 k c h)
    obtain ⟨p0,q0,rfl,_,r0⟩:=h1.form
    obtain ⟨p1,q1,rfl,_,r1⟩:=h2.form
    obtain ⟨p2,q2,rfl,_,r2⟩:=h3.form
    obtain ⟨p3,q3,rfl,_,r3⟩:=h4.form
    obtain ⟨p4,q4,rfl,_,r4⟩:=h5.form
    have HMB:=hd h1
    have HMA:=hd h2
    obtain ⟨n0,hn0⟩:∃ z,z=x.blocks.length:=⟨_,rfl⟩
    obtain ⟨n1,hn1⟩:∃ z,z=x.areas.length:=⟨_,rfl⟩
    obtain ⟨n2,hn2⟩:∃ z,z=x.aisles.length:=⟨_,rfl⟩
    obtain ⟨n3,hn3⟩:∃ z,z=x.pillars.length:=⟨_,rfl⟩
    obtain ⟨n4,hn4⟩:∃ z,z=x.doors.length:=⟨_,rfl⟩
    rw[← hn0] at hcs HMB r0
    rw[← hn1] at hcs HMA r1
    rw[← hn2] at hcs r2
    rw[← hn3] at hcs r3
    rw[← hn4] at hcs r4
    have HNN:Hid (n0=x.blocks.length∧n1=x.areas.length∧n2=x.aisles.length∧n3=x.pillars.length∧n4=x.doors.length):=hd ⟨hn0,hn1,hn2,hn3,hn4⟩
    unfold Rch at r0 r1 r2 r3 r4
    subst hcs
    have c0:wr.cell? ⟨g,off+j*8,none⟩=some (.string ⟨x.name.toArray⟩):=hcell 0 _ rfl
    have c1:wr.cell? ⟨g,off+j*8+1,none⟩=some (.int .i64 x.height):=hcell 1 _ rfl
    have c2:wr.cell? ⟨g,off+j*8+2,none⟩=some (.slice p0 n0 q0):=hcell 2 _ rfl
    have c3:wr.cell? ⟨g,off+j*8+3,none⟩=some (.slice p1 n1 q1):=hcell 3 _ rfl
    have c4:wr.cell? ⟨g,off+j*8+4,none⟩=some (.slice p2 n2 q2):=hcell 4 _ rfl
    have c5:wr.cell? ⟨g,off+j*8+5,none⟩=some (.slice p3 n3 q3):=hcell 5 _ rfl
    have c6:wr.cell? ⟨g,off+j*8+6,none⟩=some (.slice p4 n4 q4):=hcell 6 _ rfl
    have c7:wr.cell? ⟨g,off+j*8+7,none⟩=some (.int .i64 x.at_):=hcell 7 _ rfl
    have m1:(j:Int) < (n:Int):=by omega
    have m0:(0:Int)≤(j:Int):=by omega
    clear hr hcell hcel0 hl hgl hn0 hn1 hn2 hn3 hn4 h1 h2 h3 h4 h5 i0 hnl
    go_upto_region 8 with (fail)
    obtain ⟨w4,hw4⟩:∃ W,W=wr.alloc (.cells #[.string ⟨x.name.toArray⟩,.int .i64 x.height,.slice p0 n0 q0,.slice p1 n1 q1,.slice p2 n2 q2,.slice p3 n3 q3,.slice p4 n4 q4,.int .i64 x.at_] 61):=⟨_,rfl⟩
    rw[← hw4]
    obtain ⟨G,hG⟩:∃ X,X=wr.heap.size:=⟨_,rfl⟩
    rw[← hG]
    have HG:=newB hw4 hG
    have C4:Hid (Chg [] w1 w4):=hd (by rw[hw4];exact HC.out.alloc _)
    have Q4:Hid (Chg [] w w4):=hd (C1.out.trans C4.out (by simp))
    clear hw4 hG c0 c1 c2 c3 c4 c5 c6 c7 k3 m1 m0
    have d0:=HG.out.cell (i:=0) rfl
    have d2:=HG.out.cell (i:=2) rfl
    have d3:=HG.out.cell (i:=3) rfl
    have d4:=HG.out.cell (i:=4) rfl
    have d5:=HG.out.cell (i:=5) rfl
    have d6:=HG.out.cell (i:=6) rfl
    go_upto_region 9 with (fail)
    clear d4 d5 d6
    by_cases hbig:240 < tn+(n0+n1+n2+n3+n4)
    · have e1:(240:Int) < (tn:Int)+((n0:Int)+(n1:Int)+(n2:Int)+(n3:Int)+(n4:Int)):=by omega
      go_wp2_with fail
      exact HF.out w4 C4.out
    have e1:¬ (240:Int) < (tn:Int)+((n0:Int)+(n1:Int)+(n2:Int)+(n3:Int)+(n4:Int)):=by omega
    by_cases hxn:60 < x.name.length
    · have e2:(60:Int) < (x.name.length:Int):=by omega
      go_wp2_with fail
      exact HF.out w4 C4.out
    have e2:¬ (60:Int) < (x.name.length:Int):=by omega
    go_wp2_with fail
    clear d0 e1 e2 d3
    obtain ⟨tm,htm⟩:∃ z:Nat,z=tn+(n0+n1+n2+n3+n4):=⟨_,rfl⟩
    rw[show (tn:Int)+((n0:Int)+(n1:Int)+(n2:Int)+(n3:Int)+(n4:Int))=(tm:Int) by omega]
    have ht2:tm≤240:=by omega
    have HL1:Hid (x.name.length≤1000∧n0≤1000000∧n1≤1000000∧n2≤1000000∧n3≤1000000∧n4≤1000000):=hd ⟨by omega,by omega,by omega,by omega,by omega,by omega⟩
    have b0:n0≤240:=by omega
    have b1:n1≤240:=by omega
    clear htm hbig hxn r0 r1 r2 r3 r4
    go_loopw [8] (fun i wr=>wr=w4∧∃ k:Nat,i = .int .i64 (k:Int)∧k≤n1∧Hid (∀ a ∈ x.areas.take k,SzAr a)) (fun i _=>n1 - intN i)
    case atStart=>exact ⟨rfl,0,rfl,Nat.zero_le _,hd (by simp)⟩
    case round =>
     obtain ⟨hwr,k,rfl,hk,HSA⟩:=hrel
     have d3:=HG.out.cell (i:=3) rfl
     rw[← hwr] at d3
     by_cases hkl:k < n1
     · obtain ⟨a,hr⟩:∃ a,x.areas[k]? = some a:=⟨x.areas[k]'(by rw[← HNN.out.2.1];exact hkl),by simp⟩
       obtain ⟨g2,of2,cs2,ha,hgl,hl,⟨hcs,-⟩,hcell⟩:=HMA.out.elem hr
       subst ha
       have c0:wr.cell? ⟨g2,of2+k*7,none⟩=some (.string ⟨a.name.toArray⟩):=by rw[hwr];exact (World.cell?_of_block (Q4.out.block g2 hgl (by simp))).trans (hcell 0 _ (by rw[hcs];rfl))
       have HAR:=hd hr
       have m1:(k:Int) < (n1:Int):=by omega
       have m0:(0:Int)≤(k:Int):=by omega
       have HWR:=hd hwr
       clear hr hcs hcell hl hgl hwr
       by_cases han:60 < a.name.length
       · have e2:(60:Int) < (a.name.length:Int):=by omega
         go_wp2_with fail
         exact HF.out wr (by rw[HWR.out];exact C4.out)
       have e2:¬ (60:Int) < (a.name.length:Int):=by omega
       go_wp2_with fail
       go_roundw
       case rel=>exact ⟨HWR.out,k+1,vint (by omega),by omega,hd (all_snoc9 HAR.out HSA.out (by unfold SzAr;omega))⟩
       case measure=>simp[intN];omega
     have hke:k=n1:=by omega
     have HSA2:Hid (∀ a ∈ x.areas,SzAr a):=hd (all_end9 (by rw[← HNN.out.2.1];omega) HSA.out)
     have m1:¬ (k:Int) < (n1:Int):=by omega
     have HWR:=hd hwr
     clear hwr
     go_wp2_with fail
     clear d3 hke
     go_loopw [9,5] (fun i tv wr=>wr=w4∧∃ k tn:Nat,i = .int .i64 (k:Int)∧tv = .int .i64 (tn:Int)∧k≤n0∧tn≤240∧Hid (∀ a ∈ x.blocks.take k,SzBl a)) (fun i _ _=>n0 - intN i)
     case atStart=>exact ⟨HWR.out,0,tm,rfl,rfl,Nat.zero_le _,ht2,hd (by simp)⟩
     case round =>
      obtain ⟨hwr,k,ts,rfl,rfl,hk,hts,HSB⟩:=hrel
      have d2:=HG.out.cell (i:=2) rfl
      rw[← hwr] at d2
      by_cases hkl:k < n0
      · obtain ⟨y,hr⟩:∃ a,x.blocks[k]? = some a:=⟨x.blocks[k]'(by rw[← HNN.out.1];exact hkl),by simp⟩
        obtain ⟨g2,of2,cs2,ha,hgl,hl,⟨rv,hcs,hrs,-⟩,hcell⟩:=HMB.out.elem hr
        subst ha
        obtain ⟨s0,sc,rfl,_,sr⟩:=hrs.form
        have HRS:=hd hrs
        obtain ⟨rn,hrn⟩:∃ z,z=y.rows.length:=⟨_,rfl⟩
        rw[← hrn] at hcs sr HRS
        have HRN:=hd hrn
        have c0:wr.cell? ⟨g2,of2+k*3,none⟩=some (.string ⟨y.name.toArray⟩):=by rw[hwr];exact (World.cell?_of_block (Q4.out.block g2 hgl (by simp))).trans (hcell 0 _ (by rw[hcs];rfl))
        have c1:wr.cell? ⟨g2,of2+k*3+1,none⟩=some (.slice s0 rn sc):=by rw[hwr];exact (World.cell?_of_block (Q4.out.block g2 hgl (by simp))).trans (hcell 1 _ (by rw[hcs];rfl))
        have HYR:=hd hr
        have m1:(k:Int) < (n0:Int):=by omega
        have m0:(0:Int)≤(k:Int):=by omega
        have HWR2:=hd hwr
        have HC0:=hd c0
        have HC1:=hd c1
        have HD2:=hd d2
        unfold Rch at sr
        clear hr hcs hcell hl hgl hwr hrs hrn
        go_upto_region 20 with (fail)
        by_cases hbig:240 < ts+rn
        · have e1:(240:Int) < (ts:Int)+(rn:Int):=by omega
          go_wp2_with fail
          exact HF.out wr (by rw[HWR2.out];exact C4.out)
        have e1:¬ (240:Int) < (ts:Int)+(rn:Int):=by omega
        by_cases hyn:60 < y.name.length
        · have e2:(60:Int) < (y.name.length:Int):=by omega
          go_wp2_with fail
          exact HF.out wr (by rw[HWR2.out];exact C4.out)
        have e2:¬ (60:Int) < (y.name.length:Int):=by omega
        go_wp2_with fail
        clear e1 e2 c0 c1 d2
        obtain ⟨tq,htq⟩:∃ z:Nat,z=ts+rn:=⟨_,rfl⟩
        rw[show (ts:Int)+(rn:Int)=(tq:Int) by omega]
        have ht3:tq≤240:=by omega
        have br:rn≤240:=by omega
        have HYN:Hid (y.name.length≤1000):=hd (by omega)
        clear htq hbig hyn sr
        go_loopw [10,5] (fun i tv wr=>wr=w4∧∃ k tn:Nat,i = .int .i64 (k:Int)∧tv = .int .i64 (tn:Int)∧k≤rn∧tn≤240∧Hid (∀ a ∈ y.rows.take k,SzRw a)) (fun i _ _=>rn - intN i)
        case atStart=>exact ⟨HWR2.out,0,tq,rfl,rfl,Nat.zero_le _,ht3,hd (by simp)⟩
        case round =>
         obtain ⟨hwr,p,tz,rfl,rfl,hp,htz,HSR⟩:=hrel
         have d2:=HG.out.cell (i:=2) rfl
         have c1:=HC1.out
         rw[HWR2.out,← hwr] at c1
         rw[← hwr] at d2
         by_cases hpl:p < rn
         · obtain ⟨r,hr⟩:∃ a,y.rows[p]? = some a:=⟨y.rows[p]'(by rw[← HRN.out];exact hpl),by simp⟩
           obtain ⟨g3,of3,cs3,ha,hgl,hl,⟨mv,hcs,hms,-⟩,hcell⟩:=HRS.out.elem hr
           subst ha
           obtain ⟨z0,zc,rfl,_,zr⟩:=hms.form
           obtain ⟨mn,hmn⟩:∃ z,z=r.marks.length:=⟨_,rfl⟩
           rw[← hmn] at hcs zr
           have HMN:=hd hmn
           have b0':wr.cell? ⟨g3,of3+p*8,none⟩=some (.string ⟨r.name.toArray⟩):=by rw[hwr];exact (World.cell?_of_block (Q4.out.block g3 hgl (by simp))).trans (hcell 0 _ (by rw[hcs];rfl))
           have b6:wr.cell? ⟨g3,of3+p*8+6,none⟩=some (.slice z0 mn zc):=by rw[hwr];exact (World.cell?_of_block (Q4.out.block g3 hgl (by simp))).trans (hcell 6 _ (by rw[hcs];rfl))
           have HRR2:=hd hr
           have l1:(p:Int) < (rn:Int):=by omega
           have l0:(0:Int)≤(p:Int):=by omega
           have HWR3:=hd hwr
           unfold Rch at zr
           clear hr hcs hcell hl hgl hwr hms hmn
           go_upto_region 26 with (fail)
           by_cases hbig:240 < tz+mn
           · have e1:(240:Int) < (tz:Int)+(mn:Int):=by omega
             go_wp2_with fail
             exact HF.out wr (by rw[HWR3.out];exact C4.out)
           have e1:¬ (240:Int) < (tz:Int)+(mn:Int):=by omega
           by_cases hyn:60 < r.name.length
           · have e2:(60:Int) < (r.name.length:Int):=by omega
             go_wp2_with fail
             exact HF.out wr (by rw[HWR3.out];exact C4.out)
           have e2:¬ (60:Int) < (r.name.length:Int):=by omega
           go_wp2_with fail
           have HRN2:Hid (SzRw r):=hd (by unfold SzRw;rw[← HMN.out];omega)
           go_roundw
           case rel=>exact ⟨HWR3.out,p+1,tz+mn,vint (by omega),vint (by omega),by omega,by omega,hd (all_snoc9 HRR2.out HSR.out HRN2.out)⟩
           case measure=>simp[intN];omega
         have HSR2:Hid (∀ a ∈ y.rows,SzRw a):=hd (all_end9 (by rw[← HRN.out];omega) HSR.out)
         have l1:¬ (p:Int) < (rn:Int):=by omega
         have HWR3:=hd hwr
         clear hwr
         go_wp2_with fail
         go_roundw
         case rel=>exact ⟨HWR3.out,k+1,tz,vint (by omega),rfl,by omega,htz,hd (all_snoc9 HYR.out HSB.out ⟨HYN.out,by rw[← HRN.out];omega,HSR2.out⟩)⟩
         case measure=>simp[intN];omega
      have HSB2:Hid (∀ a ∈ x.blocks,SzBl a):=hd (all_end9 (by rw[← HNN.out.1];omega) HSB.out)
      have l1:¬ (k:Int) < (n0:Int):=by omega
      have HWR3:=hd hwr
      clear hwr
      go_wp2_with fail
      have HSX:Hid (SzL x):=hd ⟨by have h1:=HL1.out;rw[HNN.out.1,HNN.out.2.1,HNN.out.2.2.1,HNN.out.2.2.2.1,HNN.out.2.2.2.2] at h1;exact h1,HSB2.out,HSA2.out⟩
      go_roundw
      case rel=>exact ⟨j+1,ts,vint (by omega),rfl,by omega,hts,hd (all_snoc9 HX.out HS.out HSX.out),hd (by rw[HWR3.out];exact C4.out)⟩
      case measure=>simp[intN];omega
  have HSE:Hid (∀ l ∈ h.levels,SzL l):=hd (all_end9 (by rw[HN.out];omega) HS.out)
  have l1:¬ (j:Int) < (n:Int):=by omega
  have HB:Hid (n≤60∧h.name.length≤60):=hd ⟨by omega,by omega⟩
  go_wp2_with fail
  exact HRR.out wr true (C1.out.trans HC.out (by simp)) (fun _=>⟨HB.out.1,HB.out.2,HSE.out⟩)
end Go.Proofs.YtglepipfdmphhaaGreatDoor
namespace Go.Proofs.YtglepipfdmphhaaGreatDoor
set_option linter.unusedVariables false
set_option linter.unusedSimpArgs false
open Go Go.RowKit Go.Shelf
attribute [local irreducible] Go.wpStill
def SzTs (t:Pr.Tst):Prop:=t.attr.length≤1000∧t.name.length≤1000
def SzYs (y:List Pr.Tst):Prop:=∀ t ∈ y,t.attr.length≤1000∧t.name.length≤1000
end Go.Proofs.YtglepipfdmphhaaGreatDoor
namespace Go.Proofs.YtglepipfdmphhaaGreatDoor
set_option linter.unusedVariables false
set_option linter.unusedSimpArgs false
open Go Go.RowKit Go.Shelf
attribute [local irreducible] Go.wpStill
theorem RdS.one {α:Type} {C:Nat} {R:World→List Value→α→Prop} {w:World} {x:α} {cs:List Value} {b:Nat} {e:TypeId} (hB:Blk w b cs e) (hC:cs.length=C) (hR:R w cs x):RdS C R w (.slice (some ⟨b,0,none⟩) 1 1) [x] :=
 RdS.of_cells (css:=[cs]) (l:=[x]) rfl (Nat.le_refl _) (by simp[Rch]) (by intro ds hd;rw[List.mem_singleton] at hd;rw[hd];exact hC) (fun i y ds h1 h2=>by
  cases i with
  | zero=>simp at h1 h2;subst h1 h2;exact hR
  | succ i=>simp at h1) (fun k c h=>by rw[Nat.zero_add];exact hB.cell (by simpa using h)) hB.lt
theorem RdS.two {α:Type} {C:Nat} {R:World→List Value→α→Prop} {w:World} {x y:α} {cs ds:List Value} {b:Nat} {e:TypeId} (hB:Blk w b (cs++ds) e) (hC:cs.length=C) (hD:ds.length=C) (hR:R w cs x) (hS:R w ds y):RdS C R w (.slice (some ⟨b,0,none⟩) 2 2) [x,y] :=
 RdS.of_cells (css:=[cs,ds]) (l:=[x,y]) rfl (Nat.le_refl _) (by simp[Rch]) (by intro es hd;simp at hd;rcases hd with rfl|rfl;exact hC;exact hD) (fun i z es h1 h2=>by
  match i with
  | 0=>simp at h1 h2;subst h1 h2;exact hR
  | 1=>simp at h1 h2;subst h1 h2;exact hS
  | i+2=>simp at h1) (fun k c h=>by rw[Nat.zero_add];exact hB.cell (by simpa using h)) hB.lt
namespace Pr
def hRow:Rw:=⟨[97],10,20,1,4,2,[⟨1,3,0⟩,⟨4,2,1⟩],0⟩
def hLev:Lv:=⟨[108,111,119],7,[⟨[98],[hRow],0⟩],[⟨[112,105,116],⟨0,0,3,4⟩,9,0⟩],[⟨1,2,3,4⟩],[],[(1,3)],0⟩
def hHall (s:Bytes):Hl:=⟨s,5,0,[hLev]⟩
def hItems:List Itm:=[⟨1,[120],[[⟨[116,105,109,101],6,[],5,0⟩,⟨[98,108,111,99,107],2,[108,111,119,46,98],0,0⟩],[⟨[97,103,101],3,[],18,0⟩]],2,(0,0),(0,0),0⟩,⟨3,[112],[],1000,(1,10),(0,1),0⟩]
theorem head_hall:hall (hHall [104])=([104,97,108,108,32,104,32,115,116,97,103,101,32,53,32,48,32,123,10,9,108,101,118,101,108,32,108,111,119,32,104,101,105,103,104,116,32,55,32,123,10,9,9,98,108,111,99,107,32,98,32,123,10,9,9,9,114,111,119,32,97,32,97,116,32,49,48,32,50,48,32,115,101,97,116,115,32,49,32,116,111,32,52,32,115,116,101,112,32,50,32,103,97,112,32,51,32,98,101,115,105,100,101,32,50,32,111,102,32,49,59,10,9,9,125,10,9,9,97,114,101,97,32,112,105,116,32,48,32,48,32,51,32,52,32,104,111,108,100,115,32,57,59,10,9,9,97,105,115,108,101,32,49,32,50,32,51,32,52,59,10,9,9,100,111,111,114,32,49,32,51,59,10,9,125,10,125,10],0):=by decide +kernel
theorem head_one:hall (hHall [49])=([],1):=by decide +kernel
theorem head_rules:rules hItems=([97,108,108,111,119,32,120,32,108,105,109,105,116,32,50,32,119,104,101,110,32,116,105,109,101,32,62,61,32,53,32,97,110,100,32,98,108,111,99,107,32,33,61,32,108,111,119,46,98,32,111,114,32,97,103,101,32,60,32,49,56,59,10,112,114,105,99,101,32,112,32,49,48,48,48,32,102,101,101,32,49,47,49,48,59,10],0):=by decide +kernel
theorem i64s {n:Int} (h:decide (-9223372036854775808≤n∧n≤9223372036854775807)=true):I64 n:=by unfold I64;exact of_decide_eq_true h
end Pr
theorem sz_hLev:∀ l ∈ (Pr.hHall [104]).levels,SzL l:=by
 intro l hl
 rw[show (Pr.hHall [104]).levels=[Pr.hLev] from rfl,List.mem_singleton] at hl
 subst hl
 refine ⟨by decide,?_,?_⟩
 · intro x hx
   rw[show Pr.hLev.blocks=[⟨[98],[Pr.hRow],0⟩] from rfl,List.mem_singleton] at hx
   subst hx
   refine ⟨by decide,by decide,?_⟩
   intro r hr
   rw[show ([Pr.hRow]:List Pr.Rw)=[Pr.hRow] from rfl,List.mem_singleton] at hr
   subst hr
   exact ⟨by decide,by decide⟩
 intro x hx
 rw[show Pr.hLev.areas=[⟨[112,105,116],⟨0,0,3,4⟩,9,0⟩] from rfl,List.mem_singleton] at hx
 subst hx
 decide
theorem sz_hItems:∀ x ∈ Pr.hItems,SzI x:=by
 intro x hx
 unfold Pr.hItems at hx
 simp only[List.mem_cons,List.not_mem_nil,or_false] at hx
 rcases hx with rfl|rfl
 · refine ⟨by decide,?_⟩
   intro y hy t ht
   simp only[List.mem_cons,List.not_mem_nil,or_false] at hy
   rcases hy with rfl|rfl
   · simp only[List.mem_cons,List.not_mem_nil,or_false] at ht
     rcases ht with rfl|rfl <;> exact ⟨by decide,by decide⟩
   simp only[List.mem_cons,List.not_mem_nil,or_false] at ht
   rcases ht with rfl
   exact ⟨by decide,by decide⟩
 exact ⟨by decide,fun y hy=>by simp at hy⟩
theorem head_r {w:World} (HL:Hid (Laid w)) {R:Ending→World→Prop} (hR:∀ w',Chg [] w w'→R (.returned (.bool true)) w'):Calls Tryz.prog 5 #[] w R:=by
 have HRR:=hd hR
 clear hR
 go_enter Tryz.func5,Tryz.ntmps5
 go_upto_region 3 with (fail)
 obtain ⟨b0,hb0⟩:∃ T,T=w.heap.size:=⟨_,rfl⟩
 obtain ⟨b1,hb1⟩:∃ T,T=w.heap.size+1:=⟨_,rfl⟩
 obtain ⟨b2,hb2⟩:∃ T,T=w.heap.size+2:=⟨_,rfl⟩
 obtain ⟨b3,hb3⟩:∃ T,T=w.heap.size+3:=⟨_,rfl⟩
 obtain ⟨b4,hb4⟩:∃ T,T=w.heap.size+4:=⟨_,rfl⟩
 obtain ⟨b5,hb5⟩:∃ T,T=w.heap.size+5:=⟨_,rfl⟩
 obtain ⟨b6,hb6⟩:∃ T,T=w.heap.size+6:=⟨_,rfl⟩
 obtain ⟨b7,hb7⟩:∃ T,T=w.heap.size+7:=⟨_,rfl⟩
 obtain ⟨b8,hb8⟩:∃ T,T=w.heap.size+8:=⟨_,rfl⟩
 try rw[← hb8]
 try rw[← hb7]
 try rw[← hb6]
 try rw[← hb5]
 try rw[← hb4]
 try rw[← hb3]
 try rw[← hb2]
 try rw[← hb1]
 try rw[← hb0]
 have hz0:w.heap.size=w.heap.size+0:=rfl
 have C1:Hid (Chg [] w w):=hd (Chg.refl _ _)
 obtain ⟨w1_0,hu⟩:∃ W,W=w.alloc (.cells #[.int .i64 1,.int .i64 3,.int .i64 0,.int .i64 4,.int .i64 2,.int .i64 1] 45):=⟨_,rfl⟩
 rw[← hu]
 have hz1:w1_0.heap.size=w.heap.size+1:=by rw[hu];simp <;> omega
 have Hb0:=newB hu (show b0=w.heap.size by omega)
 have C1:Hid (Chg [] w w1_0):=hd (by rw[hu];exact C1.out.alloc _)
 clear hu
 obtain ⟨w1_1,hu⟩:∃ W,W=w1_0.alloc (.cells #[.string ⟨#[97]⟩,.int .i64 10,.int .i64 20,.int .i64 1,.int .i64 4,.int .i64 2,.slice (some ⟨b0,0,none⟩) 2 2,.int .i64 0] 48):=⟨_,rfl⟩
 rw[← hu]
 have hz2:w1_1.heap.size=w.heap.size+2:=by rw[hu];simp <;> omega
 have Hb0:=Hid.al Hb0 hu
 have Hb1:=newB hu (show b1=w1_0.heap.size by omega)
 have C1:Hid (Chg [] w w1_1):=hd (by rw[hu];exact C1.out.alloc _)
 clear hu
 obtain ⟨w1_2,hu⟩:∃ W,W=w1_1.alloc (.cells #[.string ⟨#[97]⟩,.int .i64 10,.int .i64 20,.int .i64 1,.int .i64 4,.int .i64 2,.slice (some ⟨b0,0,none⟩) 2 2,.int .i64 0] 48):=⟨_,rfl⟩
 rw[← hu]
 have hz3:w1_2.heap.size=w.heap.size+3:=by rw[hu];simp <;> omega
 have Hb0:=Hid.al Hb0 hu
 have Hb1:=Hid.al Hb1 hu
 have Hb2:=newB hu (show b2=w1_1.heap.size by omega)
 have C1:Hid (Chg [] w w1_2):=hd (by rw[hu];exact C1.out.alloc _)
 clear hu
 obtain ⟨w1_3,hu⟩:∃ W,W=w1_2.alloc (.cells #[.string ⟨#[98]⟩,.slice (some ⟨b2,0,none⟩) 1 1,.int .i64 0] 51):=⟨_,rfl⟩
 rw[← hu]
 have hz4:w1_3.heap.size=w.heap.size+4:=by rw[hu];simp <;> omega
 have Hb0:=Hid.al Hb0 hu
 have Hb1:=Hid.al Hb1 hu
 have Hb2:=Hid.al Hb2 hu
 have Hb3:=newB hu (show b3=w1_2.heap.size by omega)
 have C1:Hid (Chg [] w w1_3):=hd (by rw[hu];exact C1.out.alloc _)
 clear hu
 obtain ⟨w1_4,hu⟩:∃ W,W=w1_3.alloc (.cells #[.string ⟨#[112,105,116]⟩,.int .i64 0,.int .i64 0,.int .i64 3,.int .i64 4,.int .i64 9,.int .i64 0] 56):=⟨_,rfl⟩
 rw[← hu]
 have hz5:w1_4.heap.size=w.heap.size+5:=by rw[hu];simp <;> omega
 have Hb0:=Hid.al Hb0 hu
 have Hb1:=Hid.al Hb1 hu
 have Hb2:=Hid.al Hb2 hu
 have Hb3:=Hid.al Hb3 hu
 have Hb4:=newB hu (show b4=w1_3.heap.size by omega)
 have C1:Hid (Chg [] w w1_4):=hd (by rw[hu];exact C1.out.alloc _)
 clear hu
 obtain ⟨w1_5,hu⟩:∃ W,W=w1_4.alloc (.cells #[.int .i64 1,.int .i64 2,.int .i64 3,.int .i64 4] 54):=⟨_,rfl⟩
 rw[← hu]
 have hz6:w1_5.heap.size=w.heap.size+6:=by rw[hu];simp <;> omega
 have Hb0:=Hid.al Hb0 hu
 have Hb1:=Hid.al Hb1 hu
 have Hb2:=Hid.al Hb2 hu
 have Hb3:=Hid.al Hb3 hu
 have Hb4:=Hid.al Hb4 hu
 have Hb5:=newB hu (show b5=w1_4.heap.size by omega)
 have C1:Hid (Chg [] w w1_5):=hd (by rw[hu];exact C1.out.alloc _)
 clear hu
 obtain ⟨w1_6,hu⟩:∃ W,W=w1_5.alloc (.cells #[.int .i64 1,.int .i64 3] 23):=⟨_,rfl⟩
 rw[← hu]
 have hz7:w1_6.heap.size=w.heap.size+7:=by rw[hu];simp <;> omega
 have Hb0:=Hid.al Hb0 hu
 have Hb1:=Hid.al Hb1 hu
 have Hb2:=Hid.al Hb2 hu
 have Hb3:=Hid.al Hb3 hu
 have Hb4:=Hid.al Hb4 hu
 have Hb5:=Hid.al Hb5 hu
 have Hb6:=newB hu (show b6=w1_5.heap.size by omega)
 have C1:Hid (Chg [] w w1_6):=hd (by rw[hu];exact C1.out.alloc _)
 clear hu
 obtain ⟨w1_7,hu⟩:∃ W,W=w1_6.alloc (.cells #[.string ⟨#[108,111,119]⟩,.int .i64 7,.slice (some ⟨b3,0,none⟩) 1 1,.slice (some ⟨b4,0,none⟩) 1 1,.slice (some ⟨b5,0,none⟩) 1 1,.slice none 0 0,.slice (some ⟨b6,0,none⟩) 1 1,.int .i64 0] 61):=⟨_,rfl⟩
 rw[← hu]
 have hz8:w1_7.heap.size=w.heap.size+8:=by rw[hu];simp <;> omega
 have Hb0:=Hid.al Hb0 hu
 have Hb1:=Hid.al Hb1 hu
 have Hb2:=Hid.al Hb2 hu
 have Hb3:=Hid.al Hb3 hu
 have Hb4:=Hid.al Hb4 hu
 have Hb5:=Hid.al Hb5 hu
 have Hb6:=Hid.al Hb6 hu
 have Hb7:=newB hu (show b7=w1_6.heap.size by omega)
 have C1:Hid (Chg [] w w1_7):=hd (by rw[hu];exact C1.out.alloc _)
 clear hu
 obtain ⟨w1,hu⟩:∃ W,W=w1_7.alloc (.cells #[.string ⟨#[104]⟩,.int .i64 5,.int .i64 0,.slice (some ⟨b7,0,none⟩) 1 1] 26):=⟨_,rfl⟩
 rw[← hu]
 have hz9:w1.heap.size=w.heap.size+9:=by rw[hu];simp <;> omega
 have Hb0:=Hid.al Hb0 hu
 have Hb1:=Hid.al Hb1 hu
 have Hb2:=Hid.al Hb2 hu
 have Hb3:=Hid.al Hb3 hu
 have Hb4:=Hid.al Hb4 hu
 have Hb5:=Hid.al Hb5 hu
 have Hb6:=Hid.al Hb6 hu
 have Hb7:=Hid.al Hb7 hu
 have Hb8:=newB hu (show b8=w1_7.heap.size by omega)
 have C1:Hid (Chg [] w w1):=hd (by rw[hu];exact C1.out.alloc _)
 clear hu
 clear hz0 hz1 hz2 hz3 hz4 hz5 hz6 hz7 hz8 hz9 hb0 hb1 hb2 hb3 hb4 hb5 hb6 hb7 hb8
 have R0:Hid (RdS 3 Pr.RMk w1 (.slice (some ⟨b0,0,none⟩) 2 2) [⟨1,3,0⟩,⟨4,2,1⟩]):=hd (RdS.two (cs:=[.int .i64 1,.int .i64 3,.int .i64 0]) (ds:=[.int .i64 4,.int .i64 2,.int .i64 1]) Hb0.out rfl rfl ⟨rfl,Pr.i64s (by decide),Pr.i64s (by decide),Pr.i64s (by decide)⟩ ⟨rfl,Pr.i64s (by decide),Pr.i64s (by decide),Pr.i64s (by decide)⟩)
 have R2:Hid (RdS 8 Pr.RRw w1 (.slice (some ⟨b2,0,none⟩) 1 1) [Pr.hRow]):=hd (RdS.one Hb2.out rfl ⟨_,rfl,R0.out,Pr.i64s (by decide),Pr.i64s (by decide),Pr.i64s (by decide),Pr.i64s (by decide),Pr.i64s (by decide),by unfold Rch;decide⟩)
 have R3:Hid (RdS 3 Pr.RBl w1 (.slice (some ⟨b3,0,none⟩) 1 1) [⟨[98],[Pr.hRow],0⟩]):=hd (RdS.one Hb3.out rfl ⟨_,rfl,R2.out,by unfold Rch;decide⟩)
 have R4:Hid (RdS 7 Pr.RAr w1 (.slice (some ⟨b4,0,none⟩) 1 1) [⟨[112,105,116],⟨0,0,3,4⟩,9,0⟩]):=hd (RdS.one Hb4.out rfl ⟨rfl,Pr.i64s (by decide),Pr.i64s (by decide),Pr.i64s (by decide),Pr.i64s (by decide),Pr.i64s (by decide),by unfold Rch;decide⟩)
 have R5:Hid (RdS 4 Pr.RBx w1 (.slice (some ⟨b5,0,none⟩) 1 1) [⟨1,2,3,4⟩]):=hd (RdS.one Hb5.out rfl ⟨rfl,Pr.i64s (by decide),Pr.i64s (by decide),Pr.i64s (by decide),Pr.i64s (by decide)⟩)
 have R6:Hid (RdS 2 Pr.RPt w1 (.slice (some ⟨b6,0,none⟩) 1 1) [(1,3)]):=hd (RdS.one Hb6.out rfl ⟨rfl,Pr.i64s (by decide),Pr.i64s (by decide)⟩)
 have R7:Hid (RdS 8 Pr.RLv w1 (.slice (some ⟨b7,0,none⟩) 1 1) [Pr.hLev]):=hd (RdS.one Hb7.out rfl ⟨_,_,_,_,_,rfl,Pr.i64s (by decide),R3.out,R4.out,R5.out,RdS.nil _ _ _ _ _,R6.out,by unfold Rch;decide⟩)
 clear Hb0 Hb1 Hb2 Hb3 Hb4 Hb5 Hb6 Hb7 R0 R2 R3 R4 R5 R6
 have HL1:Hid (Laid w1):=hd (HL.out.quiet C1.out)
 have e0:=Hb8.out.cell (i:=0) rfl
 have e1:=Hb8.out.cell (i:=1) rfl
 have e2:=Hb8.out.cell (i:=2) rfl
 have e3:=Hb8.out.cell (i:=3) rfl
 go_wp2_with fail
 clear e0 e1 e2 e3
 refine hall_r HL1 (Pr.hHall [104]) (some ⟨b7,0,none⟩) 1 1 (hd rfl) R7 (hd ⟨Pr.i64s (by decide),Pr.i64s (by decide)⟩) (by omega) (by decide) (hd sz_hLev) (fun w2 h2=>?_)
 have C2:=hd h2
 clear h2
 obtain ⟨sw,hsw⟩:∃ z:ByteArray,z=⟨(Pr.hall (Pr.hHall [104])).1.toArray⟩:=⟨_,rfl⟩
 rw[← hsw]
 have e1:sw.toList=[104,97,108,108,32,104,32,115,116,97,103,101,32,53,32,48,32,123,10,9,108,101,118,101,108,32,108,111,119,32,104,101,105,103,104,116,32,55,32,123,10,9,9,98,108,111,99,107,32,98,32,123,10,9,9,9,114,111,119,32,97,32,97,116,32,49,48,32,50,48,32,115,101,97,116,115,32,49,32,116,111,32,52,32,115,116,101,112,32,50,32,103,97,112,32,51,32,98,101,115,105,100,101,32,50,32,111,102,32,49,59,10,9,9,125,10,9,9,97,114,101,97,32,112,105,116,32,48,32,48,32,51,32,52,32,104,111,108,100,115,32,57,59,10,9,9,97,105,115,108,101,32,49,32,50,32,51,32,52,59,10,9,9,100,111,111,114,32,49,32,51,59,10,9,125,10,125,10]:=by rw[hsw,Pr.head_hall];first|rfl|decide +kernel|simp
 have E1:=hd e1
 clear hsw e1
 rw[show (Pr.hall (Pr.hHall [104])).2=0 by rw[Pr.head_hall]]
 go_upto_region 7 with (fail)
 obtain ⟨d0,hd0⟩:∃ T,T=w2.heap.size:=⟨_,rfl⟩
 obtain ⟨d1,hd1⟩:∃ T,T=w2.heap.size+1:=⟨_,rfl⟩
 obtain ⟨d2,hd2⟩:∃ T,T=w2.heap.size+2:=⟨_,rfl⟩
 obtain ⟨d3,hd3⟩:∃ T,T=w2.heap.size+3:=⟨_,rfl⟩
 obtain ⟨d4,hd4⟩:∃ T,T=w2.heap.size+4:=⟨_,rfl⟩
 try rw[← hd4]
 try rw[← hd3]
 try rw[← hd2]
 try rw[← hd1]
 try rw[← hd0]
 have hz0:w2.heap.size=w2.heap.size+0:=rfl
 have C3:Hid (Chg [] w2 w2):=hd (Chg.refl _ _)
 obtain ⟨w3_0,hu⟩:∃ W,W=w2.alloc (.cells #[.string ⟨#[116,105,109,101]⟩,.int .i64 6,.string ⟨#[]⟩,.int .i64 5,.int .i64 0,.string ⟨#[98,108,111,99,107]⟩,.int .i64 2,.string ⟨#[108,111,119,46,98]⟩,.int .i64 0,.int .i64 0] 63):=⟨_,rfl⟩
 rw[← hu]
 have hz1:w3_0.heap.size=w2.heap.size+1:=by rw[hu];simp <;> omega
 have Hd0:=newB hu (show d0=w2.heap.size by omega)
 have C3:Hid (Chg [] w2 w3_0):=hd (by rw[hu];exact C3.out.alloc _)
 clear hu
 obtain ⟨w3_1,hu⟩:∃ W,W=w3_0.alloc (.cells #[.string ⟨#[97,103,101]⟩,.int .i64 3,.string ⟨#[]⟩,.int .i64 18,.int .i64 0] 63):=⟨_,rfl⟩
 rw[← hu]
 have hz2:w3_1.heap.size=w2.heap.size+2:=by rw[hu];simp <;> omega
 have Hd0:=Hid.al Hd0 hu
 have Hd1:=newB hu (show d1=w3_0.heap.size by omega)
 have C3:Hid (Chg [] w2 w3_1):=hd (by rw[hu];exact C3.out.alloc _)
 clear hu
 obtain ⟨w3_2,hu⟩:∃ W,W=w3_1.alloc (.cells #[.slice (some ⟨d0,0,none⟩) 2 2,.slice (some ⟨d1,0,none⟩) 1 1] 64):=⟨_,rfl⟩
 rw[← hu]
 have hz3:w3_2.heap.size=w2.heap.size+3:=by rw[hu];simp <;> omega
 have Hd0:=Hid.al Hd0 hu
 have Hd1:=Hid.al Hd1 hu
 have Hd2:=newB hu (show d2=w3_1.heap.size by omega)
 have C3:Hid (Chg [] w2 w3_2):=hd (by rw[hu];exact C3.out.alloc _)
 clear hu
 obtain ⟨w3_3,hu⟩:∃ W,W=w3_2.alloc (.cells #[.int .i64 1,.string ⟨#[120]⟩,.slice (some ⟨d2,0,none⟩) 2 2,.int .i64 2,.int .i64 0,.int .i64 0,.int .i64 0,.int .i64 0,.int .i64 0,.int .i64 3,.string ⟨#[112]⟩,.slice none 0 0,.int .i64 1000,.int .i64 1,.int .i64 10,.int .i64 0,.int .i64 1,.int .i64 0] 69):=⟨_,rfl⟩
 rw[← hu]
 have hz4:w3_3.heap.size=w2.heap.size+4:=by rw[hu];simp <;> omega
 have Hd0:=Hid.al Hd0 hu
 have Hd1:=Hid.al Hd1 hu
 have Hd2:=Hid.al Hd2 hu
 have Hd3:=newB hu (show d3=w3_2.heap.size by omega)
 have C3:Hid (Chg [] w2 w3_3):=hd (by rw[hu];exact C3.out.alloc _)
 clear hu
 obtain ⟨w3,hu⟩:∃ W,W=w3_3.alloc (.cells #[.slice (some ⟨d3,0,none⟩) 2 2] 38):=⟨_,rfl⟩
 rw[← hu]
 have hz5:w3.heap.size=w2.heap.size+5:=by rw[hu];simp <;> omega
 have Hd0:=Hid.al Hd0 hu
 have Hd1:=Hid.al Hd1 hu
 have Hd2:=Hid.al Hd2 hu
 have Hd3:=Hid.al Hd3 hu
 have Hd4:=newB hu (show d4=w3_3.heap.size by omega)
 have C3:Hid (Chg [] w2 w3):=hd (by rw[hu];exact C3.out.alloc _)
 clear hu
 clear hz0 hz1 hz2 hz3 hz4 hz5 hd0 hd1 hd2 hd3 hd4
 have Q0:Hid (RdS 5 Pr.RTst w3 (.slice (some ⟨d0,0,none⟩) 2 2) [⟨[116,105,109,101],6,[],5,0⟩,⟨[98,108,111,99,107],2,[108,111,119,46,98],0,0⟩]):=hd (RdS.two (cs:=[.string ⟨#[116,105,109,101]⟩,.int .i64 6,.string ⟨#[]⟩,.int .i64 5,.int .i64 0]) (ds:=[.string ⟨#[98,108,111,99,107]⟩,.int .i64 2,.string ⟨#[108,111,119,46,98]⟩,.int .i64 0,.int .i64 0]) Hd0.out rfl rfl ⟨rfl,Pr.i64s (by decide),Pr.i64s (by decide),by unfold Rch;decide,by unfold Rch;decide⟩ ⟨rfl,Pr.i64s (by decide),Pr.i64s (by decide),by unfold Rch;decide,by unfold Rch;decide⟩)
 have Q1:Hid (RdS 5 Pr.RTst w3 (.slice (some ⟨d1,0,none⟩) 1 1) [⟨[97,103,101],3,[],18,0⟩]):=hd (RdS.one Hd1.out rfl ⟨rfl,Pr.i64s (by decide),Pr.i64s (by decide),by unfold Rch;decide,by unfold Rch;decide⟩)
 have Q2:Hid (RdS 1 Pr.RTl w3 (.slice (some ⟨d2,0,none⟩) 2 2) [[⟨[116,105,109,101],6,[],5,0⟩,⟨[98,108,111,99,107],2,[108,111,119,46,98],0,0⟩],[⟨[97,103,101],3,[],18,0⟩]]):=hd (RdS.two (cs:=[.slice (some ⟨d0,0,none⟩) 2 2]) (ds:=[.slice (some ⟨d1,0,none⟩) 1 1]) Hd2.out rfl rfl ⟨_,rfl,Q0.out⟩ ⟨_,rfl,Q1.out⟩)
 have Q3:Hid (RdS 9 Pr.RItm w3 (.slice (some ⟨d3,0,none⟩) 2 2) Pr.hItems):=hd (RdS.two (cs:=[.int .i64 1,.string ⟨#[120]⟩,.slice (some ⟨d2,0,none⟩) 2 2,.int .i64 2,.int .i64 0,.int .i64 0,.int .i64 0,.int .i64 0,.int .i64 0]) (ds:=[.int .i64 3,.string ⟨#[112]⟩,.slice none 0 0,.int .i64 1000,.int .i64 1,.int .i64 10,.int .i64 0,.int .i64 1,.int .i64 0]) Hd3.out rfl rfl ⟨_,rfl,Pr.i64s (by decide),Pr.i64s (by decide),Pr.i64s (by decide),Pr.i64s (by decide),Pr.i64s (by decide),Pr.i64s (by decide),Q2.out,by unfold Rch;decide⟩ ⟨_,rfl,Pr.i64s (by decide),Pr.i64s (by decide),Pr.i64s (by decide),Pr.i64s (by decide),Pr.i64s (by decide),Pr.i64s (by decide),RdS.nil _ _ _ _ _,by unfold Rch;decide⟩)
 clear Hd0 Hd1 Hd2 Hd3 Q0 Q1 Q2
 have HL3:Hid (Laid w3):=hd ((HL1.out.quiet C2.out).quiet C3.out)
 have e0:=Hd4.out.cell (i:=0) rfl
 go_wp2_with fail
 clear e0
 refine rules_r HL3 Pr.hItems (some ⟨d3,0,none⟩) 2 2 (hd rfl) Q3 (by omega) (hd sz_hItems) (fun w4 h4=>?_)
 have C4:=hd h4
 clear h4
 obtain ⟨rw_,hrw⟩:∃ z:ByteArray,z=⟨(Pr.rules Pr.hItems).1.toArray⟩:=⟨_,rfl⟩
 rw[← hrw]
 have e2:rw_.toList=[97,108,108,111,119,32,120,32,108,105,109,105,116,32,50,32,119,104,101,110,32,116,105,109,101,32,62,61,32,53,32,97,110,100,32,98,108,111,99,107,32,33,61,32,108,111,119,46,98,32,111,114,32,97,103,101,32,60,32,49,56,59,10,112,114,105,99,101,32,112,32,49,48,48,48,32,102,101,101,32,49,47,49,48,59,10]:=by rw[hrw,Pr.head_rules];first|rfl|decide +kernel|simp
 have E2:=hd e2
 clear hrw e2
 rw[show (Pr.rules Pr.hItems).2=0 by rw[Pr.head_rules]]
 have C24:Hid (Chg [] w1 w4):=hd ((C2.out.trans C3.out (by simp)).trans C4.out (by simp))
 have Hb9:=hd (C24.out.blk Hb8.out (by simp))
 have e0:=Hb9.out.cell (i:=0) rfl
 have e1:=Hb9.out.cell (i:=1) rfl
 have e2:=Hb9.out.cell (i:=2) rfl
 have e3:=Hb9.out.cell (i:=3) rfl
 go_upto_region 9 with (fail)
 clear e0 e1 e2 e3
 obtain ⟨b10,hb10⟩:∃ T,T=w4.heap.size:=⟨_,rfl⟩
 try rw[← hb10]
 have hz0:w4.heap.size=w4.heap.size+0:=rfl
 have C5:Hid (Chg [] w4 w4):=hd (Chg.refl _ _)
 obtain ⟨w5,hu⟩:∃ W,W=w4.alloc (.cells #[.string ⟨#[104]⟩,.int .i64 5,.int .i64 0,.slice (some ⟨b7,0,none⟩) 1 1] 26):=⟨_,rfl⟩
 rw[← hu]
 have hz1:w5.heap.size=w4.heap.size+1:=by rw[hu];simp <;> omega
 have Hb10:=newB hu (show b10=w4.heap.size by omega)
 have C5:Hid (Chg [] w4 w5):=hd (by rw[hu];exact C5.out.alloc _)
 clear hu
 have B10:Hid (b10=w4.heap.size):=hd hb10
 clear hz0 hz1 hb10
 have e0:=Hb10.out.cell (i:=0) rfl
 have f0:=Hb10.out.free 0
 go_upto_region 10 with (fail)
 clear e0 f0
 obtain ⟨w6,hW⟩:∃ W,W=w5.setCell ⟨b10,0,none⟩ (.string ⟨#[49]⟩):=⟨_,rfl⟩
 rw[← hW]
 have C6:Hid (Chg [b10] w5 w6):=hd (by rw[hW];exact (Chg.refl _ _).setCell _ _ (.inl (by simp)))
 have Hb11:Hid (Blk w6 b10 [.string ⟨#[49]⟩,.int .i64 5,.int .i64 0,.slice (some ⟨b7,0,none⟩) 1 1] 26):=hd (by rw[hW];exact Hb10.out.set 0 (.string ⟨#[49]⟩))
 have HBN:Hid (w4.heap.size≤b10):=hd (by have:=Hb10.out;have h1:=B10.out;omega)
 have C56:Hid (Chg [] w4 w6):=hd (C5.out.since C6.out HBN.out)
 have C16:Hid (Chg [] w1 w6):=hd (C24.out.trans C56.out (by simp))
 have HL6:Hid (Laid w6):=hd (HL1.out.quiet C16.out)
 have R9:=hd (R7.out.keep Pr.kq_lv C16.out)
 clear hW
 have e0:=Hb11.out.cell (i:=0) rfl
 have e1:=Hb11.out.cell (i:=1) rfl
 have e2:=Hb11.out.cell (i:=2) rfl
 have e3:=Hb11.out.cell (i:=3) rfl
 go_wp2_with fail
 clear e0 e1 e2 e3
 refine hall_r HL6 (Pr.hHall [49]) (some ⟨b7,0,none⟩) 1 1 (hd rfl) R9 (hd ⟨Pr.i64s (by decide),Pr.i64s (by decide)⟩) (by omega) (by decide) (hd sz_hLev) (fun w7 h7=>?_)
 have C7:=hd h7
 clear h7
 rw[show (Pr.hall (Pr.hHall [49])).2=1 by rw[Pr.head_one],show (Pr.hall (Pr.hHall [49])).1=[] by rw[Pr.head_one]]
 have e1:=E1.out
 have e2:=E2.out
 go_wp2_with fail
 exact HRR.out w7 ((C1.out.trans C16.out (by simp)).trans C7.out (by simp))
end Go.Proofs.YtglepipfdmphhaaGreatDoor
