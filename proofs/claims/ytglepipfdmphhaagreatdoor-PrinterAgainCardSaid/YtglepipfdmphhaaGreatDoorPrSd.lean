/-
 Printer: SameRules of the reference.
-/
import Derived.Test.YtglepipfdmphhaaGreatDoorPrRl
import Derived.Test.YtglepipfdmphhaaGreatDoorPrRp
import Derived.Test.YtglepipfdmphhaaGreatDoorPrTk
import Derived.Deep.DeepCutAuto
set_option maxRecDepth 100000
set_option maxHeartbeats 40000000
namespace Go.Proofs.YtglepipfdmphhaaGreatDoor
set_option linter.unusedVariables false
set_option linter.unusedSimpArgs false
open Go Go.RowKit Go.Shelf
attribute [local irreducible] Go.wpStill
theorem zT_iff (a b:Pr.Tst):Pr.zT a=Pr.zT b↔(a.attr=b.attr∧a.op=b.op∧a.name=b.name∧a.n=b.n):=by
 cases a;cases b
 simp only[Pr.zT,Pr.Tst.mk.injEq,and_true]
theorem zI_iff (a b:Pr.Itm):Pr.zI a=Pr.zI b↔((a.kind=b.kind∧a.name=b.name∧a.n=b.n∧a.r.1=b.r.1∧a.r.2=b.r.2∧a.s.1=b.s.1∧a.s.2=b.s.2)∧a.whn.map (·.map Pr.zT)=b.whn.map (·.map Pr.zT)):=by
 cases a with|mk k1 nm1 w1 n1 r1 s1 a1 =>
 cases b with|mk k2 nm2 w2 n2 r2 s2 a2 =>
 obtain ⟨r11,r12⟩:=r1
 obtain ⟨r21,r22⟩:=r2
 obtain ⟨s11,s12⟩:=s1
 obtain ⟨s21,s22⟩:=s2
 simp only[Pr.zI,Pr.Itm.mk.injEq,Prod.mk.injEq,and_true]
 constructor
 · rintro ⟨h1,h2,h3,h4,⟨h5,h6⟩,h7,h8⟩
   exact ⟨⟨h1,h2,h4,h5,h6,h7,h8⟩,h3⟩
 rintro ⟨⟨h1,h2,h4,h5,h6,h7,h8⟩,h3⟩
 exact ⟨h1,h2,h3,h4,⟨h5,h6⟩,h7,h8⟩
theorem sameRules_r {w0 w:World} (HQ:Hid (Chg [] w0 w)) (a b:List Pr.Itm) (p1 p2:Option Addr) (k1 k2 n1 n2:Nat) (H1:Hid (RdS 9 Pr.RItm w0 (.slice p1 n1 k1) a)) (H2:Hid (RdS 9 Pr.RItm w0 (.slice p2 n2 k2) b)) {R:Ending→World→Prop}
 (h:∀ w',Chg [] w w'→R (.returned (.bool (decide (a.map Pr.zI=b.map Pr.zI)))) w'):Calls Tryz.prog 12 #[.agg #[.slice p1 n1 k1],.agg #[.slice p2 n2 k2]] w R:=by
 have HRR:=hd h
 clear h
 obtain ⟨hk1,hr1,hn1⟩:=H1.out.cp
 obtain ⟨hk2,hr2,hn2⟩:=H2.out.cp
 have HN1:=hd hn1
 have HN2:=hd hn2
 clear hn1 hn2
 go_enter Tryz.func12,Tryz.ntmps12
 go_upto_region 1 with (fail)
 obtain ⟨wa,hwa⟩:∃ W,W=w.alloc (.cells #[.slice p1 n1 k1] 38):=⟨_,rfl⟩
 rw[← hwa]
 obtain ⟨w1,hw1⟩:∃ W,W=wa.alloc (.cells #[.slice p2 n2 k2] 38):=⟨_,rfl⟩
 rw[← hw1]
 obtain ⟨Y,hY⟩:∃ X,X=w.heap.size+1:=⟨_,rfl⟩
 rw[← hY]
 obtain ⟨X,hX⟩:∃ X,X=w.heap.size:=⟨_,rfl⟩
 rw[← hX]
 have HX0:Hid (Blk w1 X [.slice p1 n1 k1] 38):=hd (by rw[hw1,hwa,hX];exact (Blk.new w [.slice p1 n1 k1] _).alloc _)
 have HY0:Hid (Blk w1 Y [.slice p2 n2 k2] 38):=hd (by have h9:=Blk.new wa [.slice p2 n2 k2] 38;rw[show wa.heap.size=Y by rw[hwa,hY];simp] at h9;rw[hw1];exact h9)
 have C1:Hid (Chg [] w w1):=hd (by rw[hw1,hwa];exact ((Chg.refl _ _).alloc _).alloc _)
 have HQ1:Hid (Chg [] w0 w1):=hd (HQ.out.trans C1.out (by simp))
 clear hwa hw1 hX hY
 have x0:=HX0.out.cell (i:=0) rfl
 have y0:=HY0.out.cell (i:=0) rfl
 by_cases hl:n1=n2
 · skip
   subst hl
   obtain ⟨n,hn⟩:∃ z,z=n1:=⟨_,rfl⟩
   rw[← hn] at H1 H2 HN1 HN2 hk1 hk2 hr1 HX0 HY0 x0 y0 ⊢
   clear hn
   go_wp2_with fail
   clear x0 y0
   go_loopw [5] (fun i0 wr=>∃ j:Nat,i0 = .int .i64 (j:Int)∧j≤n∧Hid (Chg [] w1 wr)∧Hid ((a.map Pr.zI).take j=(b.map Pr.zI).take j)) (fun i0 _=>n - intN i0)
   case atStart=>exact ⟨0,rfl,Nat.zero_le _,hd (Chg.refl _ _),hd rfl⟩
   case round =>
    obtain ⟨j,rfl,hj,HC,HT⟩:=hrel
    have x0:=(HC.out.blk HX0.out (by simp)).cell (i:=0) rfl
    have y0:=(HC.out.blk HY0.out (by simp)).cell (i:=0) rfl
    by_cases hlt:j < n
    · skip
      have q0:(0:Int)≤(j:Int):=by omega
      have q1:(j:Int) < (n:Int):=by omega
      have q2:(j:Int)≤(k1:Int):=by omega
      have q3:(j:Int)≤(k2:Int):=by omega
      have HQR:Hid (Chg [] w0 wr):=hd (HQ1.out.trans HC.out (by simp))
      obtain ⟨x,g1,og1,csg1,hxx,hag1,-,⟨wv1,hcsg1,-,-,-,-,-,-,hw1,-⟩,hccg1⟩:=H1.out.at_ HQR.out (j:=j) (by rw[HN1.out];exact hlt)
      subst hag1
      obtain ⟨ua,uak,rfl,_,_⟩:=hw1.form
      have HWH1:=hd hw1
      obtain ⟨m1,hm⟩:∃ z,z=x.whn.length:=⟨_,rfl⟩
      rw[← hm] at HWH1 hcsg1
      have HM1:=hd hm.symm
      clear hm hw1
      obtain ⟨y,g2,og2,csg2,hxy,hag2,-,⟨wv2,hcsg2,-,-,-,-,-,-,hw2,-⟩,hccg2⟩:=H2.out.at_ HQR.out (j:=j) (by rw[HN2.out];exact hlt)
      subst hag2
      obtain ⟨va,vak,rfl,_,_⟩:=hw2.form
      have HWH2:=hd hw2
      obtain ⟨m2,hm⟩:∃ z,z=y.whn.length:=⟨_,rfl⟩
      rw[← hm] at HWH2 hcsg2
      have HM2:=hd hm.symm
      clear hm hw2
      have c0:wr.cell? ⟨g1,og1+j*9,none⟩=some (.int .i64 x.kind):=by have h9:=hccg1 0 _ (by rw[hcsg1];rfl);simpa [Pr.iv,Pr.sv] using h9
      have c1:wr.cell? ⟨g1,og1+j*9+1,none⟩=some (.string ⟨x.name.toArray⟩):=by have h9:=hccg1 1 _ (by rw[hcsg1];rfl);simpa [Pr.iv,Pr.sv] using h9
      have c2:wr.cell? ⟨g1,og1+j*9+2,none⟩=some (.slice ua m1 uak):=by have h9:=hccg1 2 _ (by rw[hcsg1];rfl);simpa [Pr.iv,Pr.sv] using h9
      have c3:wr.cell? ⟨g1,og1+j*9+3,none⟩=some (.int .i64 x.n):=by have h9:=hccg1 3 _ (by rw[hcsg1];rfl);simpa [Pr.iv,Pr.sv] using h9
      have c4:wr.cell? ⟨g1,og1+j*9+4,none⟩=some (.int .i64 x.r.1):=by have h9:=hccg1 4 _ (by rw[hcsg1];rfl);simpa [Pr.iv,Pr.sv] using h9
      have c5:wr.cell? ⟨g1,og1+j*9+5,none⟩=some (.int .i64 x.r.2):=by have h9:=hccg1 5 _ (by rw[hcsg1];rfl);simpa [Pr.iv,Pr.sv] using h9
      have c6:wr.cell? ⟨g1,og1+j*9+6,none⟩=some (.int .i64 x.s.1):=by have h9:=hccg1 6 _ (by rw[hcsg1];rfl);simpa [Pr.iv,Pr.sv] using h9
      have c7:wr.cell? ⟨g1,og1+j*9+7,none⟩=some (.int .i64 x.s.2):=by have h9:=hccg1 7 _ (by rw[hcsg1];rfl);simpa [Pr.iv,Pr.sv] using h9
      have c8:wr.cell? ⟨g1,og1+j*9+8,none⟩=some (.int .i64 x.at_):=by have h9:=hccg1 8 _ (by rw[hcsg1];rfl);simpa [Pr.iv,Pr.sv] using h9
      have d0:wr.cell? ⟨g2,og2+j*9,none⟩=some (.int .i64 y.kind):=by have h9:=hccg2 0 _ (by rw[hcsg2];rfl);simpa [Pr.iv,Pr.sv] using h9
      have d1:wr.cell? ⟨g2,og2+j*9+1,none⟩=some (.string ⟨y.name.toArray⟩):=by have h9:=hccg2 1 _ (by rw[hcsg2];rfl);simpa [Pr.iv,Pr.sv] using h9
      have d2:wr.cell? ⟨g2,og2+j*9+2,none⟩=some (.slice va m2 vak):=by have h9:=hccg2 2 _ (by rw[hcsg2];rfl);simpa [Pr.iv,Pr.sv] using h9
      have d3:wr.cell? ⟨g2,og2+j*9+3,none⟩=some (.int .i64 y.n):=by have h9:=hccg2 3 _ (by rw[hcsg2];rfl);simpa [Pr.iv,Pr.sv] using h9
      have d4:wr.cell? ⟨g2,og2+j*9+4,none⟩=some (.int .i64 y.r.1):=by have h9:=hccg2 4 _ (by rw[hcsg2];rfl);simpa [Pr.iv,Pr.sv] using h9
      have d5:wr.cell? ⟨g2,og2+j*9+5,none⟩=some (.int .i64 y.r.2):=by have h9:=hccg2 5 _ (by rw[hcsg2];rfl);simpa [Pr.iv,Pr.sv] using h9
      have d6:wr.cell? ⟨g2,og2+j*9+6,none⟩=some (.int .i64 y.s.1):=by have h9:=hccg2 6 _ (by rw[hcsg2];rfl);simpa [Pr.iv,Pr.sv] using h9
      have d7:wr.cell? ⟨g2,og2+j*9+7,none⟩=some (.int .i64 y.s.2):=by have h9:=hccg2 7 _ (by rw[hcsg2];rfl);simpa [Pr.iv,Pr.sv] using h9
      have d8:wr.cell? ⟨g2,og2+j*9+8,none⟩=some (.int .i64 y.at_):=by have h9:=hccg2 8 _ (by rw[hcsg2];rfl);simpa [Pr.iv,Pr.sv] using h9
      have HX:=hd hxx
      have HY:=hd hxy
      clear hxx hxy hcsg1 hcsg2 hccg1 hccg2
      go_upto_region 7 with (fail)
      obtain ⟨w4,hw⟩:∃ W,W=wr.alloc (.cells #[.int .i64 x.kind,.string ⟨x.name.toArray⟩,.slice ua m1 uak,.int .i64 x.n,.int .i64 x.r.1,.int .i64 x.r.2,.int .i64 x.s.1,.int .i64 x.s.2,.int .i64 x.at_] 69):=⟨_,rfl⟩
      rw[← hw]
      obtain ⟨A1,hX⟩:∃ X,X=wr.heap.size:=⟨_,rfl⟩
      rw[← hX]
      have HA1:=newB hw hX
      have C4:=newC hw
      clear hw hX
      have d0:=cell_quiet C4.out d0 (by simp)
      have d1:=cell_quiet C4.out d1 (by simp)
      have d2:=cell_quiet C4.out d2 (by simp)
      have d3:=cell_quiet C4.out d3 (by simp)
      have d4:=cell_quiet C4.out d4 (by simp)
      have d5:=cell_quiet C4.out d5 (by simp)
      have d6:=cell_quiet C4.out d6 (by simp)
      have d7:=cell_quiet C4.out d7 (by simp)
      have d8:=cell_quiet C4.out d8 (by simp)
      have y0:=cell_quiet C4.out y0 (by simp)
      clear c0 c1 c2 c3 c4 c5 c6 c7 c8
      go_upto_region 8 with (fail)
      obtain ⟨w5,hw⟩:∃ W,W=w4.alloc (.cells #[.int .i64 y.kind,.string ⟨y.name.toArray⟩,.slice va m2 vak,.int .i64 y.n,.int .i64 y.r.1,.int .i64 y.r.2,.int .i64 y.s.1,.int .i64 y.s.2,.int .i64 y.at_] 69):=⟨_,rfl⟩
      rw[← hw]
      obtain ⟨A2,hX⟩:∃ X,X=w4.heap.size:=⟨_,rfl⟩
      rw[← hX]
      have HA2:=newB hw hX
      have C5:=newC hw
      have HA1:=hd (C5.out.blk HA1.out (by simp))
      have C15:Hid (Chg [] w1 w5):=hd ((HC.out.trans C4.out (by simp)).trans C5.out (by simp))
      have HQ5:Hid (Chg [] w0 w5):=hd (HQ1.out.trans C15.out (by simp))
      clear hw hX C4 C5 d0 d1 d2 d3 d4 d5 d6 d7 d8
      have x10:=HA1.out.cell (i:=0) rfl
      have x11:=HA1.out.cell (i:=1) rfl
      have x12:=HA1.out.cell (i:=2) rfl
      have x13:=HA1.out.cell (i:=3) rfl
      have x14:=HA1.out.cell (i:=4) rfl
      have x15:=HA1.out.cell (i:=5) rfl
      have x16:=HA1.out.cell (i:=6) rfl
      have x17:=HA1.out.cell (i:=7) rfl
      have y10:=HA2.out.cell (i:=0) rfl
      have y11:=HA2.out.cell (i:=1) rfl
      have y12:=HA2.out.cell (i:=2) rfl
      have y13:=HA2.out.cell (i:=3) rfl
      have y14:=HA2.out.cell (i:=4) rfl
      have y15:=HA2.out.cell (i:=5) rfl
      have y16:=HA2.out.cell (i:=6) rfl
      have y17:=HA2.out.cell (i:=7) rfl
      obtain ⟨qq,hqq⟩:∃ z,z=decide (x.kind=y.kind∧x.name=y.name∧x.n=y.n∧x.r.1=y.r.1∧x.r.2=y.r.2∧x.s.1=y.s.1∧x.s.2=y.s.2∧m1=m2):=⟨_,rfl⟩
      have HQQ:=hd hqq
      clear hqq
      go_cut [77] (fun s wx=>wx=w5∧s = .bool (!qq))
      case first =>
       by_cases hk:x.kind=y.kind
       · skip
         have Ek:=hd hk
         have ek:(x.kind == y.kind)=true:=by rw[Ek.out];exact beq_self_eq_true _
         have fk:(x.kind != y.kind)=false:=by rw[Ek.out];simp
         clear hk
         by_cases hn:x.name=y.name
         · skip
           have En:=hd hn
           have en:(x.name == y.name)=true:=by rw[En.out];exact beq_self_eq_true _
           have fn:(x.name != y.name)=false:=by rw[En.out];simp
           clear hn
           by_cases hq:x.n=y.n
           · skip
             have Eqq:=hd hq
             have eq:(x.n == y.n)=true:=by rw[Eqq.out];exact beq_self_eq_true _
             have fq:(x.n != y.n)=false:=by rw[Eqq.out];simp
             clear hq
             by_cases ha:x.r.1=y.r.1
             · skip
               have Ea:=hd ha
               have ea:(x.r.1 == y.r.1)=true:=by rw[Ea.out];exact beq_self_eq_true _
               have fa:(x.r.1 != y.r.1)=false:=by rw[Ea.out];simp
               clear ha
               by_cases hb:x.r.2=y.r.2
               · skip
                 have Eb:=hd hb
                 have eb:(x.r.2 == y.r.2)=true:=by rw[Eb.out];exact beq_self_eq_true _
                 have fb:(x.r.2 != y.r.2)=false:=by rw[Eb.out];simp
                 clear hb
                 by_cases hc:x.s.1=y.s.1
                 · skip
                   have Ec:=hd hc
                   have ec:(x.s.1 == y.s.1)=true:=by rw[Ec.out];exact beq_self_eq_true _
                   have fc:(x.s.1 != y.s.1)=false:=by rw[Ec.out];simp
                   clear hc
                   by_cases he:x.s.2=y.s.2
                   · skip
                     have Ee:=hd he
                     have ee:(x.s.2 == y.s.2)=true:=by rw[Ee.out];exact beq_self_eq_true _
                     have fe:(x.s.2 != y.s.2)=false:=by rw[Ee.out];simp
                     clear he
                     by_cases hl:m1=m2
                     · skip
                       have El:=hd hl
                       have el:((m1:Int) == (m2:Int))=true:=by rw[hl];exact beq_self_eq_true _
                       have fl:((m1:Int) != (m2:Int))=false:=by rw[hl];simp
                       clear hl
                       go_wp2_with fail
                       go_meet
                       exact ⟨rfl,by rw[HQQ.out,decide_eq_true ⟨Ek.out,En.out,Eqq.out,Ea.out,Eb.out,Ec.out,Ee.out,El.out⟩];rfl⟩
                     have el:((m1:Int) == (m2:Int))=false:=by rw[beq_eq_false_iff_ne];omega
                     have fl:((m1:Int) != (m2:Int))=true:=by simp;omega
                     go_wp2_with fail
                     go_meet
                     exact ⟨rfl,by rw[HQQ.out,decide_eq_false (fun e=>hl e.2.2.2.2.2.2.2)];rfl⟩
                   have ee:(x.s.2 == y.s.2)=false:=by rw[beq_eq_false_iff_ne];exact he
                   have fe:(x.s.2 != y.s.2)=true:=by simp[he]
                   go_wp2_with fail
                   go_meet
                   exact ⟨rfl,by rw[HQQ.out,decide_eq_false (fun e=>he e.2.2.2.2.2.2.1)];rfl⟩
                 have ec:(x.s.1 == y.s.1)=false:=by rw[beq_eq_false_iff_ne];exact hc
                 have fc:(x.s.1 != y.s.1)=true:=by simp[hc]
                 go_wp2_with fail
                 go_meet
                 exact ⟨rfl,by rw[HQQ.out,decide_eq_false (fun e=>hc e.2.2.2.2.2.1)];rfl⟩
               have eb:(x.r.2 == y.r.2)=false:=by rw[beq_eq_false_iff_ne];exact hb
               have fb:(x.r.2 != y.r.2)=true:=by simp[hb]
               go_wp2_with fail
               go_meet
               exact ⟨rfl,by rw[HQQ.out,decide_eq_false (fun e=>hb e.2.2.2.2.1)];rfl⟩
             have ea:(x.r.1 == y.r.1)=false:=by rw[beq_eq_false_iff_ne];exact ha
             have fa:(x.r.1 != y.r.1)=true:=by simp[ha]
             go_wp2_with fail
             go_meet
             exact ⟨rfl,by rw[HQQ.out,decide_eq_false (fun e=>ha e.2.2.2.1)];rfl⟩
           have eq:(x.n == y.n)=false:=by rw[beq_eq_false_iff_ne];exact hq
           have fq:(x.n != y.n)=true:=by simp[hq]
           go_wp2_with fail
           go_meet
           exact ⟨rfl,by rw[HQQ.out,decide_eq_false (fun e=>hq e.2.2.1)];rfl⟩
         have en:(x.name == y.name)=false:=by rw[beq_eq_false_iff_ne];exact hn
         have fn:(x.name != y.name)=true:=by simp[hn]
         go_wp2_with fail
         go_meet
         exact ⟨rfl,by rw[HQQ.out,decide_eq_false (fun e=>hn e.2.1)];rfl⟩
       have ek:(x.kind == y.kind)=false:=by rw[beq_eq_false_iff_ne];exact hk
       have fk:(x.kind != y.kind)=true:=by simp[hk]
       go_wp2_with fail
       go_meet
       exact ⟨rfl,by rw[HQQ.out,decide_eq_false (fun e=>hk e.1)];rfl⟩
      case rest =>
       obtain ⟨hw,hs⟩:=hcut
       subst hs
       rw[hw]
       clear hw x10 y10 x11 y11 x12 y12 x13 y13 x14 y14 x15 y15 x16 y16 x17 y17 y0 x0
       cases qq with
       | false =>
        have HNE:=hd (of_decide_eq_false HQQ.out.symm)
        go_wp2_with fail
        have h9:=HRR.out w5 (C1.out.trans C15.out (by simp))
        rw[decide_eq_false (fun e=>tk_ne (map_at Pr.zI HX.out) (map_at Pr.zI HY.out) (fun e=>HNE.out (by
         obtain ⟨⟨e1,e2,e3,e4,e5,e6,e7⟩,e8⟩:=(zI_iff x y).1 e
         have l5:=congrArg List.length e8
         rw[List.length_map,List.length_map,HM1.out,HM2.out] at l5
         exact ⟨e1,e2,e3,e4,e5,e6,e7,l5⟩)) e)] at h9
        exact h9
       | true =>
        have hee:=of_decide_eq_true HQQ.out.symm
        have HEE:=hd (And.intro hee.1 (And.intro hee.2.1 (And.intro hee.2.2.1 (And.intro hee.2.2.2.1 (And.intro hee.2.2.2.2.1 (And.intro hee.2.2.2.2.2.1 hee.2.2.2.2.2.2.1))))))
        have g0:m1=m2:=hee.2.2.2.2.2.2.2
        subst g0
        obtain ⟨hu1,hu2,_⟩:=HWH1.out.cp
        obtain ⟨hv1,hv2,_⟩:=HWH2.out.cp
        obtain ⟨m,hm⟩:∃ z,z=m1:=⟨_,rfl⟩
        rw[← hm] at HWH1 HWH2 HM1 HM2 hu1 hu2 hv1 hv2 HA1 HA2
        try rw[← hm]
        clear hm hee HQQ
        go_wp2_with fail
        go_loopw [8] (fun i1 wr=>∃ p:Nat,i1 = .int .i64 (p:Int)∧p≤m∧Hid (Chg [] w5 wr)∧Hid ((x.whn.map (·.map Pr.zT)).take p=(y.whn.map (·.map Pr.zT)).take p)) (fun i1 _=>m - intN i1)
        case atStart=>exact ⟨0,rfl,Nat.zero_le _,hd (Chg.refl _ _),hd rfl⟩
        case round =>
         obtain ⟨p,rfl,hp,HP,HTP⟩:=hrel
         have x2:=(HP.out.blk HA1.out (by simp)).cell (i:=2) rfl
         have y2:=(HP.out.blk HA2.out (by simp)).cell (i:=2) rfl
         by_cases hlp:p < m
         · skip
           have t0:(0:Int)≤(p:Int):=by omega
           have t1:(p:Int) < (m:Int):=by omega
           have t2:(p:Int)≤(uak:Int):=by omega
           have t3:(p:Int)≤(vak:Int):=by omega
           have HQP:Hid (Chg [] w0 wr):=hd (HQ5.out.trans HP.out (by simp))
           obtain ⟨f,g3,og3,csg3,hxf,hag3,-,⟨tv3,hcsg3,ht3⟩,hccg3⟩:=HWH1.out.at_ HQP.out (j:=p) (by rw[HM1.out];exact hlp)
           subst hag3
           obtain ⟨sa,sak,rfl,_,_⟩:=ht3.form
           have HTL3:=hd ht3
           obtain ⟨s1,hm⟩:∃ z,z=f.length:=⟨_,rfl⟩
           rw[← hm] at HTL3 hcsg3
           have HS3:=hd hm.symm
           clear hm ht3
           have c3:wr.cell? ⟨g3,og3+p,none⟩=some (.slice sa s1 sak):=by have h9:=hccg3 0 _ (by rw[hcsg3];rfl);simpa using h9
           obtain ⟨k,g4,og4,csg4,hxk,hag4,-,⟨tv4,hcsg4,ht4⟩,hccg4⟩:=HWH2.out.at_ HQP.out (j:=p) (by rw[HM2.out];exact hlp)
           subst hag4
           obtain ⟨sb,sbk,rfl,_,_⟩:=ht4.form
           have HTL4:=hd ht4
           obtain ⟨s2,hm⟩:∃ z,z=k.length:=⟨_,rfl⟩
           rw[← hm] at HTL4 hcsg4
           have HS4:=hd hm.symm
           clear hm ht4
           have c4:wr.cell? ⟨g4,og4+p,none⟩=some (.slice sb s2 sbk):=by have h9:=hccg4 0 _ (by rw[hcsg4];rfl);simpa using h9
           have HF:=hd hxf
           have HK:=hd hxk
           clear hxf hxk hcsg3 hcsg4 hccg3 hccg4
           obtain ⟨q9,hq9⟩:∃ z,z=decide (s1=s2):=⟨_,rfl⟩
           have HQ9:=hd hq9
           clear hq9
           go_upto_region 13 with (fail)
           go_cut [97] (fun s wx=>s = .bool (!q9)∧Hid (Chg [] wr wx))
           case first =>
            by_cases hr:s1=s2
            · skip
              have Er:=hd hr
              have er:((s1:Int) == (s2:Int))=true:=by rw[hr];exact beq_self_eq_true _
              have fr:((s1:Int) != (s2:Int))=false:=by rw[hr];simp
              clear hr
              go_quiet (fail)
              obtain ⟨V2,hV2⟩:∃ V2,V2=wr.drewN nq:=⟨_,rfl⟩
              rw[← hV2]
              have HC2:Hid (Chg [] wr V2):=hd (by rw[hV2];exact chg_drewN _ _)
              clear hV2
              go_wp2_with fail
              go_meet
              exact ⟨by rw[HQ9.out,decide_eq_true Er.out];rfl,HC2⟩
            have er:((s1:Int) == (s2:Int))=false:=by rw[beq_eq_false_iff_ne];omega
            have fr:((s1:Int) != (s2:Int))=true:=by simp;omega
            go_quiet (fail)
            obtain ⟨V2,hV2⟩:∃ V2,V2=wr.drewN nq:=⟨_,rfl⟩
            rw[← hV2]
            have HC2:Hid (Chg [] wr V2):=hd (by rw[hV2];exact chg_drewN _ _)
            clear hV2
            go_wp2_with fail
            go_meet
            exact ⟨by rw[HQ9.out,decide_eq_false hr];rfl,HC2⟩
           case rest =>
            obtain ⟨hs,CD⟩:=hcut
            subst hs
            obtain ⟨wv,hwv⟩:∃ z,z=wc:=⟨_,rfl⟩
            rw[← hwv] at CD ⊢
            have HCV:Hid (Chg [] w5 wv):=hd (HP.out.trans CD.out (by simp))
            have HQV:Hid (Chg [] w0 wv):=hd (HQ5.out.trans HCV.out (by simp))
            have D3:=hd (cell_quiet CD.out c3 (by simp))
            have D4:=hd (cell_quiet CD.out c4 (by simp))
            clear hwv c3 c4 x2 y2 CD
            cases q9 with
            | false =>
             have HNE:=hd (of_decide_eq_false HQ9.out.symm)
             go_wp2_with fail
             have h9:=HRR.out wv (C1.out.trans (C15.out.trans HCV.out (by simp)) (by simp))
             rw[decide_eq_false (fun e=>tk_ne (map_at Pr.zI HX.out) (map_at Pr.zI HY.out) (fun e=>tk_ne (map_at (·.map Pr.zT) HF.out) (map_at (·.map Pr.zT) HK.out) (fun e=>HNE.out (by have l5:=congrArg List.length e;rwa [List.length_map,List.length_map,HS3.out,HS4.out] at l5)) ((zI_iff x y).1 e).2) e)] at h9
             exact h9
            | true =>
             have g9:s1=s2:=of_decide_eq_true HQ9.out.symm
             subst g9
             clear HQ9
             obtain ⟨ur,vr,_⟩:=HTL3.out.cp
             obtain ⟨us,vs,_⟩:=HTL4.out.cp
             go_wp2_with fail
             go_loopw [9] (fun i2 wr=>∃ z:Nat,i2 = .int .i64 (z:Int)∧z≤s1∧Hid (Chg [] wv wr)∧Hid ((f.map Pr.zT).take z=(k.map Pr.zT).take z)) (fun i2 _=>s1 - intN i2)
             case atStart=>exact ⟨0,rfl,Nat.zero_le _,hd (Chg.refl _ _),hd rfl⟩
             case round =>
              obtain ⟨z,rfl,hz,HZ,HTZ⟩:=hrel
              have x2:=((HCV.out.trans HZ.out (by simp)).blk HA1.out (by simp)).cell (i:=2) rfl
              have y2:=((HCV.out.trans HZ.out (by simp)).blk HA2.out (by simp)).cell (i:=2) rfl
              have c3:=cell_quiet HZ.out D3.out (by simp)
              have c4:=cell_quiet HZ.out D4.out (by simp)
              by_cases hlz:z < s1
              · skip
                have v0:(0:Int)≤(z:Int):=by omega
                have v1:(z:Int) < (s1:Int):=by omega
                have v2:(z:Int)≤(sak:Int):=by omega
                have v3:(z:Int)≤(sbk:Int):=by omega
                have HQZ:Hid (Chg [] w0 wr):=hd (HQV.out.trans HZ.out (by simp))
                obtain ⟨t,g5,og5,csg5,ht,hag5,-,⟨hcsg5,-⟩,hccg5⟩:=HTL3.out.at_ HQZ.out (j:=z) (by rw[HS3.out];exact hlz)
                subst hag5
                obtain ⟨u,g6,og6,csg6,hu,hag6,-,⟨hcsg6,-⟩,hccg6⟩:=HTL4.out.at_ HQZ.out (j:=z) (by rw[HS4.out];exact hlz)
                subst hag6
                have e0:wr.cell? ⟨g5,og5+z*5,none⟩=some (.string ⟨t.attr.toArray⟩):=by have h9:=hccg5 0 _ (by rw[hcsg5];rfl);simpa [Pr.iv,Pr.sv] using h9
                have e1:wr.cell? ⟨g5,og5+z*5+1,none⟩=some (.int .i64 t.op):=by have h9:=hccg5 1 _ (by rw[hcsg5];rfl);simpa [Pr.iv,Pr.sv] using h9
                have e2:wr.cell? ⟨g5,og5+z*5+2,none⟩=some (.string ⟨t.name.toArray⟩):=by have h9:=hccg5 2 _ (by rw[hcsg5];rfl);simpa [Pr.iv,Pr.sv] using h9
                have e3:wr.cell? ⟨g5,og5+z*5+3,none⟩=some (.int .i64 t.n):=by have h9:=hccg5 3 _ (by rw[hcsg5];rfl);simpa [Pr.iv,Pr.sv] using h9
                have e4:wr.cell? ⟨g5,og5+z*5+4,none⟩=some (.int .i64 t.at_):=by have h9:=hccg5 4 _ (by rw[hcsg5];rfl);simpa [Pr.iv,Pr.sv] using h9
                have h0:wr.cell? ⟨g6,og6+z*5,none⟩=some (.string ⟨u.attr.toArray⟩):=by have h9:=hccg6 0 _ (by rw[hcsg6];rfl);simpa [Pr.iv,Pr.sv] using h9
                have h1:wr.cell? ⟨g6,og6+z*5+1,none⟩=some (.int .i64 u.op):=by have h9:=hccg6 1 _ (by rw[hcsg6];rfl);simpa [Pr.iv,Pr.sv] using h9
                have h2:wr.cell? ⟨g6,og6+z*5+2,none⟩=some (.string ⟨u.name.toArray⟩):=by have h9:=hccg6 2 _ (by rw[hcsg6];rfl);simpa [Pr.iv,Pr.sv] using h9
                have h3:wr.cell? ⟨g6,og6+z*5+3,none⟩=some (.int .i64 u.n):=by have h9:=hccg6 3 _ (by rw[hcsg6];rfl);simpa [Pr.iv,Pr.sv] using h9
                have h4:wr.cell? ⟨g6,og6+z*5+4,none⟩=some (.int .i64 u.at_):=by have h9:=hccg6 4 _ (by rw[hcsg6];rfl);simpa [Pr.iv,Pr.sv] using h9
                have HTT:=hd ht
                have HUU:=hd hu
                clear ht hu hcsg5 hcsg6 hccg5 hccg6
                go_upto_region 19 with (fail)
                obtain ⟨wx1,hw⟩:∃ W,W=wr.alloc (.cells #[.string ⟨t.attr.toArray⟩,.int .i64 t.op,.string ⟨t.name.toArray⟩,.int .i64 t.n,.int .i64 t.at_] 63):=⟨_,rfl⟩
                rw[← hw]
                obtain ⟨B1,hX⟩:∃ X,X=wr.heap.size:=⟨_,rfl⟩
                rw[← hX]
                have HB1:=newB hw hX
                have K1:=newC hw
                have hB1:B1=wr.heap.size:=hX
                clear hw hX
                have h0:=cell_quiet K1.out h0 (by simp)
                have h1:=cell_quiet K1.out h1 (by simp)
                have h2:=cell_quiet K1.out h2 (by simp)
                have h3:=cell_quiet K1.out h3 (by simp)
                have h4:=cell_quiet K1.out h4 (by simp)
                have y2:=cell_quiet K1.out y2 (by simp)
                have c4:=cell_quiet K1.out c4 (by simp)
                clear e0 e1 e2 e3 e4
                go_upto_region 20 with (fail)
                obtain ⟨wx2,hw⟩:∃ W,W=wx1.alloc (.cells #[.string ⟨u.attr.toArray⟩,.int .i64 u.op,.string ⟨u.name.toArray⟩,.int .i64 u.n,.int .i64 u.at_] 63):=⟨_,rfl⟩
                rw[← hw]
                obtain ⟨B2,hX⟩:∃ X,X=wx1.heap.size:=⟨_,rfl⟩
                rw[← hX]
                have HB2:=newB hw hX
                have K2:=newC hw
                have NB12:B1≠B2:=by have h1:=HB1.out.lt;omega
                have HB1:=hd (K2.out.blk HB1.out (by simp))
                have K12:Hid (Chg [] wr wx2):=hd (K1.out.trans K2.out (by simp))
                have KB:Hid (wr.heap.size≤B1∧wr.heap.size≤B2):=hd ⟨by rw[hB1];exact Nat.le_refl _,by rw[hX];exact K1.out.size⟩
                clear hw hX hB1 h0 h1 h2 h3 h4
                have l4:=HB1.out.cell (i:=4) rfl
                have l5:=HB1.out.free 4
                have r4:=HB2.out.cell (i:=4) rfl
                have r5:=HB2.out.free 4
                go_upto_region 21 with (fail)
                clear l4 l5
                obtain ⟨wx3,hw⟩:∃ W,W=wx2.setCell ⟨B1,4,none⟩ (.int .i64 0):=⟨_,rfl⟩
                rw[← hw]
                have HB1:Hid (Blk wx3 B1 [.string ⟨t.attr.toArray⟩,.int .i64 t.op,.string ⟨t.name.toArray⟩,.int .i64 t.n,.int .i64 0] 63):=hd (by rw[hw];exact HB1.out.set 4 (.int .i64 0))
                have HB2:=hd (HB2.out.other ⟨B1,4,none⟩ (.int .i64 0) (Ne.symm NB12))
                rw[← hw] at HB2
                have K3:Hid (Chg [B1] wx2 wx3):=hd (by rw[hw];exact (Chg.refl _ _).setCell _ _ (.inl (by simp)))
                clear hw r4 r5
                have r4:=HB2.out.cell (i:=4) rfl
                have r5:=HB2.out.free 4
                go_upto_region 22 with (fail)
                clear r4 r5
                obtain ⟨wx4,hw⟩:∃ W,W=wx3.setCell ⟨B2,4,none⟩ (.int .i64 0):=⟨_,rfl⟩
                rw[← hw]
                have HB2:Hid (Blk wx4 B2 [.string ⟨u.attr.toArray⟩,.int .i64 u.op,.string ⟨u.name.toArray⟩,.int .i64 u.n,.int .i64 0] 63):=hd (by rw[hw];exact HB2.out.set 4 (.int .i64 0))
                have HB1:=hd (HB1.out.other ⟨B2,4,none⟩ (.int .i64 0) NB12)
                rw[← hw] at HB1
                have K4:Hid (Chg [B2] wx3 wx4):=hd (by rw[hw];exact (Chg.refl _ _).setCell _ _ (.inl (by simp)))
                clear hw
                have KK:Hid (Chg [] wr wx4):=hd ((K12.out.since K3.out KB.out.1).since K4.out KB.out.2)
                have HZ4:Hid (Chg [] wv wx4):=hd (HZ.out.trans KK.out (by simp))
                have l0:=HB1.out.cell (i:=0) rfl
                have l1:=HB1.out.cell (i:=1) rfl
                have l2:=HB1.out.cell (i:=2) rfl
                have l3:=HB1.out.cell (i:=3) rfl
                have l4:=HB1.out.cell (i:=4) rfl
                have r0:=HB2.out.cell (i:=0) rfl
                have r1:=HB2.out.cell (i:=1) rfl
                have r2:=HB2.out.cell (i:=2) rfl
                have r3:=HB2.out.cell (i:=3) rfl
                have r4:=HB2.out.cell (i:=4) rfl
                by_cases ha:t.attr=u.attr
                · skip
                  have Ea:=hd ha
                  have ea:(t.attr == u.attr)=true:=by rw[Ea.out];exact beq_self_eq_true _
                  have fa:(t.attr != u.attr)=false:=by rw[Ea.out];simp
                  clear ha
                  by_cases ho:t.op=u.op
                  · skip
                    have Eo:=hd ho
                    have eo:(t.op == u.op)=true:=by rw[Eo.out];exact beq_self_eq_true _
                    have fo:(t.op != u.op)=false:=by rw[Eo.out];simp
                    clear ho
                    by_cases hm:t.name=u.name
                    · skip
                      have Em:=hd hm
                      have em:(t.name == u.name)=true:=by rw[Em.out];exact beq_self_eq_true _
                      have fm:(t.name != u.name)=false:=by rw[Em.out];simp
                      clear hm
                      by_cases hw:t.n=u.n
                      · skip
                        have Ew:=hd hw
                        have ew:(t.n == u.n)=true:=by rw[Ew.out];exact beq_self_eq_true _
                        have fw:(t.n != u.n)=false:=by rw[Ew.out];simp
                        clear hw
                        have HTU:Hid (Pr.zT t=Pr.zT u):=hd ((zT_iff t u).2 ⟨Ea.out,Eo.out,Em.out,Ew.out⟩)
                        go_wp2_with fail
                        go_roundw
                        case rel=>first|exact ⟨z+1,vint (by omega),by omega,HZ4,hd (tk_step HTZ.out (map_at _ HTT.out) (by rw[HTU.out];exact map_at _ HUU.out))⟩|((repeat apply Exists.intro);exact ⟨⟨z+1,vint (by omega),by omega,HZ4,hd (tk_step HTZ.out (map_at _ HTT.out) (by rw[HTU.out];exact map_at _ HUU.out))⟩,rfl⟩)
                        case measure=>simp[intN];omega
                      have ew:(t.n == u.n)=false:=by rw[beq_eq_false_iff_ne];exact hw
                      have fw:(t.n != u.n)=true:=by simp[hw]
                      go_wp2_with fail
                      have h9:=HRR.out wx4 (C1.out.trans (C15.out.trans (HCV.out.trans HZ4.out (by simp)) (by simp)) (by simp))
                      rw[decide_eq_false (fun e=>tk_ne (map_at Pr.zI HX.out) (map_at Pr.zI HY.out) (fun e=>tk_ne (map_at (·.map Pr.zT) HF.out) (map_at (·.map Pr.zT) HK.out) (fun e=>tk_ne (map_at Pr.zT HTT.out) (map_at Pr.zT HUU.out) (fun e=>by have e:=(zT_iff t u).1 e;exact hw e.2.2.2) e) ((zI_iff x y).1 e).2) e)] at h9
                      exact h9
                    have em:(t.name == u.name)=false:=by rw[beq_eq_false_iff_ne];exact hm
                    have fm:(t.name != u.name)=true:=by simp[hm]
                    go_wp2_with fail
                    have h9:=HRR.out wx4 (C1.out.trans (C15.out.trans (HCV.out.trans HZ4.out (by simp)) (by simp)) (by simp))
                    rw[decide_eq_false (fun e=>tk_ne (map_at Pr.zI HX.out) (map_at Pr.zI HY.out) (fun e=>tk_ne (map_at (·.map Pr.zT) HF.out) (map_at (·.map Pr.zT) HK.out) (fun e=>tk_ne (map_at Pr.zT HTT.out) (map_at Pr.zT HUU.out) (fun e=>by have e:=(zT_iff t u).1 e;exact hm e.2.2.1) e) ((zI_iff x y).1 e).2) e)] at h9
                    exact h9
                  have eo:(t.op == u.op)=false:=by rw[beq_eq_false_iff_ne];exact ho
                  have fo:(t.op != u.op)=true:=by simp[ho]
                  go_wp2_with fail
                  have h9:=HRR.out wx4 (C1.out.trans (C15.out.trans (HCV.out.trans HZ4.out (by simp)) (by simp)) (by simp))
                  rw[decide_eq_false (fun e=>tk_ne (map_at Pr.zI HX.out) (map_at Pr.zI HY.out) (fun e=>tk_ne (map_at (·.map Pr.zT) HF.out) (map_at (·.map Pr.zT) HK.out) (fun e=>tk_ne (map_at Pr.zT HTT.out) (map_at Pr.zT HUU.out) (fun e=>by have e:=(zT_iff t u).1 e;exact ho e.2.1) e) ((zI_iff x y).1 e).2) e)] at h9
                  exact h9
                have ea:(t.attr == u.attr)=false:=by rw[beq_eq_false_iff_ne];exact ha
                have fa:(t.attr != u.attr)=true:=by simp[ha]
                go_wp2_with fail
                have h9:=HRR.out wx4 (C1.out.trans (C15.out.trans (HCV.out.trans HZ4.out (by simp)) (by simp)) (by simp))
                rw[decide_eq_false (fun e=>tk_ne (map_at Pr.zI HX.out) (map_at Pr.zI HY.out) (fun e=>tk_ne (map_at (·.map Pr.zT) HF.out) (map_at (·.map Pr.zT) HK.out) (fun e=>tk_ne (map_at Pr.zT HTT.out) (map_at Pr.zT HUU.out) (fun e=>by have e:=(zT_iff t u).1 e;exact ha e.1) e) ((zI_iff x y).1 e).2) e)] at h9
                exact h9
              have v1:¬ (z:Int) < (s1:Int):=by omega
              have HFE:Hid (f.map Pr.zT=k.map Pr.zT):=hd (tk_end HTZ.out (by rw[List.length_map,HS3.out];omega) (by rw[List.length_map,HS4.out];omega))
              have HCE:Hid (Chg [] w5 wr):=hd (HCV.out.trans HZ.out (by simp))
              have HW8:Hid ((y.whn.map (·.map Pr.zT))[p]? = some (f.map Pr.zT)):=hd (by rw[HFE.out];exact map_at (·.map Pr.zT) HK.out)
              have HW9:Hid ((x.whn.map (·.map Pr.zT)).take (p+1)=(y.whn.map (·.map Pr.zT)).take (p+1)):=hd (tk_step HTP.out (map_at (·.map Pr.zT) HF.out) HW8.out)
              go_wp2_with fail
              go_roundw
              case rel=>first|exact ⟨p+1,by omega,by omega,HW9⟩|exact ⟨p+1,vint (by omega),by omega,HCE,HW9⟩
              case measure=>simp[intN];omega
         have t1:¬ (p:Int) < (m:Int):=by omega
         have HWE:Hid (x.whn.map (·.map Pr.zT)=y.whn.map (·.map Pr.zT)):=hd (tk_end HTP.out (by rw[List.length_map,HM1.out];omega) (by rw[List.length_map,HM2.out];omega))
         have HZI:Hid (Pr.zI x=Pr.zI y):=hd ((zI_iff x y).2 ⟨HEE.out,HWE.out⟩)
         have HCE:Hid (Chg [] w1 wr):=hd (C15.out.trans HP.out (by simp))
         go_wp2_with fail
         go_roundw
         case rel=>first|exact ⟨j+1,vint (by omega),by omega,HCE,hd (tk_step HT.out (map_at _ HX.out) (by rw[HZI.out];exact map_at _ HY.out))⟩|((repeat apply Exists.intro);exact ⟨⟨j+1,vint (by omega),by omega,HCE,hd (tk_step HT.out (map_at _ HX.out) (by rw[HZI.out];exact map_at _ HY.out))⟩,rfl⟩)
         case measure=>simp[intN];omega
    have q1:¬ (j:Int) < (n:Int):=by omega
    have HE:Hid (a.map Pr.zI=b.map Pr.zI):=hd (tk_end HT.out (by rw[List.length_map,HN1.out];omega) (by rw[List.length_map,HN2.out];omega))
    go_wp2_with fail
    have h9:=HRR.out wr (C1.out.trans HC.out (by simp))
    rw[decide_eq_true HE.out] at h9
    exact h9
 have el:((n1:Int) == (n2:Int))=false:=by rw[beq_eq_false_iff_ne];omega
 have fl:((n1:Int) != (n2:Int))=true:=by simp;omega
 have HF:Hid (a.map Pr.zI≠b.map Pr.zI):=hd (len_ne (by rw[List.length_map,List.length_map,HN1.out,HN2.out];exact hl))
 go_wp2_with fail
 have h9:=HRR.out w1 C1.out
 rw[decide_eq_false HF.out] at h9
 exact h9
end Go.Proofs.YtglepipfdmphhaaGreatDoor
