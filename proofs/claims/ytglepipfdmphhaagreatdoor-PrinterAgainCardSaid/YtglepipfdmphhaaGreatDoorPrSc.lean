/-
  PrSa, PrSb, PrSc in one text.
-/
import Derived.Test.YtglepipfdmphhaaGreatDoorPrRl
import Derived.Test.YtglepipfdmphhaaGreatDoorPrHp
import Derived.Deep.DeepCutAuto
import Derived.Test.YtglepipfdmphhaaGreatDoorPrTk
set_option maxRecDepth 100000
set_option maxHeartbeats 40000000
namespace Go.Proofs.YtglepipfdmphhaaGreatDoor
set_option linter.unusedVariables false
set_option linter.unusedSimpArgs false
open Go Go.RowKit Go.Shelf
attribute [local irreducible] Go.wpStill
theorem boxes_r {w0 w:World} (HQ:Hid (Chg [] w0 w)) (l1 l2:List Pr.Bx) (p1 p2:Option Addr) (k1 k2 n1 n2:Nat) (H1:Hid (RdS 4 Pr.RBx w0 (.slice p1 n1 k1) l1)) (H2:Hid (RdS 4 Pr.RBx w0 (.slice p2 n2 k2) l2)) {R:Ending→World→Prop}
 (h:∀ w',Chg [] w w'→R (.returned (.bool (decide (l1=l2)))) w'):Calls Tryz.prog 47 #[.slice p1 n1 k1,.slice p2 n2 k2] w R:=by
 have HRR:=hd h
 clear h
 obtain ⟨hk1,hr1,hn1⟩:=H1.out.cp
 obtain ⟨hk2,hr2,hn2⟩:=H2.out.cp
 have HN1:=hd hn1
 have HN2:=hd hn2
 clear hn1 hn2
 go_enter Tryz.func47,Tryz.ntmps47
 by_cases hnn:n1=n2
 · subst hnn
   obtain ⟨n,hn⟩:∃ z,z=n1:=⟨_,rfl⟩
   rw[← hn] at H1 H2 HN1 HN2 hk1 hk2 hr1 ⊢
   clear hn
   go_wp2_with fail
   go_loopw [5] (fun i0 wr=>∃ j:Nat,i0 = .int .i64 (j:Int)∧j≤n∧Hid (Chg [] w wr)∧Hid (l1.take j=l2.take j)) (fun i0 _=>n - intN i0)
   case atStart=>exact ⟨0,rfl,Nat.zero_le _,hd (Chg.refl _ _),hd rfl⟩
   case round =>
    obtain ⟨j,rfl,hj,HC,HT⟩:=hrel
    by_cases hlt:j < n
    · skip
      have q0:(0:Int)≤(j:Int):=by omega
      have q1:(j:Int) < (n:Int):=by omega
      have q2:(j:Int)≤(k1:Int):=by omega
      have q3:(j:Int)≤(k2:Int):=by omega
      have HQR:Hid (Chg [] w0 wr):=hd (HQ.out.trans HC.out (by simp))
      obtain ⟨x,g1,og1,csg1,hxx,hag1,-,hrg1,hccg1⟩:=H1.out.at_ HQR.out (j:=j) (by rw[HN1.out];exact hlt)
      subst hag1
      obtain ⟨hcsg1,-⟩:=hrg1
      obtain ⟨y,g2,og2,csg2,hxy,hag2,-,hrg2,hccg2⟩:=H2.out.at_ HQR.out (j:=j) (by rw[HN2.out];exact hlt)
      subst hag2
      obtain ⟨hcsg2,-⟩:=hrg2
      have c0:wr.cell? ⟨g1,og1+j*4,none⟩=some (.int .i64 x.x):=by have h9:=hccg1 0 _ (by rw[hcsg1];rfl);simpa [Pr.iv,Pr.sv] using h9
      have c1:wr.cell? ⟨g1,og1+j*4+1,none⟩=some (.int .i64 x.y):=by have h9:=hccg1 1 _ (by rw[hcsg1];rfl);simpa [Pr.iv,Pr.sv] using h9
      have c2:wr.cell? ⟨g1,og1+j*4+2,none⟩=some (.int .i64 x.x2):=by have h9:=hccg1 2 _ (by rw[hcsg1];rfl);simpa [Pr.iv,Pr.sv] using h9
      have c3:wr.cell? ⟨g1,og1+j*4+3,none⟩=some (.int .i64 x.y2):=by have h9:=hccg1 3 _ (by rw[hcsg1];rfl);simpa [Pr.iv,Pr.sv] using h9
      have d0:wr.cell? ⟨g2,og2+j*4,none⟩=some (.int .i64 y.x):=by have h9:=hccg2 0 _ (by rw[hcsg2];rfl);simpa [Pr.iv,Pr.sv] using h9
      have d1:wr.cell? ⟨g2,og2+j*4+1,none⟩=some (.int .i64 y.y):=by have h9:=hccg2 1 _ (by rw[hcsg2];rfl);simpa [Pr.iv,Pr.sv] using h9
      have d2:wr.cell? ⟨g2,og2+j*4+2,none⟩=some (.int .i64 y.x2):=by have h9:=hccg2 2 _ (by rw[hcsg2];rfl);simpa [Pr.iv,Pr.sv] using h9
      have d3:wr.cell? ⟨g2,og2+j*4+3,none⟩=some (.int .i64 y.y2):=by have h9:=hccg2 3 _ (by rw[hcsg2];rfl);simpa [Pr.iv,Pr.sv] using h9
      have HX:=hd hxx
      have HY:=hd hxy
      clear hxx hxy hcsg1 hcsg2 hccg1 hccg2
      go_upto_region 6 with (fail)
      by_cases hx:x.x=y.x
      · skip
        have Ex:=hd hx
        have ex:(x.x == y.x)=true:=by rw[Ex.out];exact beq_self_eq_true _
        have fx:(x.x != y.x)=false:=by rw[Ex.out];simp
        clear hx
        by_cases hy:x.y=y.y
        · skip
          have Ey:=hd hy
          have ey:(x.y == y.y)=true:=by rw[Ey.out];exact beq_self_eq_true _
          have fy:(x.y != y.y)=false:=by rw[Ey.out];simp
          clear hy
          by_cases hz:x.x2=y.x2
          · skip
            have Ez:=hd hz
            have ez:(x.x2 == y.x2)=true:=by rw[Ez.out];exact beq_self_eq_true _
            have fz:(x.x2 != y.x2)=false:=by rw[Ez.out];simp
            clear hz
            by_cases hu:x.y2=y.y2
            · skip
              have Eu:=hd hu
              have eu:(x.y2 == y.y2)=true:=by rw[Eu.out];exact beq_self_eq_true _
              have fu:(x.y2 != y.y2)=false:=by rw[Eu.out];simp
              clear hu
              go_quiet (fail)
              obtain ⟨V2,hV2⟩:∃ V2,V2=wr.drewN nq:=⟨_,rfl⟩
              rw[← hV2]
              have HC2:Hid (Chg [] w V2):=hd (HC.out.trans (by rw[hV2];exact chg_drewN _ _) (by simp))
              clear hV2 c0 c1 c2 c3 d0 d1 d2 d3
              have HXY:Hid (x=y):=hd (by cases x;cases y;simp only[Pr.Bx.mk.injEq];exact ⟨Ex.out,Ey.out,Ez.out,Eu.out⟩)
              go_wp2_with fail
              go_roundw
              case rel=>exact ⟨j+1,vint (by omega),by omega,HC2,hd (tk_step HT.out HX.out (by rw[HXY.out];exact HY.out))⟩
              case measure=>simp[intN];omega
            have eu:(x.y2 == y.y2)=false:=by rw[beq_eq_false_iff_ne];exact hu
            have fu:(x.y2 != y.y2)=true:=by simp[hu]
            go_quiet (fail)
            obtain ⟨V2,hV2⟩:∃ V2,V2=wr.drewN nq:=⟨_,rfl⟩
            rw[← hV2]
            have HC2:Hid (Chg [] w V2):=hd (HC.out.trans (by rw[hV2];exact chg_drewN _ _) (by simp))
            clear hV2 c0 c1 c2 c3 d0 d1 d2 d3
            go_wp2_with fail
            have h9:=HRR.out V2 HC2.out
            rw[decide_eq_false (tk_ne HX.out HY.out (by intro e;rw[e] at hu;exact hu rfl))] at h9
            exact h9
          have ez:(x.x2 == y.x2)=false:=by rw[beq_eq_false_iff_ne];exact hz
          have fz:(x.x2 != y.x2)=true:=by simp[hz]
          go_quiet (fail)
          obtain ⟨V2,hV2⟩:∃ V2,V2=wr.drewN nq:=⟨_,rfl⟩
          rw[← hV2]
          have HC2:Hid (Chg [] w V2):=hd (HC.out.trans (by rw[hV2];exact chg_drewN _ _) (by simp))
          clear hV2 c0 c1 c2 c3 d0 d1 d2 d3
          go_wp2_with fail
          have h9:=HRR.out V2 HC2.out
          rw[decide_eq_false (tk_ne HX.out HY.out (by intro e;rw[e] at hz;exact hz rfl))] at h9
          exact h9
        have ey:(x.y == y.y)=false:=by rw[beq_eq_false_iff_ne];exact hy
        have fy:(x.y != y.y)=true:=by simp[hy]
        go_quiet (fail)
        obtain ⟨V2,hV2⟩:∃ V2,V2=wr.drewN nq:=⟨_,rfl⟩
        rw[← hV2]
        have HC2:Hid (Chg [] w V2):=hd (HC.out.trans (by rw[hV2];exact chg_drewN _ _) (by simp))
        clear hV2 c0 c1 c2 c3 d0 d1 d2 d3
        go_wp2_with fail
        have h9:=HRR.out V2 HC2.out
        rw[decide_eq_false (tk_ne HX.out HY.out (by intro e;rw[e] at hy;exact hy rfl))] at h9
        exact h9
      have ex:(x.x == y.x)=false:=by rw[beq_eq_false_iff_ne];exact hx
      have fx:(x.x != y.x)=true:=by simp[hx]
      go_quiet (fail)
      obtain ⟨V2,hV2⟩:∃ V2,V2=wr.drewN nq:=⟨_,rfl⟩
      rw[← hV2]
      have HC2:Hid (Chg [] w V2):=hd (HC.out.trans (by rw[hV2];exact chg_drewN _ _) (by simp))
      clear hV2 c0 c1 c2 c3 d0 d1 d2 d3
      go_wp2_with fail
      have h9:=HRR.out V2 HC2.out
      rw[decide_eq_false (tk_ne HX.out HY.out (by intro e;rw[e] at hx;exact hx rfl))] at h9
      exact h9
    have q1:¬ (j:Int) < (n:Int):=by omega
    have HE:Hid (l1=l2):=hd (tk_end HT.out (by rw[HN1.out];omega) (by rw[HN2.out];omega))
    go_wp2_with fail
    have h9:=HRR.out wr HC.out
    rw[decide_eq_true HE.out] at h9
    exact h9
 have e1:((n1:Int) == (n2:Int))=false:=by rw[beq_eq_false_iff_ne];omega
 have e2:((n1:Int) != (n2:Int))=true:=by simp;omega
 have e3:¬ (n1:Int)=(n2:Int):=by omega
 have HF:Hid (l1≠l2):=hd (len_ne (by rw[HN1.out,HN2.out];exact hnn))
 go_wp2_with fail
 have h9:=HRR.out w (Chg.refl _ _)
 rw[decide_eq_false HF.out] at h9
 exact h9
theorem zR_iff (a b:Pr.Rw):Pr.zR a=Pr.zR b↔((a.name=b.name∧a.x=b.x∧a.y=b.y∧a.f=b.f∧a.t=b.t∧a.step=b.step)∧a.marks=b.marks):=by
 cases a;cases b
 simp only[Pr.zR,Pr.Rw.mk.injEq,and_true]
 constructor
 · rintro ⟨h1,h2,h3,h4,h5,h6,h7⟩
   exact ⟨⟨h1,h2,h3,h4,h5,h6⟩,h7⟩
 rintro ⟨⟨h1,h2,h3,h4,h5,h6⟩,h7⟩
 exact ⟨h1,h2,h3,h4,h5,h6,h7⟩
theorem sameRow_r {w0 w:World} (HQ:Hid (Chg [] w0 w)) (a b:Pr.Rw) (p1 p2:Option Addr) (k1 k2 n1 n2:Nat) (H1:Hid (RdS 3 Pr.RMk w0 (.slice p1 n1 k1) a.marks)) (H2:Hid (RdS 3 Pr.RMk w0 (.slice p2 n2 k2) b.marks)) {R:Ending→World→Prop}
 (h:∀ w',Chg [] w w'→R (.returned (.bool (decide (Pr.zR a=Pr.zR b)))) w'):Calls Tryz.prog 48 #[.agg #[.string ⟨a.name.toArray⟩,.int .i64 a.x,.int .i64 a.y,.int .i64 a.f,.int .i64 a.t,.int .i64 a.step,.slice p1 n1 k1,.int .i64 a.at_],.agg #[.string ⟨b.name.toArray⟩,.int .i64 b.x,.int .i64 b.y,.int .i64 b.f,.int .i64 b.t,.int .i64 b.step,.slice p2 n2 k2,.int .i64 b.at_]] w R:=by
 have HRR:=hd h
 clear h
 obtain ⟨hk1,hr1,hn1⟩:=H1.out.cp
 obtain ⟨hk2,hr2,hn2⟩:=H2.out.cp
 have HN1:=hd hn1
 have HN2:=hd hn2
 clear hn1 hn2
 go_enter Tryz.func48,Tryz.ntmps48
 go_upto_region 1 with (fail)
 obtain ⟨wa,hwa⟩:∃ W,W=w.alloc (.cells #[.string ⟨a.name.toArray⟩,.int .i64 a.x,.int .i64 a.y,.int .i64 a.f,.int .i64 a.t,.int .i64 a.step,.slice p1 n1 k1,.int .i64 a.at_] 48):=⟨_,rfl⟩
 rw[← hwa]
 obtain ⟨w1,hw1⟩:∃ W,W=wa.alloc (.cells #[.string ⟨b.name.toArray⟩,.int .i64 b.x,.int .i64 b.y,.int .i64 b.f,.int .i64 b.t,.int .i64 b.step,.slice p2 n2 k2,.int .i64 b.at_] 48):=⟨_,rfl⟩
 rw[← hw1]
 obtain ⟨Y,hY⟩:∃ X,X=w.heap.size+1:=⟨_,rfl⟩
 rw[← hY]
 obtain ⟨X,hX⟩:∃ X,X=w.heap.size:=⟨_,rfl⟩
 rw[← hX]
 have HX0:Hid (Blk w1 X [.string ⟨a.name.toArray⟩,.int .i64 a.x,.int .i64 a.y,.int .i64 a.f,.int .i64 a.t,.int .i64 a.step,.slice p1 n1 k1,.int .i64 a.at_] 48):=hd (by rw[hw1,hwa,hX];exact (Blk.new w [.string ⟨a.name.toArray⟩,.int .i64 a.x,.int .i64 a.y,.int .i64 a.f,.int .i64 a.t,.int .i64 a.step,.slice p1 n1 k1,.int .i64 a.at_] _).alloc _)
 have HY0:Hid (Blk w1 Y [.string ⟨b.name.toArray⟩,.int .i64 b.x,.int .i64 b.y,.int .i64 b.f,.int .i64 b.t,.int .i64 b.step,.slice p2 n2 k2,.int .i64 b.at_] 48):=hd (by have h9:=Blk.new wa [.string ⟨b.name.toArray⟩,.int .i64 b.x,.int .i64 b.y,.int .i64 b.f,.int .i64 b.t,.int .i64 b.step,.slice p2 n2 k2,.int .i64 b.at_] 48;rw[show wa.heap.size=Y by rw[hwa,hY];simp] at h9;rw[hw1];exact h9)
 have C1:Hid (Chg [] w w1):=hd (by rw[hw1,hwa];exact ((Chg.refl _ _).alloc _).alloc _)
 have HQ1:Hid (Chg [] w0 w1):=hd (HQ.out.trans C1.out (by simp))
 clear hwa hw1 hX hY
 have x0:=HX0.out.cell (i:=0) rfl
 have x1:=HX0.out.cell (i:=1) rfl
 have x2:=HX0.out.cell (i:=2) rfl
 have x3:=HX0.out.cell (i:=3) rfl
 have x4:=HX0.out.cell (i:=4) rfl
 have x5:=HX0.out.cell (i:=5) rfl
 have x6:=HX0.out.cell (i:=6) rfl
 have y0:=HY0.out.cell (i:=0) rfl
 have y1:=HY0.out.cell (i:=1) rfl
 have y2:=HY0.out.cell (i:=2) rfl
 have y3:=HY0.out.cell (i:=3) rfl
 have y4:=HY0.out.cell (i:=4) rfl
 have y5:=HY0.out.cell (i:=5) rfl
 have y6:=HY0.out.cell (i:=6) rfl
 obtain ⟨qq,hqq⟩:∃ z,z=decide ((a.name=b.name∧a.x=b.x∧a.y=b.y∧a.f=b.f∧a.t=b.t∧a.step=b.step)∧n1=n2):=⟨_,rfl⟩
 have HQQ:=hd hqq
 clear hqq
 go_cut [54] (fun s wx=>wx=w1∧s = .bool (!qq))
 case first =>
  by_cases hn:a.name=b.name
  · skip
    have En:=hd hn
    have en:(a.name == b.name)=true:=by rw[En.out];exact beq_self_eq_true _
    have fn:(a.name != b.name)=false:=by rw[En.out];simp
    clear hn
    by_cases hx:a.x=b.x
    · skip
      have Ex:=hd hx
      have ex:(a.x == b.x)=true:=by rw[Ex.out];exact beq_self_eq_true _
      have fx:(a.x != b.x)=false:=by rw[Ex.out];simp
      clear hx
      by_cases hy:a.y=b.y
      · skip
        have Ey:=hd hy
        have ey:(a.y == b.y)=true:=by rw[Ey.out];exact beq_self_eq_true _
        have fy:(a.y != b.y)=false:=by rw[Ey.out];simp
        clear hy
        by_cases hf:a.f=b.f
        · skip
          have Ef:=hd hf
          have ef:(a.f == b.f)=true:=by rw[Ef.out];exact beq_self_eq_true _
          have ff:(a.f != b.f)=false:=by rw[Ef.out];simp
          clear hf
          by_cases ht:a.t=b.t
          · skip
            have Et:=hd ht
            have et:(a.t == b.t)=true:=by rw[Et.out];exact beq_self_eq_true _
            have ft:(a.t != b.t)=false:=by rw[Et.out];simp
            clear ht
            by_cases hs:a.step=b.step
            · skip
              have Es:=hd hs
              have es:(a.step == b.step)=true:=by rw[Es.out];exact beq_self_eq_true _
              have fs:(a.step != b.step)=false:=by rw[Es.out];simp
              clear hs
              by_cases hl:n1=n2
              · skip
                have El:=hd hl
                have el:((n1:Int) == (n2:Int))=true:=by rw[hl];exact beq_self_eq_true _
                have fl:((n1:Int) != (n2:Int))=false:=by rw[hl];simp
                clear hl
                go_wp2_with fail
                go_meet
                exact ⟨rfl,by rw[HQQ.out,decide_eq_true ⟨⟨En.out,Ex.out,Ey.out,Ef.out,Et.out,Es.out⟩,El.out⟩];rfl⟩
              have el:((n1:Int) == (n2:Int))=false:=by rw[beq_eq_false_iff_ne];omega
              have fl:((n1:Int) != (n2:Int))=true:=by simp;omega
              go_wp2_with fail
              go_meet
              exact ⟨rfl,by rw[HQQ.out,decide_eq_false (fun e=>hl e.2)];rfl⟩
            have es:(a.step == b.step)=false:=by rw[beq_eq_false_iff_ne];exact hs
            have fs:(a.step != b.step)=true:=by simp[hs]
            go_wp2_with fail
            go_meet
            exact ⟨rfl,by rw[HQQ.out,decide_eq_false (fun e=>hs e.1.2.2.2.2.2)];rfl⟩
          have et:(a.t == b.t)=false:=by rw[beq_eq_false_iff_ne];exact ht
          have ft:(a.t != b.t)=true:=by simp[ht]
          go_wp2_with fail
          go_meet
          exact ⟨rfl,by rw[HQQ.out,decide_eq_false (fun e=>ht e.1.2.2.2.2.1)];rfl⟩
        have ef:(a.f == b.f)=false:=by rw[beq_eq_false_iff_ne];exact hf
        have ff:(a.f != b.f)=true:=by simp[hf]
        go_wp2_with fail
        go_meet
        exact ⟨rfl,by rw[HQQ.out,decide_eq_false (fun e=>hf e.1.2.2.2.1)];rfl⟩
      have ey:(a.y == b.y)=false:=by rw[beq_eq_false_iff_ne];exact hy
      have fy:(a.y != b.y)=true:=by simp[hy]
      go_wp2_with fail
      go_meet
      exact ⟨rfl,by rw[HQQ.out,decide_eq_false (fun e=>hy e.1.2.2.1)];rfl⟩
    have ex:(a.x == b.x)=false:=by rw[beq_eq_false_iff_ne];exact hx
    have fx:(a.x != b.x)=true:=by simp[hx]
    go_wp2_with fail
    go_meet
    exact ⟨rfl,by rw[HQQ.out,decide_eq_false (fun e=>hx e.1.2.1)];rfl⟩
  have en:(a.name == b.name)=false:=by rw[beq_eq_false_iff_ne];exact hn
  have fn:(a.name != b.name)=true:=by simp[hn]
  go_wp2_with fail
  go_meet
  exact ⟨rfl,by rw[HQQ.out,decide_eq_false (fun e=>hn e.1.1)];rfl⟩
 case rest =>
  obtain ⟨hw,hs⟩:=hcut
  subst hs
  rw[hw]
  clear x0 x1 x2 x3 x4 x5 x6 y0 y1 y2 y3 y4 y5 y6 hw
  cases qq with
  | false =>
   have hne:¬ _:=of_decide_eq_false HQQ.out.symm
   have HNE:=hd hne
   clear hne
   go_wp2_with fail
   have h9:=HRR.out w1 C1.out
   rw[decide_eq_false (fun e=>HNE.out ⟨((zR_iff a b).1 e).1,by rw[← HN1.out,← HN2.out,((zR_iff a b).1 e).2]⟩)] at h9
   exact h9
  | true =>
   have hee:=of_decide_eq_true HQQ.out.symm
   have HEE:=hd hee.1
   have hn12:=hee.2
   subst hn12
   obtain ⟨n,hn⟩:∃ z,z=n1:=⟨_,rfl⟩
   rw[← hn] at H1 H2 HN1 HN2 hk1 hk2 hr1 HX0 HY0 ⊢
   clear hn hee HQQ
   go_wp2_with fail
   go_loopw [5] (fun i0 wr=>∃ j:Nat,i0 = .int .i64 (j:Int)∧j≤n∧Hid (Chg [] w1 wr)∧Hid (a.marks.take j=b.marks.take j)) (fun i0 _=>n - intN i0)
   case atStart=>exact ⟨0,rfl,Nat.zero_le _,hd (Chg.refl _ _),hd rfl⟩
   case round =>
    obtain ⟨j,rfl,hj,HC,HT⟩:=hrel
    have x6:=(HC.out.blk HX0.out (by simp)).cell (i:=6) rfl
    have y6:=(HC.out.blk HY0.out (by simp)).cell (i:=6) rfl
    by_cases hlt:j < n
    · skip
      have q0:(0:Int)≤(j:Int):=by omega
      have q1:(j:Int) < (n:Int):=by omega
      have q2:(j:Int)≤(k1:Int):=by omega
      have q3:(j:Int)≤(k2:Int):=by omega
      have HQR:Hid (Chg [] w0 wr):=hd (HQ1.out.trans HC.out (by simp))
      obtain ⟨x,g1,og1,csg1,hxx,hag1,-,hrg1,hccg1⟩:=H1.out.at_ HQR.out (j:=j) (by rw[HN1.out];exact hlt)
      subst hag1
      obtain ⟨hcsg1,-⟩:=hrg1
      obtain ⟨y,g2,og2,csg2,hxy,hag2,-,hrg2,hccg2⟩:=H2.out.at_ HQR.out (j:=j) (by rw[HN2.out];exact hlt)
      subst hag2
      obtain ⟨hcsg2,-⟩:=hrg2
      have c0:wr.cell? ⟨g1,og1+j*3,none⟩=some (.int .i64 x.kind):=by have h9:=hccg1 0 _ (by rw[hcsg1];rfl);simpa [Pr.iv,Pr.sv] using h9
      have c1:wr.cell? ⟨g1,og1+j*3+1,none⟩=some (.int .i64 x.seat):=by have h9:=hccg1 1 _ (by rw[hcsg1];rfl);simpa [Pr.iv,Pr.sv] using h9
      have c2:wr.cell? ⟨g1,og1+j*3+2,none⟩=some (.int .i64 x.w):=by have h9:=hccg1 2 _ (by rw[hcsg1];rfl);simpa [Pr.iv,Pr.sv] using h9
      have d0:wr.cell? ⟨g2,og2+j*3,none⟩=some (.int .i64 y.kind):=by have h9:=hccg2 0 _ (by rw[hcsg2];rfl);simpa [Pr.iv,Pr.sv] using h9
      have d1:wr.cell? ⟨g2,og2+j*3+1,none⟩=some (.int .i64 y.seat):=by have h9:=hccg2 1 _ (by rw[hcsg2];rfl);simpa [Pr.iv,Pr.sv] using h9
      have d2:wr.cell? ⟨g2,og2+j*3+2,none⟩=some (.int .i64 y.w):=by have h9:=hccg2 2 _ (by rw[hcsg2];rfl);simpa [Pr.iv,Pr.sv] using h9
      have HX:=hd hxx
      have HY:=hd hxy
      clear hxx hxy hcsg1 hcsg2 hccg1 hccg2
      go_upto_region 6 with (fail)
      by_cases hx:x.kind=y.kind
      · skip
        have Ex:=hd hx
        have ex:(x.kind == y.kind)=true:=by rw[Ex.out];exact beq_self_eq_true _
        have fx:(x.kind != y.kind)=false:=by rw[Ex.out];simp
        clear hx
        by_cases hy:x.seat=y.seat
        · skip
          have Ey:=hd hy
          have ey:(x.seat == y.seat)=true:=by rw[Ey.out];exact beq_self_eq_true _
          have fy:(x.seat != y.seat)=false:=by rw[Ey.out];simp
          clear hy
          by_cases hz:x.w=y.w
          · skip
            have Ez:=hd hz
            have ez:(x.w == y.w)=true:=by rw[Ez.out];exact beq_self_eq_true _
            have fz:(x.w != y.w)=false:=by rw[Ez.out];simp
            clear hz
            go_quiet (fail)
            obtain ⟨V2,hV2⟩:∃ V2,V2=wr.drewN nq:=⟨_,rfl⟩
            rw[← hV2]
            have HC2:Hid (Chg [] w1 V2):=hd (HC.out.trans (by rw[hV2];exact chg_drewN _ _) (by simp))
            clear hV2 c0 c1 c2 d0 d1 d2 x6 y6
            have HXY:Hid (x=y):=hd (by cases x;cases y;simp only[Pr.Mk.mk.injEq];exact ⟨Ex.out,Ey.out,Ez.out⟩)
            go_wp2_with fail
            go_roundw
            case rel=>exact ⟨j+1,vint (by omega),by omega,HC2,hd (tk_step HT.out HX.out (by rw[HXY.out];exact HY.out))⟩
            case measure=>simp[intN];omega
          have ez:(x.w == y.w)=false:=by rw[beq_eq_false_iff_ne];exact hz
          have fz:(x.w != y.w)=true:=by simp[hz]
          go_quiet (fail)
          obtain ⟨V2,hV2⟩:∃ V2,V2=wr.drewN nq:=⟨_,rfl⟩
          rw[← hV2]
          have HC2:Hid (Chg [] w1 V2):=hd (HC.out.trans (by rw[hV2];exact chg_drewN _ _) (by simp))
          clear hV2 c0 c1 c2 d0 d1 d2 x6 y6
          go_wp2_with fail
          have h9:=HRR.out V2 (C1.out.trans HC2.out (by simp))
          rw[decide_eq_false (fun e=>tk_ne HX.out HY.out (by intro e;rw[e] at hz;exact hz rfl) ((zR_iff a b).1 e).2)] at h9
          exact h9
        have ey:(x.seat == y.seat)=false:=by rw[beq_eq_false_iff_ne];exact hy
        have fy:(x.seat != y.seat)=true:=by simp[hy]
        go_quiet (fail)
        obtain ⟨V2,hV2⟩:∃ V2,V2=wr.drewN nq:=⟨_,rfl⟩
        rw[← hV2]
        have HC2:Hid (Chg [] w1 V2):=hd (HC.out.trans (by rw[hV2];exact chg_drewN _ _) (by simp))
        clear hV2 c0 c1 c2 d0 d1 d2 x6 y6
        go_wp2_with fail
        have h9:=HRR.out V2 (C1.out.trans HC2.out (by simp))
        rw[decide_eq_false (fun e=>tk_ne HX.out HY.out (by intro e;rw[e] at hy;exact hy rfl) ((zR_iff a b).1 e).2)] at h9
        exact h9
      have ex:(x.kind == y.kind)=false:=by rw[beq_eq_false_iff_ne];exact hx
      have fx:(x.kind != y.kind)=true:=by simp[hx]
      go_quiet (fail)
      obtain ⟨V2,hV2⟩:∃ V2,V2=wr.drewN nq:=⟨_,rfl⟩
      rw[← hV2]
      have HC2:Hid (Chg [] w1 V2):=hd (HC.out.trans (by rw[hV2];exact chg_drewN _ _) (by simp))
      clear hV2 c0 c1 c2 d0 d1 d2 x6 y6
      go_wp2_with fail
      have h9:=HRR.out V2 (C1.out.trans HC2.out (by simp))
      rw[decide_eq_false (fun e=>tk_ne HX.out HY.out (by intro e;rw[e] at hx;exact hx rfl) ((zR_iff a b).1 e).2)] at h9
      exact h9
    have q1:¬ (j:Int) < (n:Int):=by omega
    have HE:Hid (a.marks=b.marks):=hd (tk_end HT.out (by rw[HN1.out];omega) (by rw[HN2.out];omega))
    go_wp2_with fail
    have h9:=HRR.out wr (C1.out.trans HC.out (by simp))
    rw[decide_eq_true ((zR_iff a b).2 ⟨HEE.out,HE.out⟩)] at h9
    exact h9
end Go.Proofs.YtglepipfdmphhaaGreatDoor
namespace Go.Proofs.YtglepipfdmphhaaGreatDoor
set_option linter.unusedVariables false
set_option linter.unusedSimpArgs false
open Go Go.RowKit Go.Shelf
attribute [local irreducible] Go.wpStill
theorem zB_iff (a b:Pr.Bl):Pr.zB a=Pr.zB b↔(a.name=b.name∧a.rows.map Pr.zR=b.rows.map Pr.zR):=by
 cases a;cases b
 simp only[Pr.zB,Pr.Bl.mk.injEq,and_true]
theorem zA_iff (a b:Pr.Ar):Pr.zA a=Pr.zA b↔(a.name=b.name∧a.box.x=b.box.x∧a.box.y=b.box.y∧a.box.x2=b.box.x2∧a.box.y2=b.box.y2∧a.holds=b.holds):=by
 cases a with|mk n1 b1 h1 a1=>cases b with|mk n2 b2 h2 a2=>cases b1;cases b2;simp only[Pr.zA,Pr.Ar.mk.injEq,Pr.Bx.mk.injEq,and_true,and_assoc]
theorem zL_iff (a b:Pr.Lv):Pr.zL a=Pr.zL b↔((a.name=b.name∧a.height=b.height∧a.aisles=b.aisles∧a.pillars=b.pillars)∧a.blocks.map Pr.zB=b.blocks.map Pr.zB∧a.areas.map Pr.zA=b.areas.map Pr.zA∧a.doors=b.doors):=by
 cases a;cases b
 simp only[Pr.zL,Pr.Lv.mk.injEq,and_true]
 constructor
 · rintro ⟨h1,h2,h3,h4,h5,h6,h7⟩
   exact ⟨⟨h1,h2,h5,h6⟩,h3,h4,h7⟩
 rintro ⟨⟨h1,h2,h5,h6⟩,h3,h4,h7⟩
 exact ⟨h1,h2,h3,h4,h5,h6,h7⟩
theorem sameLevel_r {w0 w:World} (HQ:Hid (Chg [] w0 w)) (a b:Pr.Lv) (p0 p1 p2 p3 p4 q0 q1 q2 q3 q4:Option Addr) (n0 n1 n2 n3 n4 k0 k1 k2 k3 k4 m0 m1 m2 m3 m4 r0 r1 r2 r3 r4:Nat) (HA:Hid (LvR w0 a p0 p1 p2 p3 p4 n0 n1 n2 n3 n4 k0 k1 k2 k3 k4)) (HB:Hid (LvR w0 b q0 q1 q2 q3 q4 m0 m1 m2 m3 m4 r0 r1 r2 r3 r4)) {R:Ending→World→Prop}
 (h:∀ w',Chg [] w w'→R (.returned (.bool (decide (Pr.zL a=Pr.zL b)))) w'):Calls Tryz.prog 28 #[.agg #[.string ⟨a.name.toArray⟩,.int .i64 a.height,.slice p0 n0 k0,.slice p1 n1 k1,.slice p2 n2 k2,.slice p3 n3 k3,.slice p4 n4 k4,.int .i64 a.at_],.agg #[.string ⟨b.name.toArray⟩,.int .i64 b.height,.slice q0 m0 r0,.slice q1 m1 r1,.slice q2 m2 r2,.slice q3 m3 r3,.slice q4 m4 r4,.int .i64 b.at_]] w R:=by
 have HRR:=hd h
 clear h
 obtain ⟨ua0,va0,sa0⟩:=HA.out.rb.cp
 have Sa0:=hd sa0
 clear sa0
 obtain ⟨ua1,va1,sa1⟩:=HA.out.ra.cp
 have Sa1:=hd sa1
 clear sa1
 obtain ⟨ua4,va4,sa4⟩:=HA.out.rd.cp
 have Sa4:=hd sa4
 clear sa4
 obtain ⟨ub0,vb0,sb0⟩:=HB.out.rb.cp
 have Sb0:=hd sb0
 clear sb0
 obtain ⟨ub1,vb1,sb1⟩:=HB.out.ra.cp
 have Sb1:=hd sb1
 clear sb1
 obtain ⟨ub4,vb4,sb4⟩:=HB.out.rd.cp
 have Sb4:=hd sb4
 clear sb4
 go_enter Tryz.func28,Tryz.ntmps28
 go_upto_region 1 with (fail)
 obtain ⟨wa,hwa⟩:∃ W,W=w.alloc (.cells #[.string ⟨a.name.toArray⟩,.int .i64 a.height,.slice p0 n0 k0,.slice p1 n1 k1,.slice p2 n2 k2,.slice p3 n3 k3,.slice p4 n4 k4,.int .i64 a.at_] 61):=⟨_,rfl⟩
 rw[← hwa]
 obtain ⟨w1,hw1⟩:∃ W,W=wa.alloc (.cells #[.string ⟨b.name.toArray⟩,.int .i64 b.height,.slice q0 m0 r0,.slice q1 m1 r1,.slice q2 m2 r2,.slice q3 m3 r3,.slice q4 m4 r4,.int .i64 b.at_] 61):=⟨_,rfl⟩
 rw[← hw1]
 obtain ⟨Y,hY⟩:∃ X,X=w.heap.size+1:=⟨_,rfl⟩
 rw[← hY]
 obtain ⟨X,hX⟩:∃ X,X=w.heap.size:=⟨_,rfl⟩
 rw[← hX]
 have HX0:Hid (Blk w1 X [.string ⟨a.name.toArray⟩,.int .i64 a.height,.slice p0 n0 k0,.slice p1 n1 k1,.slice p2 n2 k2,.slice p3 n3 k3,.slice p4 n4 k4,.int .i64 a.at_] 61):=hd (by rw[hw1,hwa,hX];exact (Blk.new w [.string ⟨a.name.toArray⟩,.int .i64 a.height,.slice p0 n0 k0,.slice p1 n1 k1,.slice p2 n2 k2,.slice p3 n3 k3,.slice p4 n4 k4,.int .i64 a.at_] _).alloc _)
 have HY0:Hid (Blk w1 Y [.string ⟨b.name.toArray⟩,.int .i64 b.height,.slice q0 m0 r0,.slice q1 m1 r1,.slice q2 m2 r2,.slice q3 m3 r3,.slice q4 m4 r4,.int .i64 b.at_] 61):=hd (by have h9:=Blk.new wa [.string ⟨b.name.toArray⟩,.int .i64 b.height,.slice q0 m0 r0,.slice q1 m1 r1,.slice q2 m2 r2,.slice q3 m3 r3,.slice q4 m4 r4,.int .i64 b.at_] 61;rw[show wa.heap.size=Y by rw[hwa,hY];simp] at h9;rw[hw1];exact h9)
 have C1:Hid (Chg [] w w1):=hd (by rw[hw1,hwa];exact ((Chg.refl _ _).alloc _).alloc _)
 have HQ1:Hid (Chg [] w0 w1):=hd (HQ.out.trans C1.out (by simp))
 clear hwa hw1 hX hY
 have x0:=HX0.out.cell (i:=0) rfl
 have x1:=HX0.out.cell (i:=1) rfl
 have x2:=HX0.out.cell (i:=2) rfl
 have x3:=HX0.out.cell (i:=3) rfl
 have x4:=HX0.out.cell (i:=4) rfl
 have x5:=HX0.out.cell (i:=5) rfl
 have x6:=HX0.out.cell (i:=6) rfl
 have y0:=HY0.out.cell (i:=0) rfl
 have y1:=HY0.out.cell (i:=1) rfl
 have y2:=HY0.out.cell (i:=2) rfl
 have y3:=HY0.out.cell (i:=3) rfl
 have y4:=HY0.out.cell (i:=4) rfl
 have y5:=HY0.out.cell (i:=5) rfl
 have y6:=HY0.out.cell (i:=6) rfl
 obtain ⟨qq,hqq⟩:∃ z,z=decide (a.name=b.name∧a.height=b.height∧n0=m0∧n1=m1∧n4=m4∧a.aisles=b.aisles∧a.pillars=b.pillars):=⟨_,rfl⟩
 have HQQ:=hd hqq
 clear hqq
 go_cut [63] (fun s wx=>s = .bool (!qq)∧Hid (Chg [] w1 wx))
 case first =>
  by_cases hn:a.name=b.name
  · skip
    have En:=hd hn
    have en:(a.name == b.name)=true:=by rw[En.out];exact beq_self_eq_true _
    have fn:(a.name != b.name)=false:=by rw[En.out];simp
    clear hn
    by_cases hh:a.height=b.height
    · skip
      have Eh:=hd hh
      have eh:(a.height == b.height)=true:=by rw[Eh.out];exact beq_self_eq_true _
      have fh:(a.height != b.height)=false:=by rw[Eh.out];simp
      clear hh
      by_cases h0:n0=m0
      · skip
        have E0:=hd h0
        have e0:((n0:Int) == (m0:Int))=true:=by rw[h0];exact beq_self_eq_true _
        have f0:((n0:Int) != (m0:Int))=false:=by rw[h0];simp
        clear h0
        by_cases h1:n1=m1
        · skip
          have E1:=hd h1
          have e1:((n1:Int) == (m1:Int))=true:=by rw[h1];exact beq_self_eq_true _
          have f1:((n1:Int) != (m1:Int))=false:=by rw[h1];simp
          clear h1
          by_cases h4:n4=m4
          · skip
            have E4:=hd h4
            have e4:((n4:Int) == (m4:Int))=true:=by rw[h4];exact beq_self_eq_true _
            have f4:((n4:Int) != (m4:Int))=false:=by rw[h4];simp
            clear h4
            go_wp2_with fail
            refine boxes_r HQ1 a.aisles b.aisles p2 q2 k2 r2 n2 m2 (hd HA.out.ri) (hd HB.out.ri) (fun w2 h2=>?_)
            have C2:Hid (Chg [] w1 w2):=hd h2
            clear h2
            by_cases hi:a.aisles=b.aisles
            · skip
              have Ei:=hd hi
              rw[decide_eq_true hi]
              clear hi
              have x5:=(C2.out.blk HX0.out (by simp)).cell (i:=5) rfl
              have y5:=(C2.out.blk HY0.out (by simp)).cell (i:=5) rfl
              go_wp2_with fail
              refine boxes_r (hd (HQ1.out.trans C2.out (by simp))) a.pillars b.pillars p3 q3 k3 r3 n3 m3 (hd HA.out.rp) (hd HB.out.rp) (fun w3 h3=>?_)
              have C3:Hid (Chg [] w1 w3):=hd (C2.out.trans h3 (by simp))
              clear h3
              by_cases hp:a.pillars=b.pillars
              · skip
                have Ep:=hd hp
                rw[decide_eq_true hp]
                clear hp
                go_wp2_with fail
                go_meet
                exact ⟨by rw[HQQ.out,decide_eq_true ⟨En.out,Eh.out,E0.out,E1.out,E4.out,Ei.out,Ep.out⟩];rfl,C3⟩
              rw[decide_eq_false hp]
              go_wp2_with fail
              go_meet
              exact ⟨by rw[HQQ.out,decide_eq_false (fun e=>hp e.2.2.2.2.2.2)];rfl,C3⟩
            rw[decide_eq_false hi]
            go_wp2_with fail
            go_meet
            exact ⟨by rw[HQQ.out,decide_eq_false (fun e=>hi e.2.2.2.2.2.1)];rfl,C2⟩
          have e4:((n4:Int) == (m4:Int))=false:=by rw[beq_eq_false_iff_ne];omega
          have f4:((n4:Int) != (m4:Int))=true:=by simp;omega
          go_wp2_with fail
          go_meet
          exact ⟨by rw[HQQ.out,decide_eq_false (fun e=>h4 e.2.2.2.2.1)];rfl,hd (Chg.refl _ _)⟩
        have e1:((n1:Int) == (m1:Int))=false:=by rw[beq_eq_false_iff_ne];omega
        have f1:((n1:Int) != (m1:Int))=true:=by simp;omega
        go_wp2_with fail
        go_meet
        exact ⟨by rw[HQQ.out,decide_eq_false (fun e=>h1 e.2.2.2.1)];rfl,hd (Chg.refl _ _)⟩
      have e0:((n0:Int) == (m0:Int))=false:=by rw[beq_eq_false_iff_ne];omega
      have f0:((n0:Int) != (m0:Int))=true:=by simp;omega
      go_wp2_with fail
      go_meet
      exact ⟨by rw[HQQ.out,decide_eq_false (fun e=>h0 e.2.2.1)];rfl,hd (Chg.refl _ _)⟩
    have eh:(a.height == b.height)=false:=by rw[beq_eq_false_iff_ne];exact hh
    have fh:(a.height != b.height)=true:=by simp[hh]
    go_wp2_with fail
    go_meet
    exact ⟨by rw[HQQ.out,decide_eq_false (fun e=>hh e.2.1)];rfl,hd (Chg.refl _ _)⟩
  have en:(a.name == b.name)=false:=by rw[beq_eq_false_iff_ne];exact hn
  have fn:(a.name != b.name)=true:=by simp[hn]
  go_wp2_with fail
  go_meet
  exact ⟨by rw[HQQ.out,decide_eq_false (fun e=>hn e.1)];rfl,hd (Chg.refl _ _)⟩
 case rest =>
  obtain ⟨hs,CC⟩:=hcut
  subst hs
  obtain ⟨wq,hwq⟩:∃ z,z=wc:=⟨_,rfl⟩
  rw[← hwq] at CC ⊢
  clear hwq x0 x1 x2 x3 x4 x5 x6 y0 y1 y2 y3 y4 y5 y6
  cases qq with
  | false =>
   have HNE:=hd (of_decide_eq_false HQQ.out.symm)
   go_wp2_with fail
   have h9:=HRR.out wq (C1.out.trans CC.out (by simp))
   rw[decide_eq_false (fun e=>HNE.out (by
    obtain ⟨⟨e1,e2,e3,e4⟩,e5,e6,e7⟩:=(zL_iff a b).1 e
    have l5:=congrArg List.length e5
    have l6:=congrArg List.length e6
    rw[List.length_map,List.length_map,Sa0.out,Sb0.out] at l5
    rw[List.length_map,List.length_map,Sa1.out,Sb1.out] at l6
    exact ⟨e1,e2,l5,l6,by rw[← Sa4.out,← Sb4.out,e7],e3,e4⟩))] at h9
   exact h9
  | true =>
   have hee:=of_decide_eq_true HQQ.out.symm
   have HEE:=hd (And.intro hee.1 (And.intro hee.2.1 (And.intro hee.2.2.2.2.2.1 hee.2.2.2.2.2.2)))
   have g0:n0=m0:=hee.2.2.1
   have g1:n1=m1:=hee.2.2.2.1
   have g4:n4=m4:=hee.2.2.2.2.1
   subst g0 g1 g4
   clear hee HQQ
   go_wp2_with fail
   go_loopw [5] (fun i0 wr=>∃ j:Nat,i0 = .int .i64 (j:Int)∧j≤n0∧Hid (Chg [] w1 wr)∧Hid ((a.blocks.map Pr.zB).take j=(b.blocks.map Pr.zB).take j)) (fun i0 _=>n0 - intN i0)
   case atStart=>exact ⟨0,rfl,Nat.zero_le _,CC,hd rfl⟩
   case round =>
    obtain ⟨j,rfl,hj,HC,HT⟩:=hrel
    have x2:=(HC.out.blk HX0.out (by simp)).cell (i:=2) rfl
    have y2:=(HC.out.blk HY0.out (by simp)).cell (i:=2) rfl
    by_cases hlt:j < n0
    · skip
      have z0:(0:Int)≤(j:Int):=by omega
      have z1:(j:Int) < (n0:Int):=by omega
      have z2:(j:Int)≤(k0:Int):=by omega
      have z3:(j:Int)≤(r0:Int):=by omega
      have HQR:Hid (Chg [] w0 wr):=hd (HQ1.out.trans HC.out (by simp))
      obtain ⟨x,g1,og1,csg1,hxx,hag1,-,hrg1,hccg1⟩:=HA.out.rb.at_ HQR.out (j:=j) (by rw[Sa0.out];exact hlt)
      subst hag1
      obtain ⟨rv,hcsg1,hrs1,-⟩:=hrg1
      obtain ⟨y,g2,og2,csg2,hxy,hag2,-,hrg2,hccg2⟩:=HB.out.rb.at_ HQR.out (j:=j) (by rw[Sb0.out];exact hlt)
      subst hag2
      obtain ⟨rv2,hcsg2,hrs2,-⟩:=hrg2
      obtain ⟨ra,rk,rfl,_,_⟩:=hrs1.form
      obtain ⟨sa,sk,rfl,_,_⟩:=hrs2.form
      have HRX:=hd hrs1
      have HRY:=hd hrs2
      obtain ⟨rn,hrn⟩:∃ z,z=x.rows.length:=⟨_,rfl⟩
      obtain ⟨sn,hsn⟩:∃ z,z=y.rows.length:=⟨_,rfl⟩
      rw[← hrn] at HRX hcsg1
      rw[← hsn] at HRY hcsg2
      have HRN:=hd hrn.symm
      have HSN:=hd hsn.symm
      clear hrs1 hrs2 hrn hsn
      have c0:wr.cell? ⟨g1,og1+j*3,none⟩=some (.string ⟨x.name.toArray⟩):=by have h9:=hccg1 0 _ (by rw[hcsg1];rfl);simpa [Pr.iv,Pr.sv] using h9
      have c1:wr.cell? ⟨g1,og1+j*3+1,none⟩=some (.slice ra rn rk):=by have h9:=hccg1 1 _ (by rw[hcsg1];rfl);simpa [Pr.iv,Pr.sv] using h9
      have c2:wr.cell? ⟨g1,og1+j*3+2,none⟩=some (.int .i64 x.at_):=by have h9:=hccg1 2 _ (by rw[hcsg1];rfl);simpa [Pr.iv,Pr.sv] using h9
      have d0:wr.cell? ⟨g2,og2+j*3,none⟩=some (.string ⟨y.name.toArray⟩):=by have h9:=hccg2 0 _ (by rw[hcsg2];rfl);simpa [Pr.iv,Pr.sv] using h9
      have d1:wr.cell? ⟨g2,og2+j*3+1,none⟩=some (.slice sa sn sk):=by have h9:=hccg2 1 _ (by rw[hcsg2];rfl);simpa [Pr.iv,Pr.sv] using h9
      have d2:wr.cell? ⟨g2,og2+j*3+2,none⟩=some (.int .i64 y.at_):=by have h9:=hccg2 2 _ (by rw[hcsg2];rfl);simpa [Pr.iv,Pr.sv] using h9
      have HX:=hd hxx
      have HY:=hd hxy
      clear hxx hxy hcsg1 hcsg2 hccg1 hccg2
      obtain ⟨q9,hq9⟩:∃ z,z=decide (x.name=y.name∧rn=sn):=⟨_,rfl⟩
      have HQ9:=hd hq9
      clear hq9
      go_upto_region 6 with (fail)
      go_cut [100] (fun s wx=>s = .bool (!q9)∧Hid (Chg [] wr wx))
      case first =>
       by_cases hn:x.name=y.name
       · skip
         have En:=hd hn
         have en:(x.name == y.name)=true:=by rw[En.out];exact beq_self_eq_true _
         have fn:(x.name != y.name)=false:=by rw[En.out];simp
         clear hn
         by_cases hr:rn=sn
         · skip
           have Er:=hd hr
           have er:((rn:Int) == (sn:Int))=true:=by rw[hr];exact beq_self_eq_true _
           have fr:((rn:Int) != (sn:Int))=false:=by rw[hr];simp
           clear hr
           go_quiet (fail)
           obtain ⟨V2,hV2⟩:∃ V2,V2=wr.drewN nq:=⟨_,rfl⟩
           rw[← hV2]
           have HC2:Hid (Chg [] wr V2):=hd (by rw[hV2];exact chg_drewN _ _)
           clear hV2
           go_wp2_with fail
           go_meet
           exact ⟨by rw[HQ9.out,decide_eq_true ⟨En.out,Er.out⟩];rfl,HC2⟩
         have er:((rn:Int) == (sn:Int))=false:=by rw[beq_eq_false_iff_ne];omega
         have fr:((rn:Int) != (sn:Int))=true:=by simp;omega
         go_quiet (fail)
         obtain ⟨V2,hV2⟩:∃ V2,V2=wr.drewN nq:=⟨_,rfl⟩
         rw[← hV2]
         have HC2:Hid (Chg [] wr V2):=hd (by rw[hV2];exact chg_drewN _ _)
         clear hV2
         go_wp2_with fail
         go_meet
         exact ⟨by rw[HQ9.out,decide_eq_false (fun e=>hr e.2)];rfl,HC2⟩
       have en:(x.name == y.name)=false:=by rw[beq_eq_false_iff_ne];exact hn
       have fn:(x.name != y.name)=true:=by simp[hn]
       go_quiet (fail)
       obtain ⟨V2,hV2⟩:∃ V2,V2=wr.drewN nq:=⟨_,rfl⟩
       rw[← hV2]
       have HC2:Hid (Chg [] wr V2):=hd (by rw[hV2];exact chg_drewN _ _)
       clear hV2
       go_wp2_with fail
       go_meet
       exact ⟨by rw[HQ9.out,decide_eq_false (fun e=>hn e.1)];rfl,HC2⟩
      case rest =>
       obtain ⟨hs,CD⟩:=hcut
       subst hs
       obtain ⟨wv,hwv⟩:∃ z,z=wc:=⟨_,rfl⟩
       rw[← hwv] at CD ⊢
       have HCV:Hid (Chg [] w1 wv):=hd (HC.out.trans CD.out (by simp))
       have HQV:Hid (Chg [] w0 wv):=hd (HQ1.out.trans HCV.out (by simp))
       have X2:=hd (cell_quiet CD.out x2 (by simp))
       have Y2:=hd (cell_quiet CD.out y2 (by simp))
       have D1:=hd (cell_quiet CD.out c1 (by simp))
       have D2:=hd (cell_quiet CD.out d1 (by simp))
       clear hwv c0 c1 c2 d0 d1 d2 x2 y2 CD
       cases q9 with
       | false =>
        have HNE:=hd (of_decide_eq_false HQ9.out.symm)
        go_wp2_with fail
        have h9:=HRR.out wv (C1.out.trans HCV.out (by simp))
        rw[decide_eq_false (fun e=>tk_ne (map_at Pr.zB HX.out) (map_at Pr.zB HY.out) (fun e=>HNE.out ⟨((zB_iff x y).1 e).1,by have l5:=congrArg List.length ((zB_iff x y).1 e).2;rwa [List.length_map,List.length_map,HRN.out,HSN.out] at l5⟩) ((zL_iff a b).1 e).2.1)] at h9
        exact h9
       | true =>
        have hee:=of_decide_eq_true HQ9.out.symm
        have HNM:=hd hee.1
        have g9:rn=sn:=hee.2
        subst g9
        clear hee HQ9
        obtain ⟨ur,vr,_⟩:=HRX.out.cp
        obtain ⟨us,vs,_⟩:=HRY.out.cp
        go_wp2_with fail
        go_loopw [6] (fun i1 wr=>∃ p:Nat,i1 = .int .i64 (p:Int)∧p≤rn∧Hid (Chg [] wv wr)∧Hid ((x.rows.map Pr.zR).take p=(y.rows.map Pr.zR).take p)) (fun i1 _=>rn - intN i1)
        case atStart=>exact ⟨0,rfl,Nat.zero_le _,hd (Chg.refl _ _),hd rfl⟩
        case round =>
         obtain ⟨p,rfl,hp,HP,HTR⟩:=hrel
         have x2:=cell_quiet HP.out X2.out (by simp)
         have y2:=cell_quiet HP.out Y2.out (by simp)
         have c1:=cell_quiet HP.out D1.out (by simp)
         have d1:=cell_quiet HP.out D2.out (by simp)
         by_cases hlr:p < rn
         · skip
           have t0:(0:Int)≤(p:Int):=by omega
           have t1:(p:Int) < (rn:Int):=by omega
           have t2:(p:Int)≤(rk:Int):=by omega
           have t3:(p:Int)≤(sk:Int):=by omega
           have HQP:Hid (Chg [] w0 wr):=hd (HQV.out.trans HP.out (by simp))
           obtain ⟨r,g3,og3,csg3,hr,hag3,-,⟨mv,hcsg3,hm3,-⟩,hccg3⟩:=HRX.out.at_ HQP.out (j:=p) (by rw[HRN.out];exact hlr)
           subst hag3
           obtain ⟨s,g4,og4,csg4,hs,hag4,-,⟨mv2,hcsg4,hm4,-⟩,hccg4⟩:=HRY.out.at_ HQP.out (j:=p) (by rw[HSN.out];exact hlr)
           subst hag4
           obtain ⟨ma,mk,rfl,_,_⟩:=hm3.form
           obtain ⟨na,nk,rfl,_,_⟩:=hm4.form
           have e0:wr.cell? ⟨g3,og3+p*8,none⟩=some (.string ⟨r.name.toArray⟩):=by have h9:=hccg3 0 _ (by rw[hcsg3];rfl);simpa [Pr.iv,Pr.sv] using h9
           have e1:wr.cell? ⟨g3,og3+p*8+1,none⟩=some (.int .i64 r.x):=by have h9:=hccg3 1 _ (by rw[hcsg3];rfl);simpa [Pr.iv,Pr.sv] using h9
           have e2:wr.cell? ⟨g3,og3+p*8+2,none⟩=some (.int .i64 r.y):=by have h9:=hccg3 2 _ (by rw[hcsg3];rfl);simpa [Pr.iv,Pr.sv] using h9
           have e3:wr.cell? ⟨g3,og3+p*8+3,none⟩=some (.int .i64 r.f):=by have h9:=hccg3 3 _ (by rw[hcsg3];rfl);simpa [Pr.iv,Pr.sv] using h9
           have e4:wr.cell? ⟨g3,og3+p*8+4,none⟩=some (.int .i64 r.t):=by have h9:=hccg3 4 _ (by rw[hcsg3];rfl);simpa [Pr.iv,Pr.sv] using h9
           have e5:wr.cell? ⟨g3,og3+p*8+5,none⟩=some (.int .i64 r.step):=by have h9:=hccg3 5 _ (by rw[hcsg3];rfl);simpa [Pr.iv,Pr.sv] using h9
           have e6:wr.cell? ⟨g3,og3+p*8+6,none⟩=some (.slice ma r.marks.length mk):=by have h9:=hccg3 6 _ (by rw[hcsg3];rfl);simpa [Pr.iv,Pr.sv] using h9
           have e7:wr.cell? ⟨g3,og3+p*8+7,none⟩=some (.int .i64 r.at_):=by have h9:=hccg3 7 _ (by rw[hcsg3];rfl);simpa [Pr.iv,Pr.sv] using h9
           have f0:wr.cell? ⟨g4,og4+p*8,none⟩=some (.string ⟨s.name.toArray⟩):=by have h9:=hccg4 0 _ (by rw[hcsg4];rfl);simpa [Pr.iv,Pr.sv] using h9
           have f1:wr.cell? ⟨g4,og4+p*8+1,none⟩=some (.int .i64 s.x):=by have h9:=hccg4 1 _ (by rw[hcsg4];rfl);simpa [Pr.iv,Pr.sv] using h9
           have f2:wr.cell? ⟨g4,og4+p*8+2,none⟩=some (.int .i64 s.y):=by have h9:=hccg4 2 _ (by rw[hcsg4];rfl);simpa [Pr.iv,Pr.sv] using h9
           have f3:wr.cell? ⟨g4,og4+p*8+3,none⟩=some (.int .i64 s.f):=by have h9:=hccg4 3 _ (by rw[hcsg4];rfl);simpa [Pr.iv,Pr.sv] using h9
           have f4:wr.cell? ⟨g4,og4+p*8+4,none⟩=some (.int .i64 s.t):=by have h9:=hccg4 4 _ (by rw[hcsg4];rfl);simpa [Pr.iv,Pr.sv] using h9
           have f5:wr.cell? ⟨g4,og4+p*8+5,none⟩=some (.int .i64 s.step):=by have h9:=hccg4 5 _ (by rw[hcsg4];rfl);simpa [Pr.iv,Pr.sv] using h9
           have f6:wr.cell? ⟨g4,og4+p*8+6,none⟩=some (.slice na s.marks.length nk):=by have h9:=hccg4 6 _ (by rw[hcsg4];rfl);simpa [Pr.iv,Pr.sv] using h9
           have f7:wr.cell? ⟨g4,og4+p*8+7,none⟩=some (.int .i64 s.at_):=by have h9:=hccg4 7 _ (by rw[hcsg4];rfl);simpa [Pr.iv,Pr.sv] using h9
           have HM3:=hd hm3
           have HM4:=hd hm4
           have HRP:=hd hr
           have HSP:=hd hs
           clear hr hs hcsg3 hcsg4 hccg3 hccg4 hm3 hm4
           go_upto_region 11 with (fail)
           refine wp_region_held_drew (S:=fun W'=>Chg [] wr W') (by kernel_rfl) (Chg.refl _ _).drew (fun hHeld=>?_)
           refine tq 0 ?_
           refine tq1 1 (fun w9 hSw=>cell_quiet hSw x2 (by simp)) ?_
           refine tq 2 ?_
           refine tq 3 ?_
           refine tq 4 ?_
           refine tq1 5 (fun w9 hSw=>cell_quiet hSw c1 (by simp)) ?_
           refine tq 6 ?_
           refine tq 7 ?_
           refine tq 8 ?_ (hy:=by intro w9 hSw;have te0:=cell_quiet hSw e0 (by simp);have te1:=cell_quiet hSw e1 (by simp);have te2:=cell_quiet hSw e2 (by simp);have te3:=cell_quiet hSw e3 (by simp);have te4:=cell_quiet hSw e4 (by simp);have te5:=cell_quiet hSw e5 (by simp);have te6:=cell_quiet hSw e6 (by simp);have te7:=cell_quiet hSw e7 (by simp);go_simp;try with_reducible rfl)
           refine tq 9 ?_
           refine tq1 10 (fun w9 hSw=>cell_quiet hSw y2 (by simp)) ?_
           refine tq 11 ?_
           refine tq 12 ?_
           refine tq 13 ?_
           refine tq1 14 (fun w9 hSw=>cell_quiet hSw d1 (by simp)) ?_
           refine tq 15 ?_
           refine tq 16 ?_
           refine tq 17 ?_ (hy:=by intro w9 hSw;have tf0:=cell_quiet hSw f0 (by simp);have tf1:=cell_quiet hSw f1 (by simp);have tf2:=cell_quiet hSw f2 (by simp);have tf3:=cell_quiet hSw f3 (by simp);have tf4:=cell_quiet hSw f4 (by simp);have tf5:=cell_quiet hSw f5 (by simp);have tf6:=cell_quiet hSw f6 (by simp);have tf7:=cell_quiet hSw f7 (by simp);go_simp;try with_reducible rfl)
           refine rd1 18 (fun K hK=>?_)
           go_simp
           refine sameRow_r (hd (HQP.out.trans hHeld (by simp))) r s ma na mk nk _ _ HM3 HM4 (fun wy hcx=>?_)
           refine kq hK (hHeld.trans hcx (by simp)) (fun hHeld=>?_)
           refine tq 19 ?_
           refine dq ?_
           have HH:=hd hHeld
           clear hHeld hcx
           have HPY:Hid (Chg [] wv wy):=hd (HP.out.trans HH.out (by simp))
           clear e0 f0 e1 f1 e2 f2 e3 f3 e4 f4 e5 f5 e6 f6 e7 f7
           by_cases hrs:Pr.zR r=Pr.zR s
           · skip
             have HRS:=hd hrs
             rw[decide_eq_true hrs]
             clear hrs
             go_wp2_with fail
             go_roundw
             case rel=>first|exact ⟨p+1,vint (by omega),by omega,HPY,hd (tk_step HTR.out (map_at _ HRP.out) (by rw[HRS.out];exact map_at _ HSP.out))⟩|((repeat apply Exists.intro);exact ⟨⟨p+1,vint (by omega),by omega,HPY,hd (tk_step HTR.out (map_at _ HRP.out) (by rw[HRS.out];exact map_at _ HSP.out))⟩,rfl⟩)
             case measure=>simp[intN];omega
           have HNR:=hd hrs
           rw[decide_eq_false hrs]
           clear hrs
           go_wp2_with fail
           have h9:=HRR.out wy (C1.out.trans (HCV.out.trans HPY.out (by simp)) (by simp))
           rw[decide_eq_false (fun e=>tk_ne (map_at Pr.zB HX.out) (map_at Pr.zB HY.out) (fun e=>tk_ne (map_at Pr.zR HRP.out) (map_at Pr.zR HSP.out) HNR.out ((zB_iff x y).1 e).2) ((zL_iff a b).1 e).2.1)] at h9
           exact h9
         have t1:¬ (p:Int) < (rn:Int):=by omega
         have HRE:Hid (x.rows.map Pr.zR=y.rows.map Pr.zR):=hd (tk_end HTR.out (by rw[List.length_map,HRN.out];omega) (by rw[List.length_map,HSN.out];omega))
         have HZB:Hid (Pr.zB x=Pr.zB y):=hd ((zB_iff x y).2 ⟨HNM.out,HRE.out⟩)
         have HCE:Hid (Chg [] w1 wr):=hd (HCV.out.trans HP.out (by simp))
         go_wp2_with fail
         go_roundw
         case rel=>first|exact ⟨j+1,vint (by omega),by omega,HCE,hd (tk_step HT.out (map_at _ HX.out) (by rw[HZB.out];exact map_at _ HY.out))⟩|((repeat apply Exists.intro);exact ⟨⟨j+1,vint (by omega),by omega,HCE,hd (tk_step HT.out (map_at _ HX.out) (by rw[HZB.out];exact map_at _ HY.out))⟩,rfl⟩)
         case measure=>simp[intN];omega
    have z1:¬ (j:Int) < (n0:Int):=by omega
    have HEB:Hid (a.blocks.map Pr.zB=b.blocks.map Pr.zB):=hd (tk_end HT.out (by rw[List.length_map,Sa0.out];omega) (by rw[List.length_map,Sb0.out];omega))
    have HCB:=HC
    clear HC HT
    go_wp2_with fail
    clear x2 y2
    go_loopw [7] (fun i0 wr=>∃ j:Nat,i0 = .int .i64 (j:Int)∧j≤n1∧Hid (Chg [] w1 wr)∧Hid ((a.areas.map Pr.zA).take j=(b.areas.map Pr.zA).take j)) (fun i0 _=>n1 - intN i0)
    case atStart=>exact ⟨0,rfl,Nat.zero_le _,HCB,hd rfl⟩
    case round =>
     obtain ⟨j,rfl,hj,HC,HT⟩:=hrel
     have x3:=(HC.out.blk HX0.out (by simp)).cell (i:=3) rfl
     have y3:=(HC.out.blk HY0.out (by simp)).cell (i:=3) rfl
     by_cases hlt:j < n1
     · skip
       have z0:(0:Int)≤(j:Int):=by omega
       have z1:(j:Int) < (n1:Int):=by omega
       have z2:(j:Int)≤(k1:Int):=by omega
       have z3:(j:Int)≤(r1:Int):=by omega
       have HQR:Hid (Chg [] w0 wr):=hd (HQ1.out.trans HC.out (by simp))
       obtain ⟨x,g1,og1,csg1,hxx,hag1,-,hrg1,hccg1⟩:=HA.out.ra.at_ HQR.out (j:=j) (by rw[Sa1.out];exact hlt)
       subst hag1
       obtain ⟨hcsg1,-⟩:=hrg1
       obtain ⟨y,g2,og2,csg2,hxy,hag2,-,hrg2,hccg2⟩:=HB.out.ra.at_ HQR.out (j:=j) (by rw[Sb1.out];exact hlt)
       subst hag2
       obtain ⟨hcsg2,-⟩:=hrg2
       have c0:wr.cell? ⟨g1,og1+j*7,none⟩=some (.string ⟨x.name.toArray⟩):=by have h9:=hccg1 0 _ (by rw[hcsg1];rfl);simpa [Pr.iv,Pr.sv] using h9
       have c1:wr.cell? ⟨g1,og1+j*7+1,none⟩=some (.int .i64 x.box.x):=by have h9:=hccg1 1 _ (by rw[hcsg1];rfl);simpa [Pr.iv,Pr.sv] using h9
       have c2:wr.cell? ⟨g1,og1+j*7+2,none⟩=some (.int .i64 x.box.y):=by have h9:=hccg1 2 _ (by rw[hcsg1];rfl);simpa [Pr.iv,Pr.sv] using h9
       have c3:wr.cell? ⟨g1,og1+j*7+3,none⟩=some (.int .i64 x.box.x2):=by have h9:=hccg1 3 _ (by rw[hcsg1];rfl);simpa [Pr.iv,Pr.sv] using h9
       have c4:wr.cell? ⟨g1,og1+j*7+4,none⟩=some (.int .i64 x.box.y2):=by have h9:=hccg1 4 _ (by rw[hcsg1];rfl);simpa [Pr.iv,Pr.sv] using h9
       have c5:wr.cell? ⟨g1,og1+j*7+5,none⟩=some (.int .i64 x.holds):=by have h9:=hccg1 5 _ (by rw[hcsg1];rfl);simpa [Pr.iv,Pr.sv] using h9
       have c6:wr.cell? ⟨g1,og1+j*7+6,none⟩=some (.int .i64 x.at_):=by have h9:=hccg1 6 _ (by rw[hcsg1];rfl);simpa [Pr.iv,Pr.sv] using h9
       have d0:wr.cell? ⟨g2,og2+j*7,none⟩=some (.string ⟨y.name.toArray⟩):=by have h9:=hccg2 0 _ (by rw[hcsg2];rfl);simpa [Pr.iv,Pr.sv] using h9
       have d1:wr.cell? ⟨g2,og2+j*7+1,none⟩=some (.int .i64 y.box.x):=by have h9:=hccg2 1 _ (by rw[hcsg2];rfl);simpa [Pr.iv,Pr.sv] using h9
       have d2:wr.cell? ⟨g2,og2+j*7+2,none⟩=some (.int .i64 y.box.y):=by have h9:=hccg2 2 _ (by rw[hcsg2];rfl);simpa [Pr.iv,Pr.sv] using h9
       have d3:wr.cell? ⟨g2,og2+j*7+3,none⟩=some (.int .i64 y.box.x2):=by have h9:=hccg2 3 _ (by rw[hcsg2];rfl);simpa [Pr.iv,Pr.sv] using h9
       have d4:wr.cell? ⟨g2,og2+j*7+4,none⟩=some (.int .i64 y.box.y2):=by have h9:=hccg2 4 _ (by rw[hcsg2];rfl);simpa [Pr.iv,Pr.sv] using h9
       have d5:wr.cell? ⟨g2,og2+j*7+5,none⟩=some (.int .i64 y.holds):=by have h9:=hccg2 5 _ (by rw[hcsg2];rfl);simpa [Pr.iv,Pr.sv] using h9
       have d6:wr.cell? ⟨g2,og2+j*7+6,none⟩=some (.int .i64 y.at_):=by have h9:=hccg2 6 _ (by rw[hcsg2];rfl);simpa [Pr.iv,Pr.sv] using h9
       have HX:=hd hxx
       have HY:=hd hxy
       clear hxx hxy hcsg1 hcsg2 hccg1 hccg2
       go_upto_region 16 with (fail)
       by_cases hn:x.name=y.name
       · skip
         have En:=hd hn
         have en:(x.name == y.name)=true:=by rw[En.out];exact beq_self_eq_true _
         have fn:(x.name != y.name)=false:=by rw[En.out];simp
         clear hn
         by_cases ha:x.box.x=y.box.x
         · skip
           have Ea:=hd ha
           have ea:(x.box.x == y.box.x)=true:=by rw[Ea.out];exact beq_self_eq_true _
           have fa:(x.box.x != y.box.x)=false:=by rw[Ea.out];simp
           clear ha
           by_cases hb:x.box.y=y.box.y
           · skip
             have Eb:=hd hb
             have eb:(x.box.y == y.box.y)=true:=by rw[Eb.out];exact beq_self_eq_true _
             have fb:(x.box.y != y.box.y)=false:=by rw[Eb.out];simp
             clear hb
             by_cases hc:x.box.x2=y.box.x2
             · skip
               have Ec:=hd hc
               have ec:(x.box.x2 == y.box.x2)=true:=by rw[Ec.out];exact beq_self_eq_true _
               have fc:(x.box.x2 != y.box.x2)=false:=by rw[Ec.out];simp
               clear hc
               by_cases he:x.box.y2=y.box.y2
               · skip
                 have Ee:=hd he
                 have ee:(x.box.y2 == y.box.y2)=true:=by rw[Ee.out];exact beq_self_eq_true _
                 have fe:(x.box.y2 != y.box.y2)=false:=by rw[Ee.out];simp
                 clear he
                 by_cases hh:x.holds=y.holds
                 · skip
                   have Eh:=hd hh
                   have eh:(x.holds == y.holds)=true:=by rw[Eh.out];exact beq_self_eq_true _
                   have fh:(x.holds != y.holds)=false:=by rw[Eh.out];simp
                   clear hh
                   go_quiet (fail)
                   obtain ⟨V2,hV2⟩:∃ V2,V2=wr.drewN nq:=⟨_,rfl⟩
                   rw[← hV2]
                   have HC2:Hid (Chg [] w1 V2):=hd (HC.out.trans (by rw[hV2];exact chg_drewN _ _) (by simp))
                   clear hV2
                   clear c0 c1 c2 c3 c4 c5 c6 d0 d1 d2 d3 d4 d5 d6 x3 y3
                   have HZA:Hid (Pr.zA x=Pr.zA y):=hd ((zA_iff x y).2 ⟨En.out,Ea.out,Eb.out,Ec.out,Ee.out,Eh.out⟩)
                   go_wp2_with fail
                   go_roundw
                   case rel=>first|exact ⟨j+1,vint (by omega),by omega,HC2,hd (tk_step HT.out (map_at _ HX.out) (by rw[HZA.out];exact map_at _ HY.out))⟩|((repeat apply Exists.intro);exact ⟨⟨j+1,vint (by omega),by omega,HC2,hd (tk_step HT.out (map_at _ HX.out) (by rw[HZA.out];exact map_at _ HY.out))⟩,rfl⟩)
                   case measure=>simp[intN];omega
                 have eh:(x.holds == y.holds)=false:=by rw[beq_eq_false_iff_ne];exact hh
                 have fh:(x.holds != y.holds)=true:=by simp[hh]
                 go_quiet (fail)
                 obtain ⟨V2,hV2⟩:∃ V2,V2=wr.drewN nq:=⟨_,rfl⟩
                 rw[← hV2]
                 have HC2:Hid (Chg [] w1 V2):=hd (HC.out.trans (by rw[hV2];exact chg_drewN _ _) (by simp))
                 clear hV2
                 go_wp2_with fail
                 have h9:=HRR.out V2 (C1.out.trans HC2.out (by simp))
                 rw[decide_eq_false (fun e=>tk_ne (map_at Pr.zA HX.out) (map_at Pr.zA HY.out) (fun e=>by have e:=(zA_iff x y).1 e;exact hh e.2.2.2.2.2) ((zL_iff a b).1 e).2.2.1)] at h9
                 exact h9
               have ee:(x.box.y2 == y.box.y2)=false:=by rw[beq_eq_false_iff_ne];exact he
               have fe:(x.box.y2 != y.box.y2)=true:=by simp[he]
               go_quiet (fail)
               obtain ⟨V2,hV2⟩:∃ V2,V2=wr.drewN nq:=⟨_,rfl⟩
               rw[← hV2]
               have HC2:Hid (Chg [] w1 V2):=hd (HC.out.trans (by rw[hV2];exact chg_drewN _ _) (by simp))
               clear hV2
               go_wp2_with fail
               have h9:=HRR.out V2 (C1.out.trans HC2.out (by simp))
               rw[decide_eq_false (fun e=>tk_ne (map_at Pr.zA HX.out) (map_at Pr.zA HY.out) (fun e=>by have e:=(zA_iff x y).1 e;exact he e.2.2.2.2.1) ((zL_iff a b).1 e).2.2.1)] at h9
               exact h9
             have ec:(x.box.x2 == y.box.x2)=false:=by rw[beq_eq_false_iff_ne];exact hc
             have fc:(x.box.x2 != y.box.x2)=true:=by simp[hc]
             go_quiet (fail)
             obtain ⟨V2,hV2⟩:∃ V2,V2=wr.drewN nq:=⟨_,rfl⟩
             rw[← hV2]
             have HC2:Hid (Chg [] w1 V2):=hd (HC.out.trans (by rw[hV2];exact chg_drewN _ _) (by simp))
             clear hV2
             go_wp2_with fail
             have h9:=HRR.out V2 (C1.out.trans HC2.out (by simp))
             rw[decide_eq_false (fun e=>tk_ne (map_at Pr.zA HX.out) (map_at Pr.zA HY.out) (fun e=>by have e:=(zA_iff x y).1 e;exact hc e.2.2.2.1) ((zL_iff a b).1 e).2.2.1)] at h9
             exact h9
           have eb:(x.box.y == y.box.y)=false:=by rw[beq_eq_false_iff_ne];exact hb
           have fb:(x.box.y != y.box.y)=true:=by simp[hb]
           go_quiet (fail)
           obtain ⟨V2,hV2⟩:∃ V2,V2=wr.drewN nq:=⟨_,rfl⟩
           rw[← hV2]
           have HC2:Hid (Chg [] w1 V2):=hd (HC.out.trans (by rw[hV2];exact chg_drewN _ _) (by simp))
           clear hV2
           go_wp2_with fail
           have h9:=HRR.out V2 (C1.out.trans HC2.out (by simp))
           rw[decide_eq_false (fun e=>tk_ne (map_at Pr.zA HX.out) (map_at Pr.zA HY.out) (fun e=>by have e:=(zA_iff x y).1 e;exact hb e.2.2.1) ((zL_iff a b).1 e).2.2.1)] at h9
           exact h9
         have ea:(x.box.x == y.box.x)=false:=by rw[beq_eq_false_iff_ne];exact ha
         have fa:(x.box.x != y.box.x)=true:=by simp[ha]
         go_quiet (fail)
         obtain ⟨V2,hV2⟩:∃ V2,V2=wr.drewN nq:=⟨_,rfl⟩
         rw[← hV2]
         have HC2:Hid (Chg [] w1 V2):=hd (HC.out.trans (by rw[hV2];exact chg_drewN _ _) (by simp))
         clear hV2
         go_wp2_with fail
         have h9:=HRR.out V2 (C1.out.trans HC2.out (by simp))
         rw[decide_eq_false (fun e=>tk_ne (map_at Pr.zA HX.out) (map_at Pr.zA HY.out) (fun e=>by have e:=(zA_iff x y).1 e;exact ha e.2.1) ((zL_iff a b).1 e).2.2.1)] at h9
         exact h9
       have en:(x.name == y.name)=false:=by rw[beq_eq_false_iff_ne];exact hn
       have fn:(x.name != y.name)=true:=by simp[hn]
       go_quiet (fail)
       obtain ⟨V2,hV2⟩:∃ V2,V2=wr.drewN nq:=⟨_,rfl⟩
       rw[← hV2]
       have HC2:Hid (Chg [] w1 V2):=hd (HC.out.trans (by rw[hV2];exact chg_drewN _ _) (by simp))
       clear hV2
       go_wp2_with fail
       have h9:=HRR.out V2 (C1.out.trans HC2.out (by simp))
       rw[decide_eq_false (fun e=>tk_ne (map_at Pr.zA HX.out) (map_at Pr.zA HY.out) (fun e=>by have e:=(zA_iff x y).1 e;exact hn e.1) ((zL_iff a b).1 e).2.2.1)] at h9
       exact h9
     have z1:¬ (j:Int) < (n1:Int):=by omega
     have HEA:Hid (a.areas.map Pr.zA=b.areas.map Pr.zA):=hd (tk_end HT.out (by rw[List.length_map,Sa1.out];omega) (by rw[List.length_map,Sb1.out];omega))
     have HCA:=HC
     clear HC HT
     go_wp2_with fail
     clear x3 y3
     go_loopw [8] (fun i0 wr=>∃ j:Nat,i0 = .int .i64 (j:Int)∧j≤n4∧Hid (Chg [] w1 wr)∧Hid (a.doors.take j=b.doors.take j)) (fun i0 _=>n4 - intN i0)
     case atStart=>exact ⟨0,rfl,Nat.zero_le _,HCA,hd rfl⟩
     case round =>
      obtain ⟨j,rfl,hj,HC,HT⟩:=hrel
      have x6:=(HC.out.blk HX0.out (by simp)).cell (i:=6) rfl
      have y6:=(HC.out.blk HY0.out (by simp)).cell (i:=6) rfl
      by_cases hlt:j < n4
      · skip
        have z0:(0:Int)≤(j:Int):=by omega
        have z1:(j:Int) < (n4:Int):=by omega
        have z2:(j:Int)≤(k4:Int):=by omega
        have z3:(j:Int)≤(r4:Int):=by omega
        have HQR:Hid (Chg [] w0 wr):=hd (HQ1.out.trans HC.out (by simp))
        obtain ⟨x,g1,og1,csg1,hxx,hag1,-,hrg1,hccg1⟩:=HA.out.rd.at_ HQR.out (j:=j) (by rw[Sa4.out];exact hlt)
        subst hag1
        obtain ⟨hcsg1,-⟩:=hrg1
        obtain ⟨y,g2,og2,csg2,hxy,hag2,-,hrg2,hccg2⟩:=HB.out.rd.at_ HQR.out (j:=j) (by rw[Sb4.out];exact hlt)
        subst hag2
        obtain ⟨hcsg2,-⟩:=hrg2
        have c0:wr.cell? ⟨g1,og1+j*2,none⟩=some (.int .i64 x.1):=by have h9:=hccg1 0 _ (by rw[hcsg1];rfl);simpa [Pr.iv,Pr.sv] using h9
        have c1:wr.cell? ⟨g1,og1+j*2+1,none⟩=some (.int .i64 x.2):=by have h9:=hccg1 1 _ (by rw[hcsg1];rfl);simpa [Pr.iv,Pr.sv] using h9
        have d0:wr.cell? ⟨g2,og2+j*2,none⟩=some (.int .i64 y.1):=by have h9:=hccg2 0 _ (by rw[hcsg2];rfl);simpa [Pr.iv,Pr.sv] using h9
        have d1:wr.cell? ⟨g2,og2+j*2+1,none⟩=some (.int .i64 y.2):=by have h9:=hccg2 1 _ (by rw[hcsg2];rfl);simpa [Pr.iv,Pr.sv] using h9
        have HX:=hd hxx
        have HY:=hd hxy
        clear hxx hxy hcsg1 hcsg2 hccg1 hccg2
        go_upto_region 21 with (fail)
        by_cases ha:x.1=y.1
        · skip
          have Ea:=hd ha
          have ea:(x.1 == y.1)=true:=by rw[Ea.out];exact beq_self_eq_true _
          have fa:(x.1 != y.1)=false:=by rw[Ea.out];simp
          clear ha
          by_cases hb:x.2=y.2
          · skip
            have Eb:=hd hb
            have eb:(x.2 == y.2)=true:=by rw[Eb.out];exact beq_self_eq_true _
            have fb:(x.2 != y.2)=false:=by rw[Eb.out];simp
            clear hb
            go_quiet (fail)
            obtain ⟨V2,hV2⟩:∃ V2,V2=wr.drewN nq:=⟨_,rfl⟩
            rw[← hV2]
            have HC2:Hid (Chg [] w1 V2):=hd (HC.out.trans (by rw[hV2];exact chg_drewN _ _) (by simp))
            clear hV2
            clear c0 c1 d0 d1 x6 y6
            have HXY:Hid (x=y):=hd (Prod.ext Ea.out Eb.out)
            go_wp2_with fail
            go_roundw
            case rel=>first|exact ⟨j+1,vint (by omega),by omega,HC2,hd (tk_step HT.out HX.out (by rw[HXY.out];exact HY.out))⟩|((repeat apply Exists.intro);exact ⟨⟨j+1,vint (by omega),by omega,HC2,hd (tk_step HT.out HX.out (by rw[HXY.out];exact HY.out))⟩,rfl⟩)
            case measure=>simp[intN];omega
          have eb:(x.2 == y.2)=false:=by rw[beq_eq_false_iff_ne];exact hb
          have fb:(x.2 != y.2)=true:=by simp[hb]
          go_quiet (fail)
          obtain ⟨V2,hV2⟩:∃ V2,V2=wr.drewN nq:=⟨_,rfl⟩
          rw[← hV2]
          have HC2:Hid (Chg [] w1 V2):=hd (HC.out.trans (by rw[hV2];exact chg_drewN _ _) (by simp))
          clear hV2
          clear c0 c1 d0 d1 x6 y6
          go_wp2_with fail
          have h9:=HRR.out V2 (C1.out.trans HC2.out (by simp))
          rw[decide_eq_false (fun e=>tk_ne HX.out HY.out (by intro e;rw[e] at hb;exact hb rfl) ((zL_iff a b).1 e).2.2.2)] at h9
          exact h9
        have ea:(x.1 == y.1)=false:=by rw[beq_eq_false_iff_ne];exact ha
        have fa:(x.1 != y.1)=true:=by simp[ha]
        go_quiet (fail)
        obtain ⟨V2,hV2⟩:∃ V2,V2=wr.drewN nq:=⟨_,rfl⟩
        rw[← hV2]
        have HC2:Hid (Chg [] w1 V2):=hd (HC.out.trans (by rw[hV2];exact chg_drewN _ _) (by simp))
        clear hV2
        clear c0 c1 d0 d1 x6 y6
        go_wp2_with fail
        have h9:=HRR.out V2 (C1.out.trans HC2.out (by simp))
        rw[decide_eq_false (fun e=>tk_ne HX.out HY.out (by intro e;rw[e] at ha;exact ha rfl) ((zL_iff a b).1 e).2.2.2)] at h9
        exact h9
      have z1:¬ (j:Int) < (n4:Int):=by omega
      have HED:Hid (a.doors=b.doors):=hd (tk_end HT.out (by rw[Sa4.out];omega) (by rw[Sb4.out];omega))
      go_wp2_with fail
      have h9:=HRR.out wr (C1.out.trans HC.out (by simp))
      rw[decide_eq_true ((zL_iff a b).2 ⟨⟨HEE.out.1,HEE.out.2.1,HEE.out.2.2.1,HEE.out.2.2.2⟩,HEB.out,HEA.out,HED.out⟩)] at h9
      exact h9
end Go.Proofs.YtglepipfdmphhaaGreatDoor
namespace Go.Proofs.YtglepipfdmphhaaGreatDoor
set_option linter.unusedVariables false
set_option linter.unusedSimpArgs false
open Go Go.RowKit Go.Shelf
attribute [local irreducible] Go.wpStill
theorem zH_iff (a b:Pr.Hl):Pr.zH a=Pr.zH b↔((a.name=b.name∧a.sx=b.sx∧a.sy=b.sy)∧a.levels.map Pr.zL=b.levels.map Pr.zL):=by
 cases a;cases b
 simp only[Pr.zH,Pr.Hl.mk.injEq]
 constructor
 · rintro ⟨h1,h2,h3,h4⟩
   exact ⟨⟨h1,h2,h3⟩,h4⟩
 rintro ⟨⟨h1,h2,h3⟩,h4⟩
 exact ⟨h1,h2,h3,h4⟩
theorem sameHall_r {w0 w:World} (HQ:Hid (Chg [] w0 w)) (a b:Pr.Hl) (p1 p2:Option Addr) (k1 k2 n1 n2:Nat) (H1:Hid (RdS 8 Pr.RLv w0 (.slice p1 n1 k1) a.levels)) (H2:Hid (RdS 8 Pr.RLv w0 (.slice p2 n2 k2) b.levels)) {R:Ending→World→Prop}
 (h:∀ w',Chg [] w w'→R (.returned (.bool (decide (Pr.zH a=Pr.zH b)))) w'):Calls Tryz.prog 9 #[.agg #[.string ⟨a.name.toArray⟩,.int .i64 a.sx,.int .i64 a.sy,.slice p1 n1 k1],.agg #[.string ⟨b.name.toArray⟩,.int .i64 b.sx,.int .i64 b.sy,.slice p2 n2 k2]] w R:=by
 have HRR:=hd h
 clear h
 obtain ⟨hk1,hr1,hn1⟩:=H1.out.cp
 obtain ⟨hk2,hr2,hn2⟩:=H2.out.cp
 have HN1:=hd hn1
 have HN2:=hd hn2
 clear hn1 hn2
 go_enter Tryz.func9,Tryz.ntmps9
 go_upto_region 1 with (fail)
 obtain ⟨wa,hwa⟩:∃ W,W=w.alloc (.cells #[.string ⟨a.name.toArray⟩,.int .i64 a.sx,.int .i64 a.sy,.slice p1 n1 k1] 26):=⟨_,rfl⟩
 rw[← hwa]
 obtain ⟨w1,hw1⟩:∃ W,W=wa.alloc (.cells #[.string ⟨b.name.toArray⟩,.int .i64 b.sx,.int .i64 b.sy,.slice p2 n2 k2] 26):=⟨_,rfl⟩
 rw[← hw1]
 obtain ⟨Y,hY⟩:∃ X,X=w.heap.size+1:=⟨_,rfl⟩
 rw[← hY]
 obtain ⟨X,hX⟩:∃ X,X=w.heap.size:=⟨_,rfl⟩
 rw[← hX]
 have HX0:Hid (Blk w1 X [.string ⟨a.name.toArray⟩,.int .i64 a.sx,.int .i64 a.sy,.slice p1 n1 k1] 26):=hd (by rw[hw1,hwa,hX];exact (Blk.new w [.string ⟨a.name.toArray⟩,.int .i64 a.sx,.int .i64 a.sy,.slice p1 n1 k1] _).alloc _)
 have HY0:Hid (Blk w1 Y [.string ⟨b.name.toArray⟩,.int .i64 b.sx,.int .i64 b.sy,.slice p2 n2 k2] 26):=hd (by have h9:=Blk.new wa [.string ⟨b.name.toArray⟩,.int .i64 b.sx,.int .i64 b.sy,.slice p2 n2 k2] 26;rw[show wa.heap.size=Y by rw[hwa,hY];simp] at h9;rw[hw1];exact h9)
 have C1:Hid (Chg [] w w1):=hd (by rw[hw1,hwa];exact ((Chg.refl _ _).alloc _).alloc _)
 have HQ1:Hid (Chg [] w0 w1):=hd (HQ.out.trans C1.out (by simp))
 clear hwa hw1 hX hY
 have x0:=HX0.out.cell (i:=0) rfl
 have x1:=HX0.out.cell (i:=1) rfl
 have x2:=HX0.out.cell (i:=2) rfl
 have x3:=HX0.out.cell (i:=3) rfl
 have y0:=HY0.out.cell (i:=0) rfl
 have y1:=HY0.out.cell (i:=1) rfl
 have y2:=HY0.out.cell (i:=2) rfl
 have y3:=HY0.out.cell (i:=3) rfl
 obtain ⟨qq,hqq⟩:∃ z,z=decide (a.name=b.name∧a.sx=b.sx∧a.sy=b.sy∧n1=n2):=⟨_,rfl⟩
 have HQQ:=hd hqq
 clear hqq
 go_cut [26] (fun s wx=>wx=w1∧s = .bool (!qq))
 case first =>
  by_cases hn:a.name=b.name
  · skip
    have En:=hd hn
    have en:(a.name == b.name)=true:=by rw[En.out];exact beq_self_eq_true _
    have fn:(a.name != b.name)=false:=by rw[En.out];simp
    clear hn
    by_cases hx:a.sx=b.sx
    · skip
      have Ex:=hd hx
      have ex:(a.sx == b.sx)=true:=by rw[Ex.out];exact beq_self_eq_true _
      have fx:(a.sx != b.sx)=false:=by rw[Ex.out];simp
      clear hx
      by_cases hy:a.sy=b.sy
      · skip
        have Ey:=hd hy
        have ey:(a.sy == b.sy)=true:=by rw[Ey.out];exact beq_self_eq_true _
        have fy:(a.sy != b.sy)=false:=by rw[Ey.out];simp
        clear hy
        by_cases hl:n1=n2
        · skip
          have El:=hd hl
          have el:((n1:Int) == (n2:Int))=true:=by rw[hl];exact beq_self_eq_true _
          have fl:((n1:Int) != (n2:Int))=false:=by rw[hl];simp
          clear hl
          go_wp2_with fail
          go_meet
          exact ⟨rfl,by rw[HQQ.out,decide_eq_true ⟨En.out,Ex.out,Ey.out,El.out⟩];rfl⟩
        have el:((n1:Int) == (n2:Int))=false:=by rw[beq_eq_false_iff_ne];omega
        have fl:((n1:Int) != (n2:Int))=true:=by simp;omega
        go_wp2_with fail
        go_meet
        exact ⟨rfl,by rw[HQQ.out,decide_eq_false (fun e=>hl e.2.2.2)];rfl⟩
      have ey:(a.sy == b.sy)=false:=by rw[beq_eq_false_iff_ne];exact hy
      have fy:(a.sy != b.sy)=true:=by simp[hy]
      go_wp2_with fail
      go_meet
      exact ⟨rfl,by rw[HQQ.out,decide_eq_false (fun e=>hy e.2.2.1)];rfl⟩
    have ex:(a.sx == b.sx)=false:=by rw[beq_eq_false_iff_ne];exact hx
    have fx:(a.sx != b.sx)=true:=by simp[hx]
    go_wp2_with fail
    go_meet
    exact ⟨rfl,by rw[HQQ.out,decide_eq_false (fun e=>hx e.2.1)];rfl⟩
  have en:(a.name == b.name)=false:=by rw[beq_eq_false_iff_ne];exact hn
  have fn:(a.name != b.name)=true:=by simp[hn]
  go_wp2_with fail
  go_meet
  exact ⟨rfl,by rw[HQQ.out,decide_eq_false (fun e=>hn e.1)];rfl⟩
 case rest =>
  obtain ⟨hw,hs⟩:=hcut
  subst hs
  rw[hw]
  clear x0 x1 x2 x3 y0 y1 y2 y3 hw
  cases qq with
  | false =>
   have HNE:=hd (of_decide_eq_false HQQ.out.symm)
   go_wp2_with fail
   have h9:=HRR.out w1 C1.out
   rw[decide_eq_false (fun e=>HNE.out (by
    obtain ⟨⟨e1,e2,e3⟩,e4⟩:=(zH_iff a b).1 e
    have l5:=congrArg List.length e4
    rw[List.length_map,List.length_map,HN1.out,HN2.out] at l5
    exact ⟨e1,e2,e3,l5⟩))] at h9
   exact h9
  | true =>
   have hee:=of_decide_eq_true HQQ.out.symm
   have HEE:=hd (And.intro hee.1 (And.intro hee.2.1 hee.2.2.1))
   have g0:n1=n2:=hee.2.2.2
   subst g0
   obtain ⟨n,hn⟩:∃ z,z=n1:=⟨_,rfl⟩
   rw[← hn] at H1 H2 HN1 HN2 hk1 hk2 hr1 HX0 HY0 ⊢
   clear hn hee HQQ
   go_wp2_with fail
   go_loopw [5] (fun i0 wr=>∃ j:Nat,i0 = .int .i64 (j:Int)∧j≤n∧Hid (Chg [] w1 wr)∧Hid ((a.levels.map Pr.zL).take j=(b.levels.map Pr.zL).take j)) (fun i0 _=>n - intN i0)
   case atStart=>exact ⟨0,rfl,Nat.zero_le _,hd (Chg.refl _ _),hd rfl⟩
   case round =>
    obtain ⟨j,rfl,hj,HC,HT⟩:=hrel
    have x3:=(HC.out.blk HX0.out (by simp)).cell (i:=3) rfl
    have y3:=(HC.out.blk HY0.out (by simp)).cell (i:=3) rfl
    by_cases hlt:j < n
    · skip
      have q0:(0:Int)≤(j:Int):=by omega
      have q1:(j:Int) < (n:Int):=by omega
      have q2:(j:Int)≤(k1:Int):=by omega
      have q3:(j:Int)≤(k2:Int):=by omega
      have HQR:Hid (Chg [] w0 wr):=hd (HQ1.out.trans HC.out (by simp))
      obtain ⟨x,g1,og1,csg1,hxx,hag1,-,⟨u11,u12,u13,u14,u15,hcsg1,-,d11,d12,d13,d14,d15,-⟩,hccg1⟩:=H1.out.at_ HQR.out (j:=j) (by rw[HN1.out];exact hlt)
      subst hag1
      obtain ⟨p11,k11,rfl,_,_⟩:=d11.form
      obtain ⟨p12,k12,rfl,_,_⟩:=d12.form
      obtain ⟨p13,k13,rfl,_,_⟩:=d13.form
      obtain ⟨p14,k14,rfl,_,_⟩:=d14.form
      obtain ⟨p15,k15,rfl,_,_⟩:=d15.form
      obtain ⟨y,g2,og2,csg2,hxy,hag2,-,⟨u21,u22,u23,u24,u25,hcsg2,-,d21,d22,d23,d24,d25,-⟩,hccg2⟩:=H2.out.at_ HQR.out (j:=j) (by rw[HN2.out];exact hlt)
      subst hag2
      obtain ⟨p21,k21,rfl,_,_⟩:=d21.form
      obtain ⟨p22,k22,rfl,_,_⟩:=d22.form
      obtain ⟨p23,k23,rfl,_,_⟩:=d23.form
      obtain ⟨p24,k24,rfl,_,_⟩:=d24.form
      obtain ⟨p25,k25,rfl,_,_⟩:=d25.form
      have e0:wr.cell? ⟨g1,og1+j*8,none⟩=some (.string ⟨x.name.toArray⟩):=by have h9:=hccg1 0 _ (by rw[hcsg1];rfl);simpa [Pr.iv,Pr.sv] using h9
      have e1:wr.cell? ⟨g1,og1+j*8+1,none⟩=some (.int .i64 x.height):=by have h9:=hccg1 1 _ (by rw[hcsg1];rfl);simpa [Pr.iv,Pr.sv] using h9
      have e2:wr.cell? ⟨g1,og1+j*8+2,none⟩=some (.slice p11 x.blocks.length k11):=by have h9:=hccg1 2 _ (by rw[hcsg1];rfl);simpa [Pr.iv,Pr.sv] using h9
      have e3:wr.cell? ⟨g1,og1+j*8+3,none⟩=some (.slice p12 x.areas.length k12):=by have h9:=hccg1 3 _ (by rw[hcsg1];rfl);simpa [Pr.iv,Pr.sv] using h9
      have e4:wr.cell? ⟨g1,og1+j*8+4,none⟩=some (.slice p13 x.aisles.length k13):=by have h9:=hccg1 4 _ (by rw[hcsg1];rfl);simpa [Pr.iv,Pr.sv] using h9
      have e5:wr.cell? ⟨g1,og1+j*8+5,none⟩=some (.slice p14 x.pillars.length k14):=by have h9:=hccg1 5 _ (by rw[hcsg1];rfl);simpa [Pr.iv,Pr.sv] using h9
      have e6:wr.cell? ⟨g1,og1+j*8+6,none⟩=some (.slice p15 x.doors.length k15):=by have h9:=hccg1 6 _ (by rw[hcsg1];rfl);simpa [Pr.iv,Pr.sv] using h9
      have e7:wr.cell? ⟨g1,og1+j*8+7,none⟩=some (.int .i64 x.at_):=by have h9:=hccg1 7 _ (by rw[hcsg1];rfl);simpa [Pr.iv,Pr.sv] using h9
      have f0:wr.cell? ⟨g2,og2+j*8,none⟩=some (.string ⟨y.name.toArray⟩):=by have h9:=hccg2 0 _ (by rw[hcsg2];rfl);simpa [Pr.iv,Pr.sv] using h9
      have f1:wr.cell? ⟨g2,og2+j*8+1,none⟩=some (.int .i64 y.height):=by have h9:=hccg2 1 _ (by rw[hcsg2];rfl);simpa [Pr.iv,Pr.sv] using h9
      have f2:wr.cell? ⟨g2,og2+j*8+2,none⟩=some (.slice p21 y.blocks.length k21):=by have h9:=hccg2 2 _ (by rw[hcsg2];rfl);simpa [Pr.iv,Pr.sv] using h9
      have f3:wr.cell? ⟨g2,og2+j*8+3,none⟩=some (.slice p22 y.areas.length k22):=by have h9:=hccg2 3 _ (by rw[hcsg2];rfl);simpa [Pr.iv,Pr.sv] using h9
      have f4:wr.cell? ⟨g2,og2+j*8+4,none⟩=some (.slice p23 y.aisles.length k23):=by have h9:=hccg2 4 _ (by rw[hcsg2];rfl);simpa [Pr.iv,Pr.sv] using h9
      have f5:wr.cell? ⟨g2,og2+j*8+5,none⟩=some (.slice p24 y.pillars.length k24):=by have h9:=hccg2 5 _ (by rw[hcsg2];rfl);simpa [Pr.iv,Pr.sv] using h9
      have f6:wr.cell? ⟨g2,og2+j*8+6,none⟩=some (.slice p25 y.doors.length k25):=by have h9:=hccg2 6 _ (by rw[hcsg2];rfl);simpa [Pr.iv,Pr.sv] using h9
      have f7:wr.cell? ⟨g2,og2+j*8+7,none⟩=some (.int .i64 y.at_):=by have h9:=hccg2 7 _ (by rw[hcsg2];rfl);simpa [Pr.iv,Pr.sv] using h9
      have HLX:=hd (LvR.mk d11 d12 d13 d14 d15)
      have HLY:=hd (LvR.mk d21 d22 d23 d24 d25)
      have HX:=hd hxx
      have HY:=hd hxy
      clear hxx hxy hcsg1 hcsg2 hccg1 hccg2 d11 d21 d12 d22 d13 d23 d14 d24 d15 d25
      go_upto_region 6 with (fail)
      refine wp_region_held_drew (S:=fun W'=>Chg [] wr W') (by kernel_rfl) (Chg.refl _ _).drew (fun hHeld=>?_)
      refine tq 0 ?_
      refine tq1 1 (fun w9 hSw=>cell_quiet hSw x3 (by simp)) ?_
      refine tq 2 ?_
      refine tq 3 ?_
      refine tq 4 ?_ (hy:=by intro w9 hSw;have te0:=cell_quiet hSw e0 (by simp);have te1:=cell_quiet hSw e1 (by simp);have te2:=cell_quiet hSw e2 (by simp);have te3:=cell_quiet hSw e3 (by simp);have te4:=cell_quiet hSw e4 (by simp);have te5:=cell_quiet hSw e5 (by simp);have te6:=cell_quiet hSw e6 (by simp);have te7:=cell_quiet hSw e7 (by simp);go_simp;try with_reducible rfl)
      refine tq 5 ?_
      refine tq1 6 (fun w9 hSw=>cell_quiet hSw y3 (by simp)) ?_
      refine tq 7 ?_
      refine tq 8 ?_
      refine tq 9 ?_ (hy:=by intro w9 hSw;have tf0:=cell_quiet hSw f0 (by simp);have tf1:=cell_quiet hSw f1 (by simp);have tf2:=cell_quiet hSw f2 (by simp);have tf3:=cell_quiet hSw f3 (by simp);have tf4:=cell_quiet hSw f4 (by simp);have tf5:=cell_quiet hSw f5 (by simp);have tf6:=cell_quiet hSw f6 (by simp);have tf7:=cell_quiet hSw f7 (by simp);go_simp;try with_reducible rfl)
      refine rd1 10 (fun K hK=>?_)
      go_simp
      refine sameLevel_r (hd (HQR.out.trans hHeld (by simp))) x y p11 p12 p13 p14 p15 p21 p22 p23 p24 p25 _ _ _ _ _ k11 k12 k13 k14 k15 _ _ _ _ _ k21 k22 k23 k24 k25 HLX HLY (fun wy hcx=>?_)
      refine kq hK (hHeld.trans hcx (by simp)) (fun hHeld=>?_)
      refine tq 11 ?_
      refine dq ?_
      have HH:=hd hHeld
      clear hHeld hcx
      have HPY:Hid (Chg [] w1 wy):=hd (HC.out.trans HH.out (by simp))
      clear e0 f0 e1 f1 e2 f2 e3 f3 e4 f4 e5 f5 e6 f6 e7 f7
      by_cases hrs:Pr.zL x=Pr.zL y
      · skip
        have HRS:=hd hrs
        rw[decide_eq_true hrs]
        clear hrs
        go_wp2_with fail
        go_roundw
        case rel=>first|exact ⟨j+1,vint (by omega),by omega,HPY,hd (tk_step HT.out (map_at _ HX.out) (by rw[HRS.out];exact map_at _ HY.out))⟩|((repeat apply Exists.intro);exact ⟨⟨j+1,vint (by omega),by omega,HPY,hd (tk_step HT.out (map_at _ HX.out) (by rw[HRS.out];exact map_at _ HY.out))⟩,rfl⟩)
        case measure=>simp[intN];omega
      have HNR:=hd hrs
      rw[decide_eq_false hrs]
      clear hrs
      go_wp2_with fail
      have h9:=HRR.out wy (C1.out.trans HPY.out (by simp))
      rw[decide_eq_false (fun e=>tk_ne (map_at Pr.zL HX.out) (map_at Pr.zL HY.out) HNR.out ((zH_iff a b).1 e).2)] at h9
      exact h9
    have q1:¬ (j:Int) < (n:Int):=by omega
    have HE:Hid (a.levels.map Pr.zL=b.levels.map Pr.zL):=hd (tk_end HT.out (by rw[List.length_map,HN1.out];omega) (by rw[List.length_map,HN2.out];omega))
    go_wp2_with fail
    have h9:=HRR.out wr (C1.out.trans HC.out (by simp))
    rw[decide_eq_true ((zH_iff a b).2 ⟨HEE.out,HE.out⟩)] at h9
    exact h9
end Go.Proofs.YtglepipfdmphhaaGreatDoor
