/-
  PrAg, LwPrAg in one text.
-/
import Derived.Test.YtglepipfdmphhaaGreatDoorPrHp
import Derived.Test.YtglepipfdmphhaaGreatDoorPrFr
import Derived.Test.YtglepipfdmphhaaGreatDoorPrHd
import Derived.Test.YtglepipfdmphhaaGreatDoorPrHc
import Derived.Test.YtglepipfdmphhaaGreatDoorPrRc
import Derived.Test.YtglepipfdmphhaaGreatDoorPrSc
import Derived.Test.YtglepipfdmphhaaGreatDoorPrSd
import Derived.Test.YtglepipfdmphhaaGreatDoorPrY
namespace Go.Proofs.YtglepipfdmphhaaGreatDoor
set_option linter.unusedVariables false
set_option linter.unusedSimpArgs false
open Go Go.RowKit
namespace Pr
theorem blockOk_z (b:Bl):blockOk (zB b)=blockOk b:=by
  simp only[blockOk,zB,List.all_map]
  rfl
theorem levelOk_z (l:Lv):levelOk (zL l)=levelOk l:=by
  simp only[levelOk,zL,List.all_map]
  rw[show blockOk ∘ zB=blockOk from funext blockOk_z]
  rfl
theorem hall_z (h:Hl):hall (zH h)=hall h:=by
  have h1:hallOk (zH h)=hallOk h:=by
    simp only[hallOk,zH,List.all_map]
    rw[show levelOk ∘ zL=levelOk from funext levelOk_z]
  unfold hall hallText
  rw[h1,hallL_z]
theorem hall_same {a b:Hl} (h:zH a=zH b):hall a=hall b:=by rw[← hall_z a,← hall_z b,h]
theorem testOk_z (t:Tst):testOk (zT t)=testOk t:=rfl
theorem listOk_z (l:List Tst):listOk (l.map zT)=listOk l:=by
  simp only[listOk,List.all_map,List.length_map,List.isEmpty_map]
  rfl
theorem itemOk_z (x:Itm):itemOk (zI x)=itemOk x:=by
  simp only[itemOk,zI,wordsOk,List.all_map,List.length_map]
  rw[show listOk ∘ (fun x:List Tst=>x.map zT)=listOk from funext listOk_z]
  rfl
theorem rules_z (l:List Itm):rules (l.map zI)=rules l:=by
  have h1:rulesOk (l.map zI)=rulesOk l:=by
    simp only[rulesOk,List.all_map,List.length_map]
    rw[show itemOk ∘ zI=itemOk from funext itemOk_z]
  unfold rules rulesText
  rw[h1,rulesL_z]
theorem rules_same {a b:List Itm} (h:a.map zI=b.map zI):rules a=rules b:=by rw[← rules_z a,← rules_z b,h]
end Pr
end Go.Proofs.YtglepipfdmphhaaGreatDoor
set_option maxRecDepth 100000
set_option maxHeartbeats 40000000
namespace Go.Proofs.YtglepipfdmphhaaGreatDoor
set_option linter.unusedVariables false
set_option linter.unusedSimpArgs false
open Go Go.RowKit Go.Shelf
attribute [local irreducible] Go.wpStill
theorem szL_fine {x:Pn.Hl} (h:Pn.FH x):∀ l ∈ (Pr.cbH x).levels,SzL l:=by
  intro l hl
  obtain ⟨y,hy,rfl⟩:=List.mem_map.1 hl
  obtain ⟨h1,h2,h3,h4,h5,h6,h7⟩:=h.2.2.2.2 y hy
  simp only[SzL,Pr.cbL,List.length_map]
  refine ⟨⟨by omega,by omega,by omega,by omega,by omega,by omega⟩,?_,?_⟩
  · intro b hb
    obtain ⟨b',hb',rfl⟩:=List.mem_map.1 hb
    have f:=h3.2 b' hb'
    simp only[Pr.cbB,List.length_map]
    refine ⟨by have:=f.1;omega,by have:=f.2.1;omega,?_⟩
    intro r hr
    obtain ⟨r',hr',rfl⟩:=List.mem_map.1 hr
    have g:=f.2.2 r' hr'
    simp only[Pr.cbR,Pr.uvR,List.length_map]
    exact ⟨by have:=g.1;omega,by have:=g.2.2.2.2.2.2.1;omega⟩
  intro a ha
  obtain ⟨a',ha',rfl⟩:=List.mem_map.1 ha
  have f:=h4.2 a' ha'
  show a'.name.length≤1000
  have:=f.1
  omega
theorem szI_fine {xs:List Rl.Itm} (h:xs.length≤200∧∀ x ∈ xs,Rl.FI x):∀ x ∈ xs.map Pr.cbI,SzI x:=by
  intro x hx
  obtain ⟨y,hy,rfl⟩:=List.mem_map.1 hx
  obtain ⟨_,h2,h3,_⟩:=h.2 y hy
  refine ⟨by show y.name.length≤1000;omega,?_⟩
  intro l hl t ht
  obtain ⟨l',hl',rfl⟩:=List.mem_map.1 hl
  obtain ⟨t',ht',rfl⟩:=List.mem_map.1 ht
  have f:=(h3.2 l' hl').2 t' ht'
  exact ⟨by show t'.attr.length≤1000;have:=f.1;omega,by show t'.name.length≤1000;have:=f.2.2.1;omega⟩
theorem printerAgain_walk (w:World) (HL:Hid (Laid w)) (s:Bytes) (hs:s.length≤140737488351232) :
    Calls Tryz.prog 4 #[.string ⟨s.toArray⟩] w fun e w'=>e = .returned (.bool true)∧Chg [] w w':=by
  suffices H:∀ {R:Ending→World→Prop},(∀ w',Chg [] w w'→R (.returned (.bool true)) w')→Calls Tryz.prog 4 #[.string ⟨s.toArray⟩] w R from H (fun w' hc=>⟨rfl,hc⟩)
  intro R hR
  have HRR:=hd hR
  clear hR
  have gz:(⟨s.toArray⟩:ByteArray).size=s.length:=size_of9 s
  go_enter Tryz.func4,Tryz.ntmps4
  go_wp2_with fail
  refine head_r HL (fun w1 h1=>?_)
  have C1:=hd h1
  clear h1
  by_cases h3:3000 < s.length
  · have h4:(3000:Int) < (s.length:Int):=by omega
    go_wp2_with fail
    exact HRR.out w1 C1.out
  have h4:¬ (3000:Int) < (s.length:Int):=by omega
  have HS:=hd h3
  go_wp2_with fail
  refine (parse_spec w1 s (by omega)).mono ?_
  rintro e w2 ⟨v,rfl,hl,hc⟩
  have C2:Hid (Chg [] w w2):=hd (C1.out.trans hc (by simp))
  have fx:=Pn.fine_parse s
  obtain ⟨x,hx⟩:∃ x,x=(Pn.parse s).1:=⟨_,rfl⟩
  obtain ⟨c,hcc⟩:∃ c,c=(Pn.parse s).2.1:=⟨_,rfl⟩
  obtain ⟨p,hp⟩:∃ p,p=(Pn.parse s).2.2:=⟨_,rfl⟩
  rw[← hx] at hl fx ⊢
  rw[← hcc,← hp]
  have RX:=Pr.rdF_hall fx hl
  obtain ⟨ao,cap,rfl,_,_⟩:=RX.form
  obtain ⟨n,hn⟩:∃ n,n=(Pr.cbH x).levels.length:=⟨_,rfl⟩
  rw[← hn] at RX ⊢
  have HN:=hd hn
  have HRX:=hd RX
  have HFX:=hd fx
  have HL2:=hd (HL.out.quiet C2.out)
  clear hx hcc hp hl hc fx RX hn h3 h4 gz
  go_upto_if 35 with (fail)
  obtain ⟨w3,hw⟩:∃ W,W=w2.alloc (.cells #[.string ⟨x.name.toArray⟩,.int .i64 (x.sx:Nat),.int .i64 (x.sy:Nat),.slice ao n cap] 26):=⟨_,rfl⟩
  rw[← hw]
  obtain ⟨G,hX⟩:∃ X,X=w2.heap.size:=⟨_,rfl⟩
  rw[← hX]
  have HG:=newB hw hX
  have C3:=newC hw
  clear hw hX
  have C23:Hid (Chg [] w w3):=hd (C2.out.trans C3.out (by simp))
  go_cut [] (fun wx=>Hid (Chg [] w wx))
  case first =>
    by_cases h0:c=0
    · subst h0
      have g0:=HG.out.cell (i:=0) rfl
      have g1:=HG.out.cell (i:=1) rfl
      have g2:=HG.out.cell (i:=2) rfl
      have g3:=HG.out.cell (i:=3) rfl
      go_wp2_with fail
      refine hall_r (hd (HL2.out.quiet C3.out)) (Pr.cbH x) ao cap n (hd HN.out.symm) (hd (HRX.out.keep Pr.kq_lv C3.out)) (hd ⟨Pr.i64f HFX.out.2.1,Pr.i64f HFX.out.2.2.1⟩) (by have h9:=HN.out;have h8:=HFX.out.2.2.2.1;simp only[Pr.cbH,List.length_map] at h9;omega) (by have:=HFX.out.1;show x.name.length≤1000;omega) (hd (szL_fine HFX.out)) (fun w4 h4=>?_)
      have C4:Hid (Chg [] w3 w4):=hd h4
      clear h4 g0 g1 g2 g3
      by_cases he:(Pr.hall (Pr.cbH x)).2=0
      · obtain ⟨t,ht⟩:∃ t,t=(Pr.hall (Pr.cbH x)).1:=⟨_,rfl⟩
        have hh:Pr.hall (Pr.cbH x)=(t,0):=by rw[ht,← he]
        obtain ⟨_,hlen,y,hy,hz⟩:=Pr.hall_parse hh
        have hsame:Pr.hall (Pr.cbH y)=(t,0):=by rw[← hh];exact Pr.hall_same (by rw[Pr.zH_cb];exact hz)
        have HZ:Hid (Pr.zH (Pr.cbH y)=Pr.zH (Pr.cbH x)):=hd (by rw[Pr.zH_cb];exact hz)
        have HY:=hd hy
        have HSM:=hd hsame
        rw[he,← ht]
        clear ht hh hy hz hsame he
        go_wp2_with fail
        refine (parse_spec w4 t (by omega)).mono ?_
        rintro e w5 ⟨v,rfl,hl,hc⟩
        have C5:Hid (Chg [] w3 w5):=hd (C4.out.trans hc (by simp))
        have fy:=Pn.fine_parse t
        rw[HY.out] at hl fy ⊢
        have RY:=Pr.rdF_hall fy hl
        obtain ⟨bo,bc,rfl,_,_⟩:=RY.form
        obtain ⟨m,hm⟩:∃ m,m=(Pr.cbH y).levels.length:=⟨_,rfl⟩
        rw[← hm] at RY ⊢
        have HM:=hd hm
        have HRY:=hd RY
        have HFY:=hd fy
        clear hl hc fy RY hm hlen
        go_upto_region 9 with (fail)
        obtain ⟨w6,hw⟩:∃ W,W=w5.alloc (.cells #[.string ⟨y.name.toArray⟩,.int .i64 (y.sx:Nat),.int .i64 (y.sy:Nat),.slice bo m bc] 26):=⟨_,rfl⟩
        rw[← hw]
        obtain ⟨Q,hX⟩:∃ X,X=w5.heap.size:=⟨_,rfl⟩
        rw[← hX]
        have HQ:=newB hw hX
        have C6:=newC hw
        clear hw hX
        have C36:Hid (Chg [] w3 w6):=hd (C5.out.trans C6.out (by simp))
        have q0:=HQ.out.cell (i:=0) rfl
        have q1:=HQ.out.cell (i:=1) rfl
        have q2:=HQ.out.cell (i:=2) rfl
        have q3:=HQ.out.cell (i:=3) rfl
        go_wp2_with fail
        refine hall_r (hd ((HL2.out.quiet C3.out).quiet C36.out)) (Pr.cbH y) bo bc m (hd HM.out.symm) (hd (HRY.out.keep Pr.kq_lv C6.out)) (hd ⟨Pr.i64f HFY.out.2.1,Pr.i64f HFY.out.2.2.1⟩) (by have h9:=HM.out;have h8:=HFY.out.2.2.2.1;simp only[Pr.cbH,List.length_map] at h9;omega) (by have:=HFY.out.1;show y.name.length≤1000;omega) (hd (szL_fine HFY.out)) (fun w7 h7=>?_)
        have C7:Hid (Chg [] w6 w7):=hd h7
        have C37:Hid (Chg [] w3 w7):=hd (C36.out.trans h7 (by simp))
        clear h7 q0 q1 q2 q3
        rw[HSM.out]
        have q0:=(C7.out.blk HQ.out (by simp)).cell (i:=0) rfl
        have q1:=(C7.out.blk HQ.out (by simp)).cell (i:=1) rfl
        have q2:=(C7.out.blk HQ.out (by simp)).cell (i:=2) rfl
        have q3:=(C7.out.blk HQ.out (by simp)).cell (i:=3) rfl
        have g0:=(C37.out.blk HG.out (by simp)).cell (i:=0) rfl
        have g1:=(C37.out.blk HG.out (by simp)).cell (i:=1) rfl
        have g2:=(C37.out.blk HG.out (by simp)).cell (i:=2) rfl
        have g3:=(C37.out.blk HG.out (by simp)).cell (i:=3) rfl
        go_wp2_with fail
        refine sameHall_r (hd (Chg.refl [] w7)) (Pr.cbH y) (Pr.cbH x) bo ao bc cap m n (hd ((HRY.out.keep Pr.kq_lv C6.out).keep Pr.kq_lv C7.out)) (hd ((HRX.out.keep Pr.kq_lv C3.out).keep Pr.kq_lv C37.out)) (fun w8 h8=>?_)
        have C8:=hd h8
        clear h8 q0 q1 q2 q3 g0 g1 g2 g3
        rw[decide_eq_true HZ.out]
        go_wp2_with fail
        go_meet
        exact hd ((C23.out.trans C37.out (by simp)).trans C8.out (by simp))
      rcases Pr.hall_err (Pr.cbH x) he with h1|h1
      · rw[h1]
        clear he h1
        go_wp2_with fail
        go_meet
        exact hd (C23.out.trans C4.out (by simp))
      rw[h1]
      clear he h1
      go_wp2_with fail
      go_meet
      exact hd (C23.out.trans C4.out (by simp))
    have h1:((c:Int) == 0)=false:=by rw[beq_eq_false_iff_ne];omega
    go_wp2_with fail
    go_meet
    exact hd C23.out
  case rest =>
    rename World=>wx
    have CX:Hid (Chg [] w wx):=hcut
    clear hcut
    have h3:=HS.out
    go_wp2_with fail
    refine (parse_specR wx s (by omega)).mono ?_
    rintro e y2 ⟨v,rfl,hl,hc⟩
    have D2:Hid (Chg [] w y2):=hd (CX.out.trans hc (by simp))
    have fx:=Rl.fine_parse s
    obtain ⟨xs,hx⟩:∃ x,x=(Rl.parse s).1:=⟨_,rfl⟩
    obtain ⟨d,hcc⟩:∃ c,c=(Rl.parse s).2.1:=⟨_,rfl⟩
    obtain ⟨pd,hp⟩:∃ p,p=(Rl.parse s).2.2:=⟨_,rfl⟩
    rw[← hx] at hl fx
    rw[← hcc,← hp]
    have RX:=rdF_rules fx hl
    obtain ⟨ro,rc,rfl,_,_⟩:=RX.form
    obtain ⟨k,hk⟩:∃ n,n=(xs.map Pr.cbI).length:=⟨_,rfl⟩
    rw[← hk] at RX ⊢
    have HK:=hd hk
    have HRX:=hd RX
    have HFX:=hd fx
    have HL3:=hd (HL.out.quiet D2.out)
    clear hx hcc hp hl hc fx RX hk h3
    go_upto_if 78 with (fail)
    obtain ⟨y3,hw⟩:∃ W,W=y2.alloc (.cells #[.slice ro k rc] 38):=⟨_,rfl⟩
    rw[← hw]
    obtain ⟨G2,hX⟩:∃ X,X=y2.heap.size:=⟨_,rfl⟩
    rw[← hX]
    have HG2:=newB hw hX
    have D3:=newC hw
    clear hw hX
    by_cases h0:d=0
    · subst h0
      have g0:=HG2.out.cell (i:=0) rfl
      go_wp2_with fail
      refine rules_r (hd (HL3.out.quiet D3.out)) (xs.map Pr.cbI) ro rc k (hd HK.out.symm) (hd (HRX.out.keep Pr.kq_itm D3.out)) (by have h9:=HK.out;have h8:=HFX.out.1;rw[List.length_map] at h9;omega) (hd (szI_fine HFX.out)) (fun y4 h4=>?_)
      have D4:Hid (Chg [] y3 y4):=hd h4
      clear h4 g0
      by_cases he:(Pr.rules (xs.map Pr.cbI)).2=0
      · obtain ⟨t,ht⟩:∃ t,t=(Pr.rules (xs.map Pr.cbI)).1:=⟨_,rfl⟩
        have hh:Pr.rules (xs.map Pr.cbI)=(t,0):=by rw[ht,← he]
        obtain ⟨_,hlen,ys,hy,hz⟩:=Pr.rules_parse hh
        have hzz:(ys.map Pr.cbI).map Pr.zI=(xs.map Pr.cbI).map Pr.zI:=by
          rw[← hz,List.map_map]
          exact List.map_congr_left (fun y _=>Pr.zI_cb y)
        have hsame:Pr.rules (ys.map Pr.cbI)=(t,0):=by rw[← hh];exact Pr.rules_same hzz
        have HZ:=hd hzz
        have HY:=hd hy
        have HSM:=hd hsame
        rw[he,← ht]
        clear ht hh hy hz hzz hsame he
        go_wp2_with fail
        refine (parse_specR y4 t (by omega)).mono ?_
        rintro e y5 ⟨v,rfl,hl,hc⟩
        have D5:Hid (Chg [] y3 y5):=hd (D4.out.trans hc (by simp))
        have fy:=Rl.fine_parse t
        rw[HY.out] at hl fy ⊢
        have RY:=rdF_rules fy hl
        obtain ⟨qo,qc,rfl,_,_⟩:=RY.form
        obtain ⟨m,hm⟩:∃ m,m=(ys.map Pr.cbI).length:=⟨_,rfl⟩
        rw[← hm] at RY ⊢
        have HM:=hd hm
        have HRY:=hd RY
        have HFY:=hd fy
        clear hl hc fy RY hm hlen
        go_upto_region 19 with (fail)
        obtain ⟨y6,hw⟩:∃ W,W=y5.alloc (.cells #[.slice qo m qc] 38):=⟨_,rfl⟩
        rw[← hw]
        obtain ⟨Q2,hX⟩:∃ X,X=y5.heap.size:=⟨_,rfl⟩
        rw[← hX]
        have HQ2:=newB hw hX
        have D6:=newC hw
        clear hw hX
        have D36:Hid (Chg [] y3 y6):=hd (D5.out.trans D6.out (by simp))
        have q0:=HQ2.out.cell (i:=0) rfl
        go_wp2_with fail
        refine rules_r (hd ((HL3.out.quiet D3.out).quiet D36.out)) (ys.map Pr.cbI) qo qc m (hd HM.out.symm) (hd (HRY.out.keep Pr.kq_itm D6.out)) (by have h9:=HM.out;have h8:=HFY.out.1;rw[List.length_map] at h9;omega) (hd (szI_fine HFY.out)) (fun y7 h7=>?_)
        have D7:Hid (Chg [] y6 y7):=hd h7
        have D37:Hid (Chg [] y3 y7):=hd (D36.out.trans h7 (by simp))
        clear h7 q0
        rw[HSM.out]
        have q0:=(D7.out.blk HQ2.out (by simp)).cell (i:=0) rfl
        have g0:=(D37.out.blk HG2.out (by simp)).cell (i:=0) rfl
        go_wp2_with fail
        refine sameRules_r (hd (Chg.refl [] y7)) (ys.map Pr.cbI) (xs.map Pr.cbI) qo ro qc rc m k (hd ((HRY.out.keep Pr.kq_itm D6.out).keep Pr.kq_itm D7.out)) (hd ((HRX.out.keep Pr.kq_itm D3.out).keep Pr.kq_itm D37.out)) (fun y8 h8=>?_)
        have D8:=hd h8
        clear h8 q0 g0
        rw[decide_eq_true HZ.out]
        go_wp2_with fail
        exact HRR.out y8 (((D2.out.trans D3.out (by simp)).trans D37.out (by simp)).trans D8.out (by simp))
      rcases Pr.rules_err _ he with h1|h1
      · rw[h1]
        clear he h1
        go_wp2_with fail
        exact HRR.out y4 ((D2.out.trans D3.out (by simp)).trans D4.out (by simp))
      rw[h1]
      clear he h1
      go_wp2_with fail
      exact HRR.out y4 ((D2.out.trans D3.out (by simp)).trans D4.out (by simp))
    have h1:((d:Int) != 0)=true:=by rw[bne_iff_ne];omega
    go_wp2_with fail
    exact HRR.out y3 (D2.out.trans D3.out (by simp))
end Go.Proofs.YtglepipfdmphhaaGreatDoor
