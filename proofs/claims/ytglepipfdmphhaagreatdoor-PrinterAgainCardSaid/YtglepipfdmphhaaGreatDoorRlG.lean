/-
 Rule, layer 7: allow, plain, price, resale, refund.
-/
import Derived.Test.YtglepipfdmphhaaGreatDoorRlF
set_option maxRecDepth 100000
set_option maxHeartbeats 40000000
namespace Go.Proofs.YtglepipfdmphhaaGreatDoor
set_option linter.unusedVariables false
set_option linter.unusedSimpArgs false
open Go Go.RowKit Go.Shelf
open Lx (Tk)
theorem skip_two {w:World} {b en:Nat} {l:List Tk} (HP:Hid (Par w b l en)) (s:Bytes) {R:Ending→World→Prop}
 (hyes:∀ (r:List Tk) (w':World),Hid (Rl.is 1 (some s) l=true∧r=l.tail∧r <:+ l)→Hid (Par w' b r en)→Hid (Chg [b] w w')→R (.returned (.bool true)) w')
 (hno:∀ (w':World),Hid (Rl.is 1 (some s) l=false)→Hid (Par w' b l en)→Hid (Chg [] w w')→R (.returned (.bool false)) w') :
 Calls Tryz.prog 56 #[.pointer (some ⟨b,0,none⟩),.string ⟨s.toArray⟩] w R:=by
 cases hbo:Rl.is 1 (some s) l with
 | true =>
  cases l with
  | nil=>cases hbo
  | cons t r =>
   refine (skip_yes w b en t r HP s (Lib.hid hbo)).mono ?_
   rintro e w' ⟨rfl,hp,hc⟩
   exact hyes r w' (Lib.hid ⟨hbo,rfl,List.suffix_cons t r⟩) (Lib.hid hp) (Lib.hid hc)
 | false =>
  refine (skip_no w b en l HP s (Lib.hid hbo)).mono ?_
  rintro e w' ⟨rfl,hc⟩
  exact hno w' (Lib.hid hbo) (Lib.hid (HP.out.quiet hc)) (Lib.hid hc)
structure AtI (w W:World) (b X:Nat) (cs:List Value):Prop where
 chg:Chg [b,X] w W
 own:Blk W X cs 69
 hb:b < X
theorem AtI.step {w W W':World} {b X:Nat} {cs:List Value} (h:AtI w W b X cs) (hc:Chg [b] W W'):AtI w W' b X cs :=
 ⟨h.chg.trans hc (fun k hk=>.inl (by simp at hk;simp[hk])),hc.blk h.own (by have:=h.hb;simp;omega),h.hb⟩
theorem AtI.quiet {w W W':World} {b X:Nat} {cs:List Value} (h:AtI w W b X cs) (hc:Chg [] W W'):AtI w W' b X cs:=h.step (hc.mono (by simp))
theorem AtI.put {w W:World} {b X:Nat} {cs:List Value} (h:AtI w W b X cs) (i:Nat) (v:Value):AtI w (W.setCell ⟨X,i,none⟩ v) b X (cs.set i v) :=
 ⟨h.chg.setCell _ _ (.inl (by simp)),h.own.set i v,h.hb⟩
theorem AtI.par {w W:World} {b X en i:Nat} {cs:List Value} {l:List Tk} {v:Value} (h:AtI w W b X cs) (hp:Par W b l en):Par (W.setCell ⟨X,i,none⟩ v) b l en:=hp.setCell h.hb
def itmc (k nm wv:Value) (n r1 r2 s1 s2:Nat) (at_:Value):List Value:=[k,nm,wv,.int .i64 (n:Nat),.int .i64 (r1:Nat),.int .i64 (r2:Nat),.int .i64 (s1:Nat),.int .i64 (s2:Nat),at_]
def RRes (w:World) (b X en:Nat) (k nm wv at_:Value) (o:Rl.Out Rl.Rest) (e:Ending) (w':World):Prop :=
 match o with
 | .ok a r=>e = .returned (.tuple #[])∧AtI w w' b X (itmc k nm wv a.1 a.2.1.1 a.2.1.2 a.2.2.1 a.2.2.2 at_)∧Par w' b r en
 | .bad c r=>e = .panicked [{ v:=fltR c r en,recovered:=false }]∧Chg [b,X] w w'
theorem rok {w w':World} {b X en:Nat} {k nm wv at_:Value} {O:Rl.Out Rl.Rest} {n r1 r2 s1 s2:Nat} {r:List Tk} (h:O = .ok (n,(r1,r2),(s1,s2)) r) (ha:AtI w w' b X (itmc k nm wv n r1 r2 s1 s2 at_)) (hp:Par w' b r en):RRes w b X en k nm wv at_ O (.returned (.tuple #[])) w':=by
 subst h
 exact ⟨rfl,ha,hp⟩
theorem rbad {w w':World} {b X en:Nat} {k nm wv at_:Value} {O:Rl.Out Rl.Rest} {c:Nat} {r:List Tk} (h:O = .bad c r) (hc:Chg [b,X] w w'):RRes w b X en k nm wv at_ O (.panicked [{ v:=fltR c r en,recovered:=false }]) w':=by
 subst h
 exact ⟨rfl,hc⟩
theorem plain_spec (w:World) (b X en:Nat) (l:List Tk) (k nm wv at_:Value) (HP:Hid (Par w b l en)) (HX:Hid (AtI w w b X (itmc k nm wv 0 0 0 0 0 at_))) :
 Calls Tryz.prog 50 #[.pointer (some ⟨b,0,none⟩),.pointer (some ⟨X,0,none⟩)] w fun e w'=>RRes w b X en k nm wv at_ (.ok (0,(0,0),(0,0)) l) e w':=by
 go_enter Tryz.func50,Tryz.ntmps50
 go_wp2_with fail
 go_end0
 exact rok rfl HX.out HP.out
theorem allow_spec (w:World) (b X en:Nat) (l:List Tk) (k nm wv at_:Value) (HP:Hid (Par w b l en)) (HX:Hid (AtI w w b X (itmc k nm wv 0 0 0 0 0 at_))) :
 Calls Tryz.prog 49 #[.pointer (some ⟨b,0,none⟩),.pointer (some ⟨X,0,none⟩)] w fun e w'=>RRes w b X en k nm wv at_ (Rl.allow l) e w':=by
 obtain ⟨O,hO⟩:∃ O,O=Rl.allow l:=⟨_,rfl⟩
 rw[← hO]
 have HO:=Lib.hid hO
 clear hO
 have hf2:=fld2
 go_enter Tryz.func49,Tryz.ntmps49
 go_wp2_with fail
 refine skip_two HP Rl.wLimit (fun r w1 HB HP1 HC1=>?_) (fun w1 HB HP1 HC1=>?_)
 · have HX1:=Lib.hid (HX.out.step HC1.out)
   have HO1:Hid (O=(Rl.nxt 2 none r).bind fun n r=>.ok (n.n,(0,0),(0,0)) r):=Lib.hid (by rw[HO.out];unfold Rl.allow;rw[if_pos HB.out.1,HB.out.2.1])
   go_wp2_with fail
   refine next_two HP1 (Lib.hid (TxtV.nil _)) (fun t r2 w2 HN2 HP2 HC2=>?_) (fun c r2 w2 HN2 HC2=>?_)
   · have HX2:=Lib.hid (HX1.out.step HC2.out)
     have y3:=HX2.out.own.cell (i:=3) rfl
     have g3:=HX2.out.own.free 3
     go_wp2_with fail
     go_end0
     exact rok (by rw[HO1.out,HN2.out];rfl) (HX2.out.put 3 _) (HX2.out.par HP2.out)
   go_wp2_with fail
   exact ⟨rfl,rbad (by rw[HO1.out,HN2.out];rfl) (HX1.out.step HC2.out).chg⟩
 have HX1:=Lib.hid (HX.out.quiet HC1.out)
 go_wp2_with fail
 go_end0
 exact rok (by rw[HO.out];unfold Rl.allow;rw[if_neg (by rw[HB.out];simp)]) HX1.out HP1.out
theorem refund_spec (w:World) (b X en:Nat) (l:List Tk) (k nm wv at_:Value) (HP:Hid (Par w b l en)) (HX:Hid (AtI w w b X (itmc k nm wv 0 0 0 0 0 at_))) :
 Calls Tryz.prog 53 #[.pointer (some ⟨b,0,none⟩),.pointer (some ⟨X,0,none⟩)] w fun e w'=>RRes w b X en k nm wv at_ (Rl.refund l) e w':=by
 obtain ⟨O,hO⟩:∃ O,O=Rl.refund l:=⟨_,rfl⟩
 rw[← hO]
 have HO:=Lib.hid hO
 clear hO
 go_enter Tryz.func53,Tryz.ntmps53
 go_wp2_with fail
 refine ratio_two HP (fun n d r w1 HN1 HP1 HC1=>?_) (fun c r w1 HN1 HC1=>?_)
 · have HX2:=Lib.hid (HX.out.step HC1.out)
   have y4:=HX2.out.own.cell (i:=4) rfl
   have g4:=HX2.out.own.free 4
   have y5:=HX2.out.own.cell (i:=5) rfl
   have g5:=HX2.out.own.free 5
   go_wp2_with fail
   go_end0
   exact rok (by rw[HO.out];unfold Rl.refund;rw[HN1.out];rfl) ((HX2.out.put 4 _).put 5 _) ((HX2.out.put 4 _).par (HX2.out.par HP1.out))
 go_wp2_with fail
 exact ⟨rfl,rbad (by rw[HO.out];unfold Rl.refund;rw[HN1.out];rfl) (HX.out.step HC1.out).chg⟩
theorem resale_spec (w:World) (b X en:Nat) (l:List Tk) (k nm wv at_:Value) (HP:Hid (Par w b l en)) (HX:Hid (AtI w w b X (itmc k nm wv 0 0 0 0 0 at_))) :
 Calls Tryz.prog 52 #[.pointer (some ⟨b,0,none⟩),.pointer (some ⟨X,0,none⟩)] w fun e w'=>RRes w b X en k nm wv at_ (Rl.resale l) e w':=by
 obtain ⟨O,hO⟩:∃ O,O=Rl.resale l:=⟨_,rfl⟩
 rw[← hO]
 have HO:=Lib.hid hO
 clear hO
 go_enter Tryz.func52,Tryz.ntmps52
 go_wp2_with fail
 refine after_two HP Rl.wCap (fun n d r w1 HN1 HP1 HC1=>?_) (fun c r w1 HN1 HC1=>?_)
 · have HX1:=Lib.hid (HX.out.step HC1.out)
   go_wp2_with fail
   refine after_two HP1 Rl.wShare (fun n2 d2 r2 w2 HN2 HP2 HC2=>?_) (fun c r2 w2 HN2 HC2=>?_)
   · have HX2:=Lib.hid (HX1.out.step HC2.out)
     have y4:=HX2.out.own.cell (i:=4) rfl
     have g4:=HX2.out.own.free 4
     have y5:=HX2.out.own.cell (i:=5) rfl
     have g5:=HX2.out.own.free 5
     have y6:=HX2.out.own.cell (i:=6) rfl
     have g6:=HX2.out.own.free 6
     have y7:=HX2.out.own.cell (i:=7) rfl
     have g7:=HX2.out.own.free 7
     go_wp2_with fail
     go_end0
     exact rok (by rw[HO.out];unfold Rl.resale;rw[HN1.out];simp only[Rl.Out.bind];rw[HN2.out]) ((((HX2.out.put 4 _).put 5 _).put 6 _).put 7 _) ((((HX2.out.put 4 _).put 5 _).put 6 _).par (((HX2.out.put 4 _).put 5 _).par ((HX2.out.put 4 _).par (HX2.out.par HP2.out))))
   go_wp2_with fail
   exact ⟨rfl,rbad (by rw[HO.out];unfold Rl.resale;rw[HN1.out];simp only[Rl.Out.bind];rw[HN2.out]) (HX1.out.step HC2.out).chg⟩
 go_wp2_with fail
 exact ⟨rfl,rbad (by rw[HO.out];unfold Rl.resale;rw[HN1.out];rfl) (HX.out.step HC1.out).chg⟩
theorem mRlG0 {G:Prop} (h:G:=by
  go_wp2_with fail
  refine ratio_two HP6 (fun n2 d2 q4 w7 HN7 HP7 HC7=>?_) (fun c r7 w7 HN7 HC7=>?_)
  · have HX7:=Lib.hid (HX6.out.step HC7.out)
    have y6:=HX7.out.own.cell (i:=6) rfl
    have g6:=HX7.out.own.free 6
    have y7:=HX7.out.own.cell (i:=7) rfl
    have g7:=HX7.out.own.free 7
    go_wp2_with fail
    go_end0
    exact rok (by rw[HO6.out,HN7.out];rfl) ((HX7.out.put 6 _).put 7 _) ((HX7.out.put 6 _).par (HX7.out.par HP7.out))
  go_wp2_with fail
  exact ⟨rfl,rbad (by rw[HO6.out,HN7.out];rfl) (HX6.out.step HC7.out).chg⟩):G:=h
theorem price_spec (w:World) (b X en:Nat) (l:List Tk) (k nm wv at_:Value) (HP:Hid (Par w b l en)) (HX:Hid (AtI w w b X (itmc k nm wv 0 0 0 0 0 at_))) :
 Calls Tryz.prog 51 #[.pointer (some ⟨b,0,none⟩),.pointer (some ⟨X,0,none⟩)] w fun e w'=>RRes w b X en k nm wv at_ (Rl.price l) e w':=by
 obtain ⟨O,hO⟩:∃ O,O=Rl.price l:=⟨_,rfl⟩
 rw[← hO]
 have HO:=Lib.hid hO
 clear hO
 have hf2:=fld2
 go_enter Tryz.func51,Tryz.ntmps51
 go_wp2_with fail
 refine next_two HP (Lib.hid (TxtV.nil _)) (fun t r w1 HN1 HP1 HC1=>?_) (fun c r w1 HN1 HC1=>?_)
 · have HX1:=Lib.hid (HX.out.step HC1.out)
   have HO1:Hid (O=(Rl.opt Rl.wFee r).bind fun r2 l2=>(Rl.opt Rl.wTax l2).bind fun s l3=>.ok (t.n,r2,s) l3):=Lib.hid (by rw[HO.out];unfold Rl.price;rw[HN1.out];rfl)
   have y3:=HX1.out.own.cell (i:=3) rfl
   have g3:=HX1.out.own.free 3
   have y4:=HX1.out.own.cell (i:=4) rfl
   have g4:=HX1.out.own.free 4
   have y5:=HX1.out.own.cell (i:=5) rfl
   have g5:=HX1.out.own.free 5
   have y6:=HX1.out.own.cell (i:=6) rfl
   have g6:=HX1.out.own.free 6
   have y7:=HX1.out.own.cell (i:=7) rfl
   have g7:=HX1.out.own.free 7
   go_upto_region 2 with fail
   obtain ⟨W2,hW⟩:∃ W2,W2=((((w1.setCell ⟨X,3,none⟩ (.int .i64 (t.n:Nat))).setCell ⟨X,4,none⟩ (.int .i64 0)).setCell ⟨X,5,none⟩ (.int .i64 1)).setCell ⟨X,6,none⟩ (.int .i64 0)).setCell ⟨X,7,none⟩ (.int .i64 1):=⟨_,rfl⟩
   rw[← hW]
   have HX2:Hid (AtI w W2 b X (itmc k nm wv t.n 0 1 0 1 at_)):=Lib.hid (by rw[hW];exact ((((HX1.out.put 3 _).put 4 _).put 5 _).put 6 _).put 7 _)
   have HP2:Hid (Par W2 b r en):=Lib.hid (by rw[hW];exact (((((HP1.out.setCell HX1.out.hb).setCell HX1.out.hb).setCell HX1.out.hb).setCell HX1.out.hb).setCell HX1.out.hb))
   clear hW y3 g3 y4 g4 y5 g5 y6 g6 y7 g7
   go_wp2_with fail
   refine skip_two HP2 Rl.wFee (fun q w3 HB HP3 HC3=>?_) (fun w3 HB HP3 HC3=>?_)
   · have HX3:=Lib.hid (HX2.out.step HC3.out)
     have HO2:Hid (O=(Rl.ratio q).bind fun r2 l2=>(Rl.opt Rl.wTax l2).bind fun s l3=>.ok (t.n,r2,s) l3):=Lib.hid (by rw[HO1.out];unfold Rl.opt;rw[if_pos HB.out.1,HB.out.2.1])
     go_wp2_with fail
     refine ratio_two HP3 (fun n d q2 w4 HN4 HP4 HC4=>?_) (fun c r4 w4 HN4 HC4=>?_)
     · have HX4:=Lib.hid (HX3.out.step HC4.out)
       have y4:=HX4.out.own.cell (i:=4) rfl
       have g4:=HX4.out.own.free 4
       have y5:=HX4.out.own.cell (i:=5) rfl
       have g5:=HX4.out.own.free 5
       go_upto_region 4 with fail
       obtain ⟨W5,hW⟩:∃ W5,W5=(w4.setCell ⟨X,4,none⟩ (.int .i64 (n:Nat))).setCell ⟨X,5,none⟩ (.int .i64 (d:Nat)):=⟨_,rfl⟩
       rw[← hW]
       have HX5:Hid (AtI w W5 b X (itmc k nm wv t.n n d 0 1 at_)):=Lib.hid (by rw[hW];exact (HX4.out.put 4 _).put 5 _)
       have HP5:Hid (Par W5 b q2 en):=Lib.hid (by rw[hW];exact (HP4.out.setCell HX1.out.hb).setCell HX1.out.hb)
       have HO5:Hid (O=(Rl.opt Rl.wTax q2).bind fun s l3=>.ok (t.n,(n,d),s) l3):=Lib.hid (by rw[HO2.out,HN4.out];rfl)
       clear hW y4 g4 y5 g5
       go_wp2_with fail
       refine skip_two HP5 Rl.wTax (fun q3 w6 HB6 HP6 HC6=>?_) (fun w6 HB6 HP6 HC6=>?_)
       · have HX6:=Lib.hid (HX5.out.step HC6.out)
         have HO6:Hid (O=(Rl.ratio q3).bind fun s l3=>.ok (t.n,(n,d),s) l3):=Lib.hid (by rw[HO5.out];unfold Rl.opt;rw[if_pos HB6.out.1,HB6.out.2.1])
         exact mRlG0
       have HX6:=Lib.hid (HX5.out.quiet HC6.out)
       go_wp2_with fail
       go_end0
       exact rok (by rw[HO5.out];unfold Rl.opt;rw[if_neg (by rw[HB6.out];simp)];rfl) HX6.out HP6.out
     go_wp2_with fail
     exact ⟨rfl,rbad (by rw[HO2.out,HN4.out];rfl) (HX3.out.step HC4.out).chg⟩
   have HX5:Hid (AtI w w3 b X (itmc k nm wv t.n 0 1 0 1 at_)):=Lib.hid (HX2.out.quiet HC3.out)
   have HP5:=HP3
   have HO5:Hid (O=(Rl.opt Rl.wTax r).bind fun s l3=>.ok (t.n,(0,1),s) l3):=Lib.hid (by rw[HO1.out];unfold Rl.opt;rw[if_neg (by rw[HB.out];simp)];rfl)
   go_wp2_with fail
   refine skip_two HP5 Rl.wTax (fun q3 w6 HB6 HP6 HC6=>?_) (fun w6 HB6 HP6 HC6=>?_)
   · have HX6:=Lib.hid (HX5.out.step HC6.out)
     have HO6:Hid (O=(Rl.ratio q3).bind fun s l3=>.ok (t.n,(0,1),s) l3):=Lib.hid (by rw[HO5.out];unfold Rl.opt;rw[if_pos HB6.out.1,HB6.out.2.1])
     exact mRlG0
   have HX6:=Lib.hid (HX5.out.quiet HC6.out)
   go_wp2_with fail
   go_end0
   exact rok (by rw[HO5.out];unfold Rl.opt;rw[if_neg (by rw[HB6.out];simp)];rfl) HX6.out HP6.out
 go_wp2_with fail
 exact ⟨rfl,rbad (by rw[HO.out];unfold Rl.price;rw[HN1.out];rfl) (HX.out.step HC1.out).chg⟩
def restF (k:Nat):FuncId:=if k=1 then 49 else if k=3 then 51 else if k=4 then 52 else if k=5 then 53 else 50
theorem rest_spec (kd:Nat) (w:World) (b X en:Nat) (l:List Tk) (k nm wv at_:Value) (HP:Hid (Par w b l en)) (HX:Hid (AtI w w b X (itmc k nm wv 0 0 0 0 0 at_))) :
 Calls Tryz.prog (restF kd) #[.pointer (some ⟨b,0,none⟩),.pointer (some ⟨X,0,none⟩)] w fun e w'=>RRes w b X en k nm wv at_ (Rl.rest kd l) e w':=by
 unfold restF Rl.rest
 by_cases h1:kd=1
 · rw[if_pos h1,if_pos h1];exact allow_spec w b X en l k nm wv at_ HP HX
 rw[if_neg h1,if_neg h1]
 by_cases h3:kd=3
 · rw[if_pos h3,if_pos h3];exact price_spec w b X en l k nm wv at_ HP HX
 rw[if_neg h3,if_neg h3]
 by_cases h4:kd=4
 · rw[if_pos h4,if_pos h4];exact resale_spec w b X en l k nm wv at_ HP HX
 rw[if_neg h4,if_neg h4]
 by_cases h5:kd=5
 · rw[if_pos h5,if_pos h5];exact refund_spec w b X en l k nm wv at_ HP HX
 rw[if_neg h5,if_neg h5];exact plain_spec w b X en l k nm wv at_ HP HX
theorem rest_two {w:World} {b X en:Nat} {l:List Tk} {k nm wv at_:Value} (kd:Nat) (HP:Hid (Par w b l en)) (HX:Hid (AtI w w b X (itmc k nm wv 0 0 0 0 0 at_))) {R:Ending→World→Prop}
 (hok:∀ (n r1 r2 s1 s2:Nat) (r:List Tk) (w':World),Hid (Rl.rest kd l = .ok (n,(r1,r2),(s1,s2)) r)→Hid (Par w' b r en)→Hid (AtI w w' b X (itmc k nm wv n r1 r2 s1 s2 at_))→R (.returned (.tuple #[])) w')
 (hbad:∀ (c:Nat) (r:List Tk) (w':World),Hid (Rl.rest kd l = .bad c r)→Hid (Chg [b,X] w w')→R (.panicked [{ v:=fltR c r en,recovered:=false }]) w') :
 Calls Tryz.prog (restF kd) #[.pointer (some ⟨b,0,none⟩),.pointer (some ⟨X,0,none⟩)] w R:=by
 refine (rest_spec kd w b X en l k nm wv at_ HP HX).mono ?_
 rintro e w' h
 cases hr:Rl.rest kd l with
 | ok a r =>
  rw[hr] at h
  obtain ⟨rfl,ha,hp⟩:=h
  obtain ⟨n,⟨r1,r2⟩,⟨s1,s2⟩⟩:=a
  exact hok n r1 r2 s1 s2 r w' (Lib.hid hr) (Lib.hid hp) (Lib.hid ha)
 | bad c r =>
  rw[hr] at h
  obtain ⟨rfl,hc⟩:=h
  exact hbad c r w' (Lib.hid hr) (Lib.hid hc)
end Go.Proofs.YtglepipfdmphhaaGreatDoor
