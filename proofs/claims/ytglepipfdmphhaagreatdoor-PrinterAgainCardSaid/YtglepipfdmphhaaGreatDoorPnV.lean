/-
 Plan, layer 21: Parse. Printed by genpnv06.py.
-/
import Derived.Test.YtglepipfdmphhaaGreatDoorPnSU
set_option maxRecDepth 100000
set_option maxHeartbeats 40000000
namespace Go.Proofs.YtglepipfdmphhaaGreatDoor
set_option linter.unusedVariables false
set_option linter.unusedSimpArgs false
open Go Go.RowKit Go.Shelf
open Lx (Tk)
attribute [local go_sem ↓] Go.wp_at_zero Go.wp_at_succ
attribute [local irreducible] Go.wpStill
theorem info_level:(Tryz.prog.info? 61).map (fun i=>(i.zero,i.size,i.bytes))=some (some (.agg #[.string ⟨#[]⟩,.int .i64 0,.slice none 0 0,.slice none 0 0,.slice none 0 0,.slice none 0 0,.slice none 0 0,.int .i64 0]),8,152):=by kernel_rfl
theorem mPnV0 {G:Prop} (h:G:=by
  try simp only[qq]
  refine rd1 7 (fun K hK=>?_)
  have e0:=HS8.out.1.cell (i:=0) rfl
  have e1:=HS8.out.1.cell (i:=1) rfl
  have e2:=HS8.out.1.cell (i:=2) rfl
  have e3:=HS8.out.1.cell (i:=3) rfl
  have e4:=HS8.out.1.free 3
  go_simp
  refine hK.out _ _ trivial (fun _=>?_)
  clear hK K
  try simp only[qq]
  clear e0 e1 e2 e3 e4
  obtain ⟨wz,hwz⟩:∃ wz,wz=v8.setCell ⟨b2,3,none⟩ (.slice lo8 (ls.length+1) lc8):=⟨_,rfl⟩
  rw[← hwz]
  have HSZ:Hid (Hs w w3 wz b2 b3 b4 pb s.length er at9 [.string ⟨t2.text.toArray⟩,.int .i64 (x4:Nat),.int .i64 (y4:Nat),.slice lo8 (ls++[x]).length lc8] r9):=hd (by rw[hwz,List.length_append];exact HS8.out.put 3 _)
  have HLZ:Hid (ListS (pb+1) 61 8 (Clv (pb+1)) (ls++[x]) (.slice lo8 (ls++[x]).length lc8) wz):=hd (by rw[hwz,List.length_append];exact HL8.out.keep (kp_lv _) (own:=[b2]) ((Chg.refl _ _).setCell _ _ (.inl (by simp))) (TyB.lower (by intro z hz;simp only[List.mem_cons,List.not_mem_nil,or_false] at hz;have:=HSX.out.2.2.2.2.2.2;omega) _))
  clear hwz
  refine dq ?_
  have hel:=Pn.eat_level _ _ _ HMx.out
  have HMU:Hid (leftP pb wz < leftP pb wo):=hd (by rw[left_pp HSZ.out.2.2.2.1,left_pp HSQ.out.2.2.2.1];omega)
  have HQ9:Hid ((ls++[x]).length+r9.length≤5000):=hd (by have h2:=HQ.out;simp only[List.length_append,List.length_singleton];omega)
  clear hel
  go_wp2_with fail
  refine ⟨?_,HMU.out⟩
  first|exact ⟨ls++[x],r9,k - 1,lo8,lc8,HSZ,HLZ,hd (linv_step HLI.out HSF.out Pn.eat_level HMx.out),HQ9⟩|((repeat apply Exists.intro);exact ⟨⟨ls++[x],r9,k - 1,lo8,lc8,HSZ,HLZ,hd (linv_step HLI.out HSF.out Pn.eat_level HMx.out),HQ9⟩,rfl⟩)):G:=h
theorem parse_spec (w:World) (s:Bytes) (hs:s.length≤1000000):Calls Tryz.prog 8 #[.string ⟨s.toArray⟩] w (Parsed w (Pn.parse s)):=by
 obtain ⟨il,hil,lz0,lz1,lz2⟩:=info_parts info_level
 go_enter_defers Tryz.func8,Tryz.ntmps8
 have hmf:∀ (fn:Fn) (first cap:Array Value) (w:World),(Instr.makeFunc fn first cap).run Tryz.prog w = .ok (.func fn first cap) w:=fun _ _ _ _=>rfl
 go_upto_region 1 with fail
 obtain ⟨W,hW⟩:∃ W,W=((w.alloc (.cells #[.string ⟨#[]⟩,.int .i64 0,.int .i64 0,.slice none 0 0] 26)).alloc (.cells #[.int .i64 0] 29)).alloc (.cells #[.int .i64 0] 3):=⟨_,rfl⟩
 rw[← hW]
 obtain ⟨b2,hb2⟩:∃ b,b=w.heap.size:=⟨_,rfl⟩
 obtain ⟨b3,hb3⟩:∃ b,b=w.heap.size+1:=⟨_,rfl⟩
 obtain ⟨b4,hb4⟩:∃ b,b=w.heap.size+1+1:=⟨_,rfl⟩
 rw[← hb4,← hb3,← hb2]
 have HC0:Hid (Chg [] w W):=hd (by rw[hW];exact (((Chg.refl _ _).alloc _).alloc _).alloc _)
 have HK2:Hid (Blk W b2 [.string ⟨#[]⟩,.int .i64 0,.int .i64 0,.slice none 0 0] 26):=hd (by rw[hW,hb2];exact ((Blk.new w _ _).alloc _).alloc _)
 have HK3:Hid (Blk W b3 [.int .i64 0] 29):=hd (by rw[hW,hb3];have:=(Blk.new (w.alloc (.cells #[.string ⟨#[]⟩,.int .i64 0,.int .i64 0,.slice none 0 0] 26)) [.int .i64 0] 29).alloc (.cells #[.int .i64 0] 3);simpa using this)
 have HK4:Hid (Blk W b4 [.int .i64 0] 3):=hd (by rw[hW,hb4];have:=(Blk.new ((w.alloc (.cells #[.string ⟨#[]⟩,.int .i64 0,.int .i64 0,.slice none 0 0] 26)).alloc (.cells #[.int .i64 0] 29)) [.int .i64 0] 3);simpa using this)
 have HN:Hid (b2=w.heap.size∧b3=w.heap.size+1∧b4=w.heap.size+2):=hd ⟨hb2,hb3,by omega⟩
 have n32:¬ b3=b2:=by omega
 have n42:¬ b4=b2:=by omega
 have n43:¬ b4=b3:=by omega
 have n23:¬ b2=b3:=by omega
 have n24:¬ b2=b4:=by omega
 have n34:¬ b3=b4:=by omega
 clear hW hb2 hb3 hb4
 go_wp2_with fail
 refine (lex_spec _ s (by omega)).mono ?_
 rintro e w1 ⟨v,rfl,htk,hc1⟩
 have HT:=hd htk
 have HC1:=hd hc1
 have HK21:=hd (hc1.blk HK2.out (by simp))
 have HK31:=hd (hc1.blk HK3.out (by simp))
 have HK41:=hd (hc1.blk HK4.out (by simp))
 clear htk hc1
 obtain ⟨er,her⟩:∃ er,(Lx.lex s).2.1=er:=⟨_,rfl⟩
 obtain ⟨at9,hat⟩:∃ at9,(Lx.lex s).2.2=at9:=⟨_,rfl⟩
 rw[her,hat]
 have HER:=hd her
 have HAT:=hd hat
 clear her hat
 have y3:=HK31.out.cell (i:=0) rfl
 have y4:=HK41.out.cell (i:=0) rfl
 have z3:=HK31.out.free 0
 have z4:=HK41.out.free 0
 by_cases h0:er=0
 · have n0:((er:Int) != 0)=false:=by subst h0;rfl
   have H0:Hid ((Lx.lex s).2.1=0):=hd (HER.out.trans h0)
   clear h0
   go_upto_region 4 with fail
   obtain ⟨w2,hw2⟩:∃ w2,w2=(w1.setCell ⟨b3,0,none⟩ (.int .i64 (er:Nat))).setCell ⟨b4,0,none⟩ (.int .i64 at9):=⟨_,rfl⟩
   rw[← hw2]
   have HCC:Hid (Chg [b3,b4] w1 w2):=hd (by rw[hw2];exact ((Chg.refl _ _).setCell _ _ (.inl (by simp))).setCell _ _ (.inl (by simp)))
   have HB2:Hid (Blk w2 b2 [.string ⟨#[]⟩,.int .i64 0,.int .i64 0,.slice none 0 0] 26):=hd (by rw[hw2];exact (HK21.out.other _ _ n23).other _ _ n24)
   have HB3:Hid (Blk w2 b3 [.int .i64 (er:Nat)] 29):=hd (by rw[hw2];exact (HK31.out.set 0 _).other _ _ n34)
   have HB4:Hid (Blk w2 b4 [.int .i64 at9] 3):=hd (by rw[hw2];exact (HK41.out.other _ _ n43).set 0 _)
   have HC2:Hid (Chg [] w w2):=hd ((HC0.out.trans HC1.out (by simp)).trans HCC.out (fun k hk=>.inr (by simp at hk;have:=HN.out;omega)))
   have HT2:Hid (TokS w2 v (Lx.lex s).1):=hd (toks_apart HT.out HCC.out (fun k hk=>by simp at hk;rcases hk with rfl|rfl;exact ⟨_,_,HK31.out⟩;exact ⟨_,_,HK41.out⟩))
   clear hw2 y3 y4 z3 z4
   obtain ⟨ao0,cap0,hv⟩:=HT2.out.frm
   obtain ⟨m,hm⟩:∃ m,(Lx.lex s).1.length=m:=⟨_,rfl⟩
   rw[hm] at hv
   have HM:=hd hm
   subst hv
   clear hm
   go_upto_region 6 with fail
   obtain ⟨w3,hw3⟩:∃ w3,w3=w2.alloc (.cells #[.slice ao0 m cap0,.int .i64 0,.int .i64 (s.length:Nat)] 90):=⟨_,rfl⟩
   obtain ⟨pb,hpb⟩:∃ pb,pb=w2.heap.size:=⟨_,rfl⟩
   rw[← hw3,← hpb]
   have HS0:Hid (Hs w w3 w3 b2 b3 b4 pb s.length er at9 [.string ⟨#[]⟩,.int .i64 0,.int .i64 0,.slice none 0 0] (Lx.lex s).1):=hd (by
    have hb:=Blk.new w2 [.slice ao0 m cap0,.int .i64 0,.int .i64 (s.length:Nat)] 90
    rw[← hw3,← hpb] at hb
    have h1:=HN.out
    have h2:=HB4.out.lt
    refine ⟨by rw[hw3];exact HB2.out.alloc _,by rw[hw3];exact HB3.out.alloc _,by rw[hw3];exact HB4.out.alloc _,⟨(Lx.lex s).1,0,ao0,cap0,rfl,Nat.zero_le _,by have:=Lx.lex_len s;omega,by rw[HM.out];exact hb,?_,?_⟩,by rw[hw3];exact HC2.out.alloc _,Chg.refl _ _,h1.1,h1.2.1,h1.2.2,by omega,by rw[hw3,hpb];simp⟩
    · rw[HM.out]
      have:=HT2.out.quiet ((Chg.refl [] w2).alloc (.cells #[.slice ao0 m cap0,.int .i64 0,.int .i64 (s.length:Nat)] 90))
      rwa [← hw3] at this
    intro hne ad had
    obtain ⟨g,off,h3,h4⟩:=toks_lt HT2.out hne
    rw[h3] at had
    cases had
    rw[hpb]
    exact h4)
   have HO0:Hid (Pn.hall (Lx.lex s).1=_):=hd (Pn.hall.eq_1 _)
   clear hw3 hpb
   go_wp2_with fail
   refine must_two (hd HS0.out.2.2.2.1) [104,97,108,108] (fun r1 w1' HM1 HP1 HC1=>?_) (fun c r wb HMb HCb=>?_)
   rotate_left
   · go_wp2_with fail
     exact HS0.out.pan HCb.out (.inl rfl) H0.out (bad5 HO0.out HMb.out) rfl rfl rfl
   have HS1:Hid (Hs w w3 w1' b2 b3 b4 pb s.length er at9 [.string ⟨#[]⟩,.int .i64 0,.int .i64 0,.slice none 0 0] r1):=hd (HS0.out.call HP1.out HC1.out)
   have HO1:=hd (good5 HO0.out HM1.out)
   go_wp2_with fail
   refine take_two (hd HS1.out.2.2.2.1) 1 (fun t2 r2 w2' HM2 HP2 HC2'=>?_) (fun c r wb HMb HCb=>?_)
   rotate_left
   · go_wp2_with fail
     exact HS1.out.pan HCb.out (.inl rfl) H0.out (bad5 HO1.out (name_bad HMb.out)) rfl rfl rfl
   have HS2:Hid (Hs w w3 w2' b2 b3 b4 pb s.length er at9 [.string ⟨#[]⟩,.int .i64 0,.int .i64 0,.slice none 0 0] r2):=hd (HS1.out.call HP2.out HC2'.out)
   have HO2:=hd (good5 HO1.out (name_ok HM2.out))
   have hf2:=fun W=>field_text (.int .i64 (t2.kind:Nat)) (.string ⟨t2.text.toArray⟩) (.int .i64 (t2.n:Nat)) (.int .i64 (t2.at_:Nat)) W
   have e0:=HS2.out.1.cell (i:=0) rfl
   have e1:=HS2.out.1.cell (i:=1) rfl
   have e2:=HS2.out.1.cell (i:=2) rfl
   have e3:=HS2.out.1.cell (i:=3) rfl
   have e4:=HS2.out.1.free 0
   go_upto_region 8 with fail
   clear hf2 e0 e1 e2 e3 e4
   obtain ⟨w4,hw4⟩:∃ W,W=w2'.setCell ⟨b2,0,none⟩ (.string ⟨t2.text.toArray⟩):=⟨_,rfl⟩
   rw[← hw4]
   have HS2a:Hid (Hs w w3 w4 b2 b3 b4 pb s.length er at9 [.string ⟨t2.text.toArray⟩,.int .i64 0,.int .i64 0,.slice none 0 0] r2):=hd (by rw[hw4];exact HS2.out.put 0 _)
   clear hw4
   go_wp2_with fail
   refine must_two (hd HS2a.out.2.2.2.1) [115,116,97,103,101] (fun r3 w3' HM3 HP3 HC3=>?_) (fun c r wb HMb HCb=>?_)
   rotate_left
   · go_wp2_with fail
     exact HS2a.out.pan HCb.out (.inl rfl) H0.out (bad5 HO2.out HMb.out) rfl rfl rfl
   have HS3:Hid (Hs w w3 w3' b2 b3 b4 pb s.length er at9 [.string ⟨t2.text.toArray⟩,.int .i64 0,.int .i64 0,.slice none 0 0] r3):=hd (HS2a.out.call HP3.out HC3.out)
   have HO3:=hd (good5 HO2.out HM3.out)
   go_wp2_with fail
   obtain ⟨w5,hw5⟩:∃ W,W=w3'.alloc (.cells #[.pointer (some ⟨b2,1,none⟩),.pointer (some ⟨b2,2,none⟩)] 96):=⟨_,rfl⟩
   obtain ⟨g5,hg5⟩:∃ g,g=w3'.heap.size:=⟨_,rfl⟩
   rw[← hw5,← hg5]
   have HG5:=newB hw5 hg5
   have HS3a:Hid (Hs w w3 w5 b2 b3 b4 pb s.length er at9 [.string ⟨t2.text.toArray⟩,.int .i64 0,.int .i64 0,.slice none 0 0] r3):=hd (HS3.out.quiet (by rw[hw5];exact (Chg.refl _ _).alloc _))
   have HN5:Hid (b2≠pb∧g5≠pb∧g5≠b2):=hd (by have h1:=HS3.out.2.2.2.1.lt;have h2:=HS3.out.2.2.2.2.2.2;omega)
   clear hw5 hg5
   refine stage_two (hd HS3a.out.2.2.2.1) HG5 (hd HS3a.out.1) HN5 (fun x4 y4 r4 w6 HM4 HP4 HD4 HC4=>?_) (fun c r wb HMb HCb HBb=>?_)
   rotate_left
   · go_wp2_with fail
     exact HS3a.out.pan2 HCb.out HBb.out H0.out (bad5 HO3.out HMb.out) rfl rfl rfl
   have HS4:Hid (Hs w w3 w6 b2 b3 b4 pb s.length er at9 [.string ⟨t2.text.toArray⟩,.int .i64 (x4:Nat),.int .i64 (y4:Nat),.slice none 0 0] r4):=hd (HS3a.out.stage HP4.out HD4.out HC4.out)
   have HO4:=hd (good5 HO3.out HM4.out)
   clear HG5 HN5
   go_wp2_with fail
   refine must_two (hd HS4.out.2.2.2.1) [123] (fun r5 w5' HM5 HP5 HC5=>?_) (fun c r wb HMb HCb=>?_)
   rotate_left
   · go_wp2_with fail
     exact HS4.out.pan HCb.out (.inl rfl) H0.out (bad5 HO4.out HMb.out) rfl rfl rfl
   have HS5:Hid (Hs w w3 w5' b2 b3 b4 pb s.length er at9 [.string ⟨t2.text.toArray⟩,.int .i64 (x4:Nat),.int .i64 (y4:Nat),.slice none 0 0] r5):=hd (HS4.out.call HP5.out HC5.out)
   have HO5:=hd (good5 HO4.out HM5.out)
   obtain ⟨O,hO⟩:∃ O,O=Pn.loop (Pn.isw Pn.cClose) Pn.level r5:=⟨_,rfl⟩
   have HLI0:Hid (LInv (Pn.isw Pn.cClose) Pn.level O [] r5 (r5.length+1)):=hd (by rw[hO];exact linv_start _ _ _)
   have HOB:Hid (Pn.braced Pn.level r5=O.bind fun z r=>.ok z r.tail):=hd (by rw[hO];rfl)
   clear hO
   have HR5:Hid (r5.length≤5000):=hd (by have h1:=Pn.short_hall HM1.out HM2.out HM3.out HM4.out HM5.out;have h2:=Lx.lex_len s;omega)
   go_wp2_with fail
   go_loopw [] (fun wr=>∃ (ls:List Pn.Lv) (q:List Tk) (k:Nat) (vo:Option Addr) (vc:Nat),Hid (Hs w w3 wr b2 b3 b4 pb s.length er at9 [.string ⟨t2.text.toArray⟩,.int .i64 (x4:Nat),.int .i64 (y4:Nat),.slice vo ls.length vc] q)∧Hid (ListS (pb+1) 61 8 (Clv (pb+1)) ls (.slice vo ls.length vc) wr)∧Hid (LInv (Pn.isw Pn.cClose) Pn.level O ls q k)∧Hid (ls.length+q.length≤5000)) (fun wr=>leftP pb wr)
   case atStart=>exact ⟨[],r5,r5.length+1,none,0,HS5,hd (ListS.nil _ _ _ _ _),HLI0,hd (by simpa using HR5.out)⟩
   case round =>
    obtain ⟨ls,q,k,vo,vc,HSQ,HL,HLI,HQ⟩:=hrel
    obtain ⟨wo,hwn⟩:∃ x,x=wr:=⟨_,rfl⟩
    subst hwn
    have hml:ls.length≤5000:=by have h1:=HQ.out;omega
    go_wp2_with fail
    refine is_r (hd HSQ.out.2.2.2.1) [125] (fun b3' r3 w9q HM3' HP3' HC3'=>?_)
    have HSP0:Hid (Hs w w3 w9q b2 b3 b4 pb s.length er at9 [.string ⟨t2.text.toArray⟩,.int .i64 (x4:Nat),.int .i64 (y4:Nat),.slice vo ls.length vc] r3):=hd (HSQ.out.call HP3'.out HC3'.out)
    have HLq:Hid (ListS (pb+1) 61 8 (Clv (pb+1)) ls (.slice vo ls.length vc) w9q):=hd (HL.out.keep (kp_lv _) HC3'.out (TyB.lower (by intro z hz;simp only[List.mem_cons,List.not_mem_nil,or_false] at hz;omega) _))
    cases b3' with
    | true =>
     have HOK:Hid (O = .ok ls q):=hd (linv_stop HLI.out HM3'.out.1)
     have HRT:Hid (q.tail=r3):=hd HM3'.out.2
     have HO6:Hid (Pn.hall (Lx.lex s).1=if r3=[] then .ok ⟨t2.text,x4,y4,ls⟩ r3 else .bad 4 r3):=hd (by rw[HO5.out,HOB.out,HOK.out,← HRT.out];rfl)
     cases r3 with
     | nil =>
      obtain ⟨n9,ao9,cap9,hb9⟩:=HSP0.out.2.2.2.1.nil
      have HB9:=hd hb9
      clear hb9
      obtain ⟨i0,i1,i2⟩:=HB9.out.c3
      have e0:=HSP0.out.1.cell (i:=0) rfl
      have e1:=HSP0.out.1.cell (i:=1) rfl
      have e2:=HSP0.out.1.cell (i:=2) rfl
      have e3:=HSP0.out.1.cell (i:=3) rfl
      have f0:=HSP0.out.1.free 0
      have f1:=HSP0.out.1.free 1
      have f2:=HSP0.out.1.free 2
      have f3:=HSP0.out.1.free 3
      have g3:=HSP0.out.2.1.cell (i:=0) rfl
      have g4:=HSP0.out.2.1.free 0
      have j3:=HSP0.out.2.2.1.cell (i:=0) rfl
      have j4:=HSP0.out.2.2.1.free 0
      have q1:¬ (n9:Int) < (n9:Int):=by omega
      clear i2 e0 e1 e2 e3 f0 f1 f2 f3 g3 g4 j3 j4
      go_upto_region 13 with fail
      go_quiet (fail)
      go_upto_region 15 with fail
      obtain ⟨wy,hwy⟩:∃ x,x=w9q.drewN nq:=⟨_,rfl⟩
      rw[← hwy]
      have HCY:Hid (Chg [] w9q wy):=hd (by rw[hwy];exact chg_drewNP _ _)
      clear hwy
      have HSY:=hd (HSP0.out.quiet HCY.out)
      have e0:=HSY.out.1.cell (i:=0) rfl
      have e1:=HSY.out.1.cell (i:=1) rfl
      have e2:=HSY.out.1.cell (i:=2) rfl
      have e3:=HSY.out.1.cell (i:=3) rfl
      have f0:=HSY.out.1.free 0
      have f1:=HSY.out.1.free 1
      have f2:=HSY.out.1.free 2
      have f3:=HSY.out.1.free 3
      have g3:=HSY.out.2.1.cell (i:=0) rfl
      have g4:=HSY.out.2.1.free 0
      have j3:=HSY.out.2.2.1.cell (i:=0) rfl
      have j4:=HSY.out.2.2.1.free 0
      go_wp2_with fail
      obtain ⟨wf,hwf⟩:∃ x,x=(((((wy.setCell ⟨b2,0,none⟩ (.string ⟨t2.text.toArray⟩)).setCell ⟨b2,1,none⟩ (.int .i64 (x4:Nat))).setCell ⟨b2,2,none⟩ (.int .i64 (y4:Nat))).setCell ⟨b2,3,none⟩ (.slice vo ls.length vc)).setCell ⟨b3,0,none⟩ (.int .i64 0)).setCell ⟨b4,0,none⟩ (.int .i64 0):=⟨_,rfl⟩
      rw[← hwf]
      have HF2:Hid (Blk wf b2 [.string ⟨t2.text.toArray⟩,.int .i64 (x4:Nat),.int .i64 (y4:Nat),.slice vo ls.length vc] 26):=hd (by rw[hwf];exact (((((HSY.out.1.set 0 _).set 1 _).set 2 _).set 3 _).other _ _ n23).other _ _ n24)
      have HF3:Hid (Blk wf b3 [.int .i64 0] 29):=hd (by rw[hwf];exact (((((HSY.out.2.1.other _ _ n32).other _ _ n32).other _ _ n32).other _ _ n32).set 0 _).other _ _ n34)
      have HF4:Hid (Blk wf b4 [.int .i64 0] 3):=hd (by rw[hwf];exact (((((HSY.out.2.2.1.other _ _ n42).other _ _ n42).other _ _ n42).other _ _ n42).other _ _ n43).set 0 _)
      have HCF:Hid (Chg [b2,b3,b4] wy wf):=hd (by rw[hwf];exact ((((((Chg.refl _ _).setCell _ _ (.inl (by simp))).setCell _ _ (.inl (by simp))).setCell _ _ (.inl (by simp))).setCell _ _ (.inl (by simp))).setCell _ _ (.inl (by simp))).setCell _ _ (.inl (by simp)))
      clear hwf e0 e1 e2 e3 f0 f1 f2 f3 g3 g4 j3 j4
      refine door_ret rfl rfl rfl HF2.out HF3.out HF4.out ?_
      have hp:Pn.parse s=(⟨t2.text,x4,y4,ls⟩,0,0):=Pn.parse_ok (r:=[]) H0.out (HO6.out.trans (by simp))
      rw[hp]
      have hs1:=HSY.out.2.2.2.2.2.2
      refine ⟨.slice vo ls.length vc,rfl,?_,?_⟩
      · exact ((HLq.out.keep (kp_lv _) HCY.out (TyB.nil _ _ _)).keep (kp_lv _) HCF.out (TyB.lower (by intro z hz;simp only[List.mem_cons,List.not_mem_nil,or_false] at hz;omega) _)).mono (by omega) (mono_lv (by omega))
      exact HSY.out.2.2.2.2.1.trans HCF.out (fun k hk=>.inr (by simp only[List.mem_cons,List.not_mem_nil,or_false] at hk;omega))
     | cons t0 r0 =>
      obtain ⟨n9,i9,g9,off9,cap9,hi9,hn9,hb9,hcap9,hgb9,-,-⟩:=HSP0.out.2.2.2.1.cons
      have i0:=hb9.cell (i:=0) rfl
      have i1:=hb9.cell (i:=1) rfl
      have q1:(i9:Int) < (n9:Int):=by omega
      clear hb9
      go_upto_region 13 with fail
      go_quiet (fail)
      go_wp2_with fail
      refine fail_r (hd (HSP0.out.2.2.2.1.quiet (chg_drewNP _ _))) (fun w' HC=>?_)
      go_wp2_with fail
      exact HSP0.out.pan (own:=[]) ((chg_drewNP _ _).trans HC.out (by simp)) (.inr rfl) H0.out (HO6.out.trans (if_neg (by simp))) rfl rfl rfl
    | false =>
     have HRQ:Hid (r3=q):=hd HM3'.out.2.symm
     have HSP:Hid (Hs w w3 w9q b2 b3 b4 pb s.length er at9 [.string ⟨t2.text.toArray⟩,.int .i64 (x4:Nat),.int .i64 (y4:Nat),.slice vo ls.length vc] q):=hd (by rw[← HRQ.out];exact HSP0.out)
     have HSF:Hid (Pn.isw Pn.cClose q=false):=hd HM3'.out.1
     go_upto_region 12 with fail
     refine wp_region_held_drew (S:=fun W=>True) (by kernel_rfl) trivial (fun hHeld=>?_)
     refine tq 0 ?_ (hi:=rfl) (hQ:=fun c a w h=>hq10 44 (by decide) (by decide) (by decide) _ c a w h)
     refine tq 2 ?_ (hi:=rfl) (hQ:=fun c a w h=>hq10 46 (by decide) (by decide) (by decide) _ c a w h)
     refine rd2 1 3 (fun K hK=>?_) (fun K hK=>?_)
     · have x3:=(HSP.out.1.drew).cell (i:=3) rfl
       go_simp
       refine hK.out _ _ trivial (fun _=>?_)
       clear hK K
       try simp only[qq]
       clear x3
       refine rd1 3 (fun K hK=>?_)
       · have _x:=trivial
         go_simp
         refine level_two (hd (HSP.out.2.2.2.1.quiet (Chg.refl _ _).drew)) (pb+1) (by have h1:=HSP.out.2.2.2.1.lt;show pb+1≤w9q.heap.size;omega) (fun x s1 s2 s3 s4 s5 r9 wx HMx HPx HCd HUx=>?_) (fun c r wb HMb HCd=>?_)
         · have HCX:Hid (Chg [pb] w9q wx):=hd (Chg.ofDrew HCd.out)
           have HSX:Hid (Hs w w3 wx b2 b3 b4 pb s.length er at9 [.string ⟨t2.text.toArray⟩,.int .i64 (x4:Nat),.int .i64 (y4:Nat),.slice vo ls.length vc] r9):=hd (HSP.out.call HPx.out HCX.out)
           refine hK.out _ _ trivial (fun _=>?_)
           clear hK K
           try simp only[qq]
           refine rd1 4 (fun K hK=>?_)
           · go_simp
             refine hK.out _ _ trivial (fun _=>?_)
             clear hK K
             try simp only[qq]
             refine rd1 5 (fun K hK=>?_)
             · skip
               have HCA:Hid (Chg [] wx (wx.alloc (.cells #[.string ⟨x.name.toArray⟩,.int .i64 (x.height:Nat),.slice s1.1 s1.2.1 s1.2.2,.slice s2.1 s2.2.1 s2.2.2,.slice s3.1 s3.2.1 s3.2.2,.slice s4.1 s4.2.1 s4.2.2,.slice s5.1 s5.2.1 s5.2.2,.int .i64 (x.at_:Nat)] 61))):=hd ((Chg.refl _ _).alloc _)
               have HLk:Hid (ListS (pb+1) 61 8 (Clv (pb+1)) ls (.slice vo ls.length vc) (wx.alloc (.cells #[.string ⟨x.name.toArray⟩,.int .i64 (x.height:Nat),.slice s1.1 s1.2.1 s1.2.2,.slice s2.1 s2.2.1 s2.2.2,.slice s3.1 s3.2.1 s3.2.2,.slice s4.1 s4.2.1 s4.2.2,.slice s5.1 s5.2.1 s5.2.2,.int .i64 (x.at_:Nat)] 61))):=hd ((HLq.out.keep (kp_lv _) HCX.out (TyB.lower (by intro z hz;simp only[List.mem_cons,List.not_mem_nil,or_false] at hz;omega) _)).keep (kp_lv _) HCA.out (TyB.nil _ _ _))
               have hws:pb+1≤(wx.alloc (.cells #[.string ⟨x.name.toArray⟩,.int .i64 (x.height:Nat),.slice s1.1 s1.2.1 s1.2.2,.slice s2.1 s2.2.1 s2.2.2,.slice s3.1 s3.2.1 s3.2.2,.slice s4.1 s4.2.1 s4.2.2,.slice s5.1 s5.2.1 s5.2.2,.int .i64 (x.at_:Nat)] 61)).heap.size:=by have h1:=HSX.out.2.2.2.1.lt;have h2:=HCA.out.size;omega
               refine step_snoc rfl (.tmp 45) (.tmp 48) 24 rfl 61 il (.agg #[.string ⟨#[]⟩,.int .i64 0,.slice none 0 0,.slice none 0 0,.slice none 0 0,.slice none 0 0,.slice none 0 0,.int .i64 0]) 8 152 Tryz.underlying24 hil lz0 lz1 lz2 rfl (by decide) (C:=Clv (pb+1)) (Es:=[51,48,45,56,54,23]) (.slice vo ls.length vc) ls.length rfl HLk.out rfl (kp_lv _) (by decide) x [.string ⟨x.name.toArray⟩,.int .i64 (x.height:Nat),.slice s1.1 s1.2.1 s1.2.2,.slice s2.1 s2.2.1 s2.2.2,.slice s3.1 s3.2.1 s3.2.2,.slice s4.1 s4.2.1 s4.2.2,.slice s5.1 s5.2.1 s5.2.2,.int .i64 (x.at_:Nat)] ⟨_,_,_,_,_,rfl,HUx.out.keep HCA.out (TyB.nil _ _ _)⟩ rfl (by intro u hu;simp at hu;rcases hu with rfl|rfl|rfl|rfl|rfl|rfl|rfl|rfl <;> rfl) wx.heap.size rfl (Blk.new wx [.string ⟨x.name.toArray⟩,.int .i64 (x.height:Nat),.slice s1.1 s1.2.1 s1.2.2,.slice s2.1 s2.2.1 s2.2.2,.slice s3.1 s3.2.1 s3.2.2,.slice s4.1 s4.2.1 s4.2.2,.slice s5.1 s5.2.1 s5.2.2,.int .i64 (x.at_:Nat)] 61) (by unfold maxLen;omega) (by omega) hws ?kk
               case kk =>
                intro lo8 lc8 v8 hl8 hc8 hb8
                have HL8:=hd hl8
                clear hws
                have hs1:w3.heap.size≤pb+1:=by have:=HSX.out.2.2.2.2.2.2;omega
                have hs0:w.heap.size≤pb+1:=by have:=HSX.out.2.2.2.2.2.2;omega
                have HS8:Hid (Hs w w3 v8 b2 b3 b4 pb s.length er at9 [.string ⟨t2.text.toArray⟩,.int .i64 (x4:Nat),.int .i64 (y4:Nat),.slice vo ls.length vc] r9):=hd (by
                 obtain ⟨h1,h2,h3,h4,h5,h6,h7⟩:=HSX.out
                 have h9:=hc8 _ _ (h6.trans HCA.out (fun k hk=>.inl (by simp at hk))) hs1
                 exact ⟨hb8 _ _ _ (h1.alloc _) (.inl (by omega)),hb8 _ _ _ (h2.alloc _) (.inl (by omega)),hb8 _ _ _ (h3.alloc _) (.inl (by omega)),h4.via2 h1 h6 h9 (fun ds S h=>hb8 _ _ _ (h.alloc _) (.inl (by omega))) (by omega),hc8 _ _ (h5.trans HCA.out (fun k hk=>.inl (by simp at hk))) hs0,h9,h7⟩)
                clear hl8 hc8 hb8 hs1 hs0
                refine hK.out _ _ trivial (fun _=>?_)
                clear hK K
                try simp only[qq]
                refine wpAnyH_take (i:=6) (v:=?vwa6) rfl (by kernel_rfl) (by kernel_rfl) (by kernel_rfl) (fun c a w h=>hq10 50 (by decide) (by decide) (by decide) _ c a w h) (Or.inl ⟨by kernel_rfl,?hywa6⟩) (by assumption) ?rswa6
                case hywa6=>(intro w9 hSw;go_simp;try with_reducible rfl)
                exact mPnV0
         have HCB:Hid (Chg [pb] w9q wb):=hd (Chg.ofDrew HCd.out)
         have HSE:=HSP
         exact HSE.out.pan HCB.out (.inl rfl) H0.out (bad5 HO5.out (by rw[HOB.out,linv_bad HLI.out HSF.out HMb.out];rfl)) rfl rfl rfl
     go_simp
     refine level_two (hd (HSP.out.2.2.2.1.quiet (Chg.refl _ _).drew)) (pb+1) (by have h1:=HSP.out.2.2.2.1.lt;show pb+1≤w9q.heap.size;omega) (fun x s1 s2 s3 s4 s5 r9 wx HMx HPx HCd HUx=>?_) (fun c r wb HMb HCd=>?_)
     · have HCX:Hid (Chg [pb] w9q wx):=hd (Chg.ofDrew HCd.out)
       have HSX:Hid (Hs w w3 wx b2 b3 b4 pb s.length er at9 [.string ⟨t2.text.toArray⟩,.int .i64 (x4:Nat),.int .i64 (y4:Nat),.slice vo ls.length vc] r9):=hd (HSP.out.call HPx.out HCX.out)
       refine hK.out _ _ trivial (fun _=>?_)
       clear hK K
       try simp only[qq]
       refine rd2 1 4 (fun K hK=>?_) (fun K hK=>?_)
       · have x3:=HSX.out.1.cell (i:=3) rfl
         go_simp
         refine hK.out _ _ trivial (fun _=>?_)
         clear hK K
         try simp only[qq]
         clear x3
         refine rd1 4 (fun K hK=>?_)
         · go_simp
           refine hK.out _ _ trivial (fun _=>?_)
           clear hK K
           try simp only[qq]
           refine rd1 5 (fun K hK=>?_)
           · skip
             have HCA:Hid (Chg [] wx (wx.alloc (.cells #[.string ⟨x.name.toArray⟩,.int .i64 (x.height:Nat),.slice s1.1 s1.2.1 s1.2.2,.slice s2.1 s2.2.1 s2.2.2,.slice s3.1 s3.2.1 s3.2.2,.slice s4.1 s4.2.1 s4.2.2,.slice s5.1 s5.2.1 s5.2.2,.int .i64 (x.at_:Nat)] 61))):=hd ((Chg.refl _ _).alloc _)
             have HLk:Hid (ListS (pb+1) 61 8 (Clv (pb+1)) ls (.slice vo ls.length vc) (wx.alloc (.cells #[.string ⟨x.name.toArray⟩,.int .i64 (x.height:Nat),.slice s1.1 s1.2.1 s1.2.2,.slice s2.1 s2.2.1 s2.2.2,.slice s3.1 s3.2.1 s3.2.2,.slice s4.1 s4.2.1 s4.2.2,.slice s5.1 s5.2.1 s5.2.2,.int .i64 (x.at_:Nat)] 61))):=hd ((HLq.out.keep (kp_lv _) HCX.out (TyB.lower (by intro z hz;simp only[List.mem_cons,List.not_mem_nil,or_false] at hz;omega) _)).keep (kp_lv _) HCA.out (TyB.nil _ _ _))
             have hws:pb+1≤(wx.alloc (.cells #[.string ⟨x.name.toArray⟩,.int .i64 (x.height:Nat),.slice s1.1 s1.2.1 s1.2.2,.slice s2.1 s2.2.1 s2.2.2,.slice s3.1 s3.2.1 s3.2.2,.slice s4.1 s4.2.1 s4.2.2,.slice s5.1 s5.2.1 s5.2.2,.int .i64 (x.at_:Nat)] 61)).heap.size:=by have h1:=HSX.out.2.2.2.1.lt;have h2:=HCA.out.size;omega
             refine step_snoc rfl (.tmp 45) (.tmp 48) 24 rfl 61 il (.agg #[.string ⟨#[]⟩,.int .i64 0,.slice none 0 0,.slice none 0 0,.slice none 0 0,.slice none 0 0,.slice none 0 0,.int .i64 0]) 8 152 Tryz.underlying24 hil lz0 lz1 lz2 rfl (by decide) (C:=Clv (pb+1)) (Es:=[51,48,45,56,54,23]) (.slice vo ls.length vc) ls.length rfl HLk.out rfl (kp_lv _) (by decide) x [.string ⟨x.name.toArray⟩,.int .i64 (x.height:Nat),.slice s1.1 s1.2.1 s1.2.2,.slice s2.1 s2.2.1 s2.2.2,.slice s3.1 s3.2.1 s3.2.2,.slice s4.1 s4.2.1 s4.2.2,.slice s5.1 s5.2.1 s5.2.2,.int .i64 (x.at_:Nat)] ⟨_,_,_,_,_,rfl,HUx.out.keep HCA.out (TyB.nil _ _ _)⟩ rfl (by intro u hu;simp at hu;rcases hu with rfl|rfl|rfl|rfl|rfl|rfl|rfl|rfl <;> rfl) wx.heap.size rfl (Blk.new wx [.string ⟨x.name.toArray⟩,.int .i64 (x.height:Nat),.slice s1.1 s1.2.1 s1.2.2,.slice s2.1 s2.2.1 s2.2.2,.slice s3.1 s3.2.1 s3.2.2,.slice s4.1 s4.2.1 s4.2.2,.slice s5.1 s5.2.1 s5.2.2,.int .i64 (x.at_:Nat)] 61) (by unfold maxLen;omega) (by omega) hws ?kk
             case kk =>
              intro lo8 lc8 v8 hl8 hc8 hb8
              have HL8:=hd hl8
              clear hws
              have hs1:w3.heap.size≤pb+1:=by have:=HSX.out.2.2.2.2.2.2;omega
              have hs0:w.heap.size≤pb+1:=by have:=HSX.out.2.2.2.2.2.2;omega
              have HS8:Hid (Hs w w3 v8 b2 b3 b4 pb s.length er at9 [.string ⟨t2.text.toArray⟩,.int .i64 (x4:Nat),.int .i64 (y4:Nat),.slice vo ls.length vc] r9):=hd (by
               obtain ⟨h1,h2,h3,h4,h5,h6,h7⟩:=HSX.out
               have h9:=hc8 _ _ (h6.trans HCA.out (fun k hk=>.inl (by simp at hk))) hs1
               exact ⟨hb8 _ _ _ (h1.alloc _) (.inl (by omega)),hb8 _ _ _ (h2.alloc _) (.inl (by omega)),hb8 _ _ _ (h3.alloc _) (.inl (by omega)),h4.via2 h1 h6 h9 (fun ds S h=>hb8 _ _ _ (h.alloc _) (.inl (by omega))) (by omega),hc8 _ _ (h5.trans HCA.out (fun k hk=>.inl (by simp at hk))) hs0,h9,h7⟩)
              clear hl8 hc8 hb8 hs1 hs0
              refine hK.out _ _ trivial (fun _=>?_)
              clear hK K
              try simp only[qq]
              refine wpAnyH_take (i:=6) (v:=?vwb6) rfl (by kernel_rfl) (by kernel_rfl) (by kernel_rfl) (fun c a w h=>hq10 50 (by decide) (by decide) (by decide) _ c a w h) (Or.inl ⟨by kernel_rfl,?hywb6⟩) (by assumption) ?rswb6
              case hywb6=>(intro w9 hSw;go_simp;try with_reducible rfl)
              exact mPnV0
       go_simp
       refine hK.out _ _ trivial (fun _=>?_)
       clear hK K
       try simp only[qq]
       have x3:=(HSX.out.1.alloc (.cells #[.string ⟨x.name.toArray⟩,.int .i64 (x.height:Nat),.slice s1.1 s1.2.1 s1.2.2,.slice s2.1 s2.2.1 s2.2.2,.slice s3.1 s3.2.1 s3.2.2,.slice s4.1 s4.2.1 s4.2.2,.slice s5.1 s5.2.1 s5.2.2,.int .i64 (x.at_:Nat)] 61)).cell (i:=3) rfl
       refine rd1 1 (fun K hK=>?_)
       · go_simp
         refine hK.out _ _ trivial (fun _=>?_)
         clear hK K
         try simp only[qq]
         clear x3
         refine rd1 5 (fun K hK=>?_)
         · skip
           have HCA:Hid (Chg [] wx (wx.alloc (.cells #[.string ⟨x.name.toArray⟩,.int .i64 (x.height:Nat),.slice s1.1 s1.2.1 s1.2.2,.slice s2.1 s2.2.1 s2.2.2,.slice s3.1 s3.2.1 s3.2.2,.slice s4.1 s4.2.1 s4.2.2,.slice s5.1 s5.2.1 s5.2.2,.int .i64 (x.at_:Nat)] 61))):=hd ((Chg.refl _ _).alloc _)
           have HLk:Hid (ListS (pb+1) 61 8 (Clv (pb+1)) ls (.slice vo ls.length vc) (wx.alloc (.cells #[.string ⟨x.name.toArray⟩,.int .i64 (x.height:Nat),.slice s1.1 s1.2.1 s1.2.2,.slice s2.1 s2.2.1 s2.2.2,.slice s3.1 s3.2.1 s3.2.2,.slice s4.1 s4.2.1 s4.2.2,.slice s5.1 s5.2.1 s5.2.2,.int .i64 (x.at_:Nat)] 61))):=hd ((HLq.out.keep (kp_lv _) HCX.out (TyB.lower (by intro z hz;simp only[List.mem_cons,List.not_mem_nil,or_false] at hz;omega) _)).keep (kp_lv _) HCA.out (TyB.nil _ _ _))
           have hws:pb+1≤(wx.alloc (.cells #[.string ⟨x.name.toArray⟩,.int .i64 (x.height:Nat),.slice s1.1 s1.2.1 s1.2.2,.slice s2.1 s2.2.1 s2.2.2,.slice s3.1 s3.2.1 s3.2.2,.slice s4.1 s4.2.1 s4.2.2,.slice s5.1 s5.2.1 s5.2.2,.int .i64 (x.at_:Nat)] 61)).heap.size:=by have h1:=HSX.out.2.2.2.1.lt;have h2:=HCA.out.size;omega
           refine step_snoc rfl (.tmp 45) (.tmp 48) 24 rfl 61 il (.agg #[.string ⟨#[]⟩,.int .i64 0,.slice none 0 0,.slice none 0 0,.slice none 0 0,.slice none 0 0,.slice none 0 0,.int .i64 0]) 8 152 Tryz.underlying24 hil lz0 lz1 lz2 rfl (by decide) (C:=Clv (pb+1)) (Es:=[51,48,45,56,54,23]) (.slice vo ls.length vc) ls.length rfl HLk.out rfl (kp_lv _) (by decide) x [.string ⟨x.name.toArray⟩,.int .i64 (x.height:Nat),.slice s1.1 s1.2.1 s1.2.2,.slice s2.1 s2.2.1 s2.2.2,.slice s3.1 s3.2.1 s3.2.2,.slice s4.1 s4.2.1 s4.2.2,.slice s5.1 s5.2.1 s5.2.2,.int .i64 (x.at_:Nat)] ⟨_,_,_,_,_,rfl,HUx.out.keep HCA.out (TyB.nil _ _ _)⟩ rfl (by intro u hu;simp at hu;rcases hu with rfl|rfl|rfl|rfl|rfl|rfl|rfl|rfl <;> rfl) wx.heap.size rfl (Blk.new wx [.string ⟨x.name.toArray⟩,.int .i64 (x.height:Nat),.slice s1.1 s1.2.1 s1.2.2,.slice s2.1 s2.2.1 s2.2.2,.slice s3.1 s3.2.1 s3.2.2,.slice s4.1 s4.2.1 s4.2.2,.slice s5.1 s5.2.1 s5.2.2,.int .i64 (x.at_:Nat)] 61) (by unfold maxLen;omega) (by omega) hws ?kk
           case kk =>
            intro lo8 lc8 v8 hl8 hc8 hb8
            have HL8:=hd hl8
            clear hws
            have hs1:w3.heap.size≤pb+1:=by have:=HSX.out.2.2.2.2.2.2;omega
            have hs0:w.heap.size≤pb+1:=by have:=HSX.out.2.2.2.2.2.2;omega
            have HS8:Hid (Hs w w3 v8 b2 b3 b4 pb s.length er at9 [.string ⟨t2.text.toArray⟩,.int .i64 (x4:Nat),.int .i64 (y4:Nat),.slice vo ls.length vc] r9):=hd (by
             obtain ⟨h1,h2,h3,h4,h5,h6,h7⟩:=HSX.out
             have h9:=hc8 _ _ (h6.trans HCA.out (fun k hk=>.inl (by simp at hk))) hs1
             exact ⟨hb8 _ _ _ (h1.alloc _) (.inl (by omega)),hb8 _ _ _ (h2.alloc _) (.inl (by omega)),hb8 _ _ _ (h3.alloc _) (.inl (by omega)),h4.via2 h1 h6 h9 (fun ds S h=>hb8 _ _ _ (h.alloc _) (.inl (by omega))) (by omega),hc8 _ _ (h5.trans HCA.out (fun k hk=>.inl (by simp at hk))) hs0,h9,h7⟩)
            clear hl8 hc8 hb8 hs1 hs0
            refine hK.out _ _ trivial (fun _=>?_)
            clear hK K
            try simp only[qq]
            refine wpAnyH_take (i:=6) (v:=?vwc6) rfl (by kernel_rfl) (by kernel_rfl) (by kernel_rfl) (fun c a w h=>hq10 50 (by decide) (by decide) (by decide) _ c a w h) (Or.inl ⟨by kernel_rfl,?hywc6⟩) (by assumption) ?rswc6
            case hywc6=>(intro w9 hSw;go_simp;try with_reducible rfl)
            exact mPnV0
     have HCB:Hid (Chg [pb] w9q wb):=hd (Chg.ofDrew HCd.out)
     have HSE:=HSP
     exact HSE.out.pan HCB.out (.inl rfl) H0.out (bad5 HO5.out (by rw[HOB.out,linv_bad HLI.out HSF.out HMb.out];rfl)) rfl rfl rfl
 have n0:((er:Int) != 0)=true:=bne_iff_ne.2 (by omega)
 have H0:=hd h0
 clear h0
 go_upto_region 3 with fail
 obtain ⟨w2,hw2⟩:∃ w2,w2=(w1.setCell ⟨b3,0,none⟩ (.int .i64 (er:Nat))).setCell ⟨b4,0,none⟩ (.int .i64 at9):=⟨_,rfl⟩
 rw[← hw2]
 have HB2:Hid (Blk w2 b2 [.string ⟨#[]⟩,.int .i64 0,.int .i64 0,.slice none 0 0] 26):=hd (by rw[hw2];exact (HK21.out.other _ _ n23).other _ _ n24)
 have HB3:Hid (Blk w2 b3 [.int .i64 (er:Nat)] 29):=hd (by rw[hw2];exact (HK31.out.set 0 _).other _ _ n34)
 have HB4:Hid (Blk w2 b4 [.int .i64 at9] 3):=hd (by rw[hw2];exact (HK41.out.other _ _ n43).set 0 _)
 have HC2:Hid (Chg [] w w2):=hd (by rw[hw2];exact ((HC0.out.trans HC1.out (by simp)).setCell _ _ (.inr (by show _≤b3;have:=HN.out;omega))).setCell _ _ (.inr (by show _≤b4;have:=HN.out;omega)))
 clear hw2 y3 y4 z3 z4
 obtain ⟨y2,y21,y22,y23⟩:=HB2.out.c4
 have y3:=HB3.out.cell (i:=0) rfl
 have y4:=HB4.out.cell (i:=0) rfl
 obtain ⟨z2,z21,z22,z23⟩:=HB2.out.f4
 have z3:=HB3.out.free 0
 have z4:=HB4.out.free 0
 refine wp_region_held_drew (S:=fun W=>Blk W b3 [.int .i64 (er:Nat)] 29∧Blk W b4 [.int .i64 at9] 3) (by kernel_rfl) ⟨HB3.out,HB4.out⟩ (fun hHeld=>?_)
 refine tq 0 ?_ (hi:=rfl) (hQ:=fun c a w h=>hq10 15 (by decide) (by decide) (by decide) _ c a w h)
 refine tq 1 ?_ (hy:=by intro w9 hSw;have d3:=hSw.1.cell (i:=0) rfl;have d4:=hSw.2.cell (i:=0) rfl;go_simp;try with_reducible rfl) (hi:=rfl) (hQ:=fun c a w h=>hq10 16 (by decide) (by decide) (by decide) _ c a w h)
 refine tq 2 ?_ (hy:=by intro w9 hSw;have d3:=hSw.1.cell (i:=0) rfl;have d4:=hSw.2.cell (i:=0) rfl;go_simp;try with_reducible rfl) (hi:=rfl) (hQ:=fun c a w h=>hq10 17 (by decide) (by decide) (by decide) _ c a w h)
 refine rd1 3 (fun K hK=>?_)
 go_simp
 obtain ⟨wa,hwa⟩:∃ x,x=((((w2.setCell ⟨b2,0,none⟩ (.string ⟨#[]⟩)).setCell ⟨b2,1,none⟩ (.int .i64 0)).setCell ⟨b2,2,none⟩ (.int .i64 0)).setCell ⟨b2,3,none⟩ (.slice none 0 0)).drew:=⟨_,rfl⟩
 rw[← hwa]
 have HA2:Hid (Blk wa b2 [.string ⟨#[]⟩,.int .i64 0,.int .i64 0,.slice none 0 0] 26):=hd (by rw[hwa];exact ((((HB2.out.set 0 _).set 1 _).set 2 _).set 3 _).drew)
 have HA3:Hid (Blk wa b3 [.int .i64 (er:Nat)] 29):=hd (by rw[hwa];exact ((((HB3.out.other ⟨b2,0,none⟩ _ n32).other ⟨b2,1,none⟩ _ n32).other ⟨b2,2,none⟩ _ n32).other ⟨b2,3,none⟩ _ n32).drew)
 have HA4:Hid (Blk wa b4 [.int .i64 at9] 3):=hd (by rw[hwa];exact ((((HB4.out.other ⟨b2,0,none⟩ _ n42).other ⟨b2,1,none⟩ _ n42).other ⟨b2,2,none⟩ _ n42).other ⟨b2,3,none⟩ _ n42).drew)
 have HCa:Hid (Chg [] w wa):=hd (by
  have hn:=HN.out
  rw[hwa]
  exact ((((HC2.out.setCell _ _ (.inr (by show _≤b2;omega))).setCell _ _ (.inr (by show _≤b2;omega))).setCell _ _ (.inr (by show _≤b2;omega))).setCell _ _ (.inr (by show _≤b2;omega))).drew)
 clear hwa hHeld y2 y21 y22 y23 y3 y4 z2 z21 z22 z23 z3 z4
 have z3:=HA3.out.free 0
 have y3:=HA3.out.cell (i:=0) rfl
 refine kq hK ⟨HA3.out,HA4.out⟩ (fun hHeld=>?_)
 refine rd1 4 (fun K hK=>?_)
 go_simp
 obtain ⟨wb,hwb⟩:∃ x,x=wa.setCell ⟨b3,0,none⟩ (.int .i64 (er:Nat)):=⟨_,rfl⟩
 rw[← hwb]
 have HD2:=hd (HA2.out.o1 hwb n23)
 have HD3:Hid (Blk wb b3 [.int .i64 (er:Nat)] 29):=hd (by rw[hwb];exact (HA3.out.set 0 _))
 have HD4:=hd (HA4.out.o1 hwb n43)
 have HCb:Hid (Chg [] w wb):=hd (by
  have hn:=HN.out
  rw[hwb]
  exact (HCa.out.setCell _ _ (.inr (by show _≤b3;omega))))
 clear hwb hHeld z3 y3
 have z4:=HD4.out.free 0
 have y4:=HD4.out.cell (i:=0) rfl
 refine kq hK ⟨HD3.out,HD4.out⟩ (fun hHeld=>?_)
 refine rd1 5 (fun K hK=>?_)
 go_simp
 obtain ⟨wc,hwc⟩:∃ x,x=wb.setCell ⟨b4,0,none⟩ (.int .i64 at9):=⟨_,rfl⟩
 rw[← hwc]
 have HE2:=hd (HD2.out.o1 hwc n24)
 have HE3:=hd (HD3.out.o1 hwc n34)
 have HE4:Hid (Blk wc b4 [.int .i64 at9] 3):=hd (by rw[hwc];exact (HD4.out.set 0 _))
 have HCc:Hid (Chg [] w wc):=hd (by
  have hn:=HN.out
  rw[hwc]
  exact (HCb.out.setCell _ _ (.inr (by show _≤b4;omega))))
 clear hwc hHeld z4 y4
 refine kq hK ⟨HE3.out,HE4.out⟩ (fun hHeld=>?_)
 refine dq ?_
 obtain ⟨y2,y21,y22,y23⟩:=HE2.out.c4
 have y3:=HE3.out.cell (i:=0) rfl
 have y4:=HE4.out.cell (i:=0) rfl
 go_wp2_with fail
 refine ⟨.tuple #[.agg #[.string ⟨#[]⟩,.int .i64 0,.int .i64 0,.slice none 0 0],.int .i64 (er:Nat),.int .i64 at9],by simp[results,Tryz.results8,go_sem,y2,y21,y22,y23,y3,y4],?_⟩
 have hp:Pn.parse s=(Pn.hl0,er,at9):=by
  unfold Pn.parse
  rw[HER.out,HAT.out,if_pos H0.out]
 rw[hp]
 exact ⟨.slice none 0 0,rfl,ListS.nil _ _ _ _ _,HCc.out⟩
end Go.Proofs.YtglepipfdmphhaaGreatDoor
