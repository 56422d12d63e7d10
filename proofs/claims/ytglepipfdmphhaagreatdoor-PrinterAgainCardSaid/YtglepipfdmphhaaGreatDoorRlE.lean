/-
 Rule, layer 5: test.
-/
import Derived.Test.YtglepipfdmphhaaGreatDoorRlD
import Derived.Test.YtglepipfdmphhaaGreatDoorLsA
import Derived.Test.YtglepipfdmphhaaGreatDoorMpA
import Derived.Outline
import Derived.Deep.RegionHeld3
import Derived.BigFrame
import Derived.Deep.DrawnRows
set_option maxRecDepth 100000
set_option maxHeartbeats 40000000
namespace Go.Proofs.YtglepipfdmphhaaGreatDoor
set_option linter.unusedVariables false
set_option linter.unusedSimpArgs false
open Go Go.RowKit Go.Shelf
open Lx (Tk)
attribute [local go_sem ↓] Go.wp_at_zero Go.wp_at_succ
theorem codeIn_num:∀ (l:List Bytes) (k:Nat) (t:Bytes),numIn l k t=Rl.codeIn l k t
 | [],_,_=>rfl
 | x :: r,k,t=>by
  rw[numIn,Rl.codeIn,codeIn_num r]
theorem zero_intR (w:World):(zeroValue 3).run Tryz.prog w = .ok (.int .i64 0) w:=by kernel_rfl
theorem look_ops {w:World} {b ck:Nat} (hb:MapB w b (entsFrom [] 0 (kvS Rl.opsL 1)) ck) (t:Bytes):(Instr.lookup 138 (.map (some b)) (.string ⟨t.toArray⟩) false).run Tryz.prog w = .ok (.int .i64 (Rl.opc t:Nat)) w:=by
 have:=run_look_kvS (P:=Tryz.prog) Tryz.underlying138 Tryz.underlying9 (zero_intR w) hb t
 rwa [codeIn_num] at this
theorem nxt_is {k:Nat} {x:Option Bytes} {t:Tk} {r:List Tk} (h:Rl.is k x (t :: r)=true):Rl.nxt k x (t :: r) = .ok t r:=by
 show (if Rl.is k x (t :: r)=true then Rl.Out.ok t r else Rl.Out.bad 4 (t :: r))=_
 rw[if_pos h]
def Sm (l:List Tk):Prop:=∀ t ∈ l,t.text.length≤100000
theorem Sm.suf {l r:List Tk} (h:Sm l) (hs:r <:+ l):Sm r:=fun t ht=>h t (hs.subset ht)
theorem nxt_cons_eq {k:Nat} {x:Option Bytes} {l:List Tk} {t:Tk} {r:List Tk} (h:Rl.nxt k x l = .ok t r):l=t :: r:=by
 cases l with
 | nil=>cases h
 | cons u q =>
  have h:(if Rl.is k x (u :: q)=true then Rl.Out.ok u q else Rl.Out.bad 4 (u :: q))=Rl.Out.ok t r:=h
  by_cases hb:Rl.is k x (u :: q)=true
  · rw[if_pos hb,Rl.Out.ok.injEq] at h
    rw[h.1,h.2]
  rw[if_neg hb] at h
  cases h
theorem next_ok {w:World} {b en:Nat} {l:List Tk} (HP:Hid (Par w b l en)) {k:Nat} {x:Option Bytes} {v:Value} (HV:Hid (TxtV w v x)) {t:Tk} {r:List Tk} (HN:Hid (Rl.nxt k x l = .ok t r)) :
 Calls Tryz.prog 55 #[.pointer (some ⟨b,0,none⟩),.int .i64 (k:Int),v] w fun e w'=>e = .returned (.agg #[.int .i64 t.kind,.string ⟨t.text.toArray⟩,.int .i64 t.n,.int .i64 t.at_])∧Par w' b r en∧Chg [b] w w':=by
 refine next_two HP HV (fun t2 r2 w' HN2 HP2 HC2=>?_) (fun c r2 w' HN2 HC2=>?_)
 · have:=HN.out.symm.trans HN2.out
   rw[Rl.Out.ok.injEq] at this
   obtain ⟨rfl,rfl⟩:=this
   exact ⟨rfl,HP2.out,HC2.out⟩
 have:=HN.out.symm.trans HN2.out
 cases this
theorem next_bad {w:World} {b en:Nat} {l:List Tk} (HP:Hid (Par w b l en)) {k:Nat} {x:Option Bytes} {v:Value} (HV:Hid (TxtV w v x)) {c:Nat} {r:List Tk} (HN:Hid (Rl.nxt k x l = .bad c r)) :
 Calls Tryz.prog 55 #[.pointer (some ⟨b,0,none⟩),.int .i64 (k:Int),v] w fun e w'=>e = .panicked [{ v:=fltR c r en,recovered:=false }]∧Chg [b] w w':=by
 refine next_two HP HV (fun t2 r2 w' HN2 HP2 HC2=>?_) (fun c r2 w' HN2 HC2=>?_)
 · have:=HN.out.symm.trans HN2.out
   cases this
 have:=HN.out.symm.trans HN2.out
 rw[Rl.Out.bad.injEq] at this
 obtain ⟨rfl,rfl⟩:=this
 exact ⟨rfl,HC2.out⟩
def tstc (t:Rl.Tst):List Value:=[.string ⟨t.attr.toArray⟩,.int .i64 (t.op:Nat),.string ⟨t.name.toArray⟩,.int .i64 (t.n:Nat),.int .i64 (t.at_:Nat)]
def TstV (t:Rl.Tst) (v:Value) (w:World):Prop:=v = .agg #[.string ⟨t.attr.toArray⟩,.int .i64 (t.op:Nat),.string ⟨t.name.toArray⟩,.int .i64 (t.n:Nat),.int .i64 (t.at_:Nat)]
theorem two_len {l r r4 r5:List Tk} {t o d m c:Tk} (hs:Sm l) (h1:Rl.nxt 1 none l = .ok t (o :: r)) (h2:Rl.nxt 1 none r = .ok m (d :: r4)) (h3:Rl.nxt 1 none r4 = .ok c r5):m.text.length≤100000∧c.text.length≤100000:=by
 have e1:=nxt_cons_eq h1
 have e2:=nxt_cons_eq h2
 have e3:=nxt_cons_eq h3
 rw[e1,e2,e3] at hs
 exact ⟨hs m (by simp),hs c (by simp)⟩
theorem bad5R {α β:Type} {O:Rl.Out β} {x:Rl.Out α} {k:α→List Tk→Rl.Out β} {e:Nat} {r:List Tk} (h:O=x.bind k) (hx:x = .bad e r):O = .bad e r:=by
 rw[h,hx]
 rfl
theorem join3 (a c:Bytes):(⟨a.toArray⟩:ByteArray)++((⟨#[46]⟩:ByteArray)++⟨c.toArray⟩)=⟨(a++([46]++c)).toArray⟩:=by
 apply ByteArray.ext
 apply Array.ext'
 simp
structure AtT (w W:World) (b B D:Nat) (t:Rl.Tst):Prop where
 chg:Chg [b] w W
 out:Blk W B [.string ⟨#[]⟩,.int .i64 0,.string ⟨#[]⟩,.int .i64 0,.int .i64 0] 63
 own:Blk W D (tstc t) 63
 hb:b < B
 hB:w.heap.size≤B
 hD:B < D
theorem AtT.step {w W W':World} {b B D:Nat} {t:Rl.Tst} (h:AtT w W b B D t) (hc:Chg [b] W W'):AtT w W' b B D t :=
 ⟨chg1R h.chg hc,hc.blk h.out (by have:=h.hb;simp;omega),hc.blk h.own (by have:=h.hb;have:=h.hD;simp;omega),h.hb,h.hB,h.hD⟩
theorem AtT.put {w W:World} {b B D:Nat} {t:Rl.Tst} (h:AtT w W b B D t) (i:Nat) (v:Value) (t':Rl.Tst) (e:(tstc t).set i v=tstc t'):AtT w (W.setCell ⟨D,i,none⟩ v) b B D t' :=
 ⟨h.chg.setCell _ _ (.inr (by show _≤D;have:=h.hB;have:=h.hD;omega)),h.out.other _ _ (by show B≠D;have:=h.hD;omega),by rw[← e];exact h.own.set i v,h.hb,h.hB,h.hD⟩
theorem AtT.par {w W:World} {b B D en i:Nat} {t:Rl.Tst} {l:List Tk} {v:Value} (h:AtT w W b B D t) (hp:Par W b l en):Par (W.setCell ⟨D,i,none⟩ v) b l en :=
 hp.setCell (by have:=h.hb;have:=h.hD;omega)
theorem AtT.fin {w W:World} {b B D en:Nat} {t:Rl.Tst} {l:List Tk} (h:AtT w W b B D t) (hp:Par W b l en) (v0 v1 v2 v3 v4:Value):Chg [b] w (((((W.setCell ⟨B,0,none⟩ v0).setCell ⟨B,1,none⟩ v1).setCell ⟨B,2,none⟩ v2).setCell ⟨B,3,none⟩ v3).setCell ⟨B,4,none⟩ v4) ∧
 Par (((((W.setCell ⟨B,0,none⟩ v0).setCell ⟨B,1,none⟩ v1).setCell ⟨B,2,none⟩ v2).setCell ⟨B,3,none⟩ v3).setCell ⟨B,4,none⟩ v4) b l en :=
 ⟨((((h.chg.setCell _ _ (.inr h.hB)).setCell _ _ (.inr h.hB)).setCell _ _ (.inr h.hB)).setCell _ _ (.inr h.hB)).setCell _ _ (.inr h.hB),((((hp.setCell h.hb).setCell h.hb).setCell h.hb).setCell h.hb).setCell h.hb⟩
theorem test_spec (w:World) (b en:Nat) (l:List Tk) (HP:Hid (Par w b l en)) (HS:Hid (Sm l)) :
 Calls Tryz.prog 82 #[.pointer (some ⟨b,0,none⟩)] w fun e w'=>PResR w b en TstV (Rl.test l) e w':=by
 obtain ⟨O,hO⟩:∃ O,O=Rl.test l:=⟨_,rfl⟩
 rw[← hO]
 have HO:=Lib.hid hO
 clear hO
 go_enter Tryz.func82,Tryz.ntmps82
 have hmm:=@run_makeMap Tryz.prog
 have hf1:=fld1
 have hf2:=fld2
 go_upto_region 1 with fail
 obtain ⟨W,hW⟩:∃ W,W=w.alloc (.cells #[.string ⟨#[]⟩,.int .i64 0,.string ⟨#[]⟩,.int .i64 0,.int .i64 0] 63):=⟨_,rfl⟩
 rw[← hW]
 obtain ⟨B,hB⟩:∃ B,B=w.heap.size:=⟨_,rfl⟩
 rw[← hB]
 have HC0:Hid (Chg [] w W):=Lib.hid (by rw[hW];exact (Chg.refl _ _).alloc _)
 have HK0:Hid (Blk W B [.string ⟨#[]⟩,.int .i64 0,.string ⟨#[]⟩,.int .i64 0,.int .i64 0] 63):=Lib.hid (by rw[hW,hB];exact Blk.new w _ _)
 have HN:Hid (b < B∧w.heap.size≤B):=Lib.hid (by have:=HP.out.lt;omega)
 have HP0:Hid (Par W b l en):=Lib.hid (HP.out.quiet HC0.out)
 clear hW hB
 go_wp2_with fail
 refine next_two HP0 (Lib.hid (TxtV.nil _)) (fun t r w1 HN1 HP1 HC1=>?_) (fun c r w1 HN1 HC1=>?_)
 · go_upto_region 3 with fail
   obtain ⟨W2,hW⟩:∃ W2,W2=(w1.alloc (.cells #[.int .i64 t.kind,.string ⟨t.text.toArray⟩,.int .i64 t.n,.int .i64 t.at_] 93)).alloc (.cells #[.string ⟨t.text.toArray⟩,.int .i64 0,.string ⟨#[]⟩,.int .i64 0,.int .i64 t.at_] 63):=⟨_,rfl⟩
   rw[← hW]
   obtain ⟨D,hD⟩:∃ D,D=w1.heap.size+1:=⟨_,rfl⟩
   rw[← hD]
   have HC2:Hid (Chg [] w1 W2):=Lib.hid (by rw[hW];exact ((Chg.refl _ _).alloc _).alloc _)
   have HD2:Hid (Blk W2 D (tstc ⟨t.text,0,[],0,t.at_⟩) 63):=Lib.hid (by rw[hW,hD];have:=Blk.new (w1.alloc (.cells #[.int .i64 t.kind,.string ⟨t.text.toArray⟩,.int .i64 t.n,.int .i64 t.at_] 93)) [.string ⟨t.text.toArray⟩,.int .i64 0,.string ⟨#[]⟩,.int .i64 0,.int .i64 t.at_] 63;simpa [tstc] using this)
   have HND:Hid (B < D):=Lib.hid (by have:=HC1.out.size;have:=HK0.out.lt;omega)
   clear hW hD
   go_wp2_with (refine wpList_inserts 138 (.tmp 13) 9 3 .string Tryz.underlying138 Tryz.underlying9 _ rfl [_,_,_,_,_,_] (kvS Rl.opsL 1) _ [] 0 rfl (MapB.new _) (by intro kv h;simp[kvS,Rl.opsL] at h;rcases h with rfl|rfl|rfl|rfl|rfl|rfl <;> trivial) (by kernel_rfl) ?_;intro w3 hb3 hc3 hs3)
   obtain ⟨M,hM⟩:∃ M,M=W2.heap.size:=⟨_,rfl⟩
   rw[← hM] at hb3 hc3 ⊢
   have HM3:Hid (MapB w3 M (entsFrom [] 0 (kvS Rl.opsL 1)) 6):=Lib.hid hb3
   have HC3:Hid (Chg [] w1 w3):=Lib.hid (HC2.out.trans (((Chg.refl [] W2).alloc (.map #[] 0)).trans hc3 (fun k hk=>.inr (by simp at hk;omega))) (by simp))
   have HC23:Hid (Chg [] W2 w3):=Lib.hid (((Chg.refl [] W2).alloc (.map #[] 0)).trans hc3 (fun k hk=>.inr (by simp at hk;omega)))
   have HA3:Hid (AtT w w3 b B D ⟨t.text,0,[],0,t.at_⟩):=Lib.hid ⟨chg10 (chg01R HC0.out HC1.out) HC3.out,HC3.out.blk (HC1.out.blk HK0.out (by have:=HN.out.1;simp;omega)) (by simp),HC23.out.blk HD2.out (by simp),HN.out.1,HN.out.2,HND.out⟩
   have HP3:Hid (Par w3 b r en):=Lib.hid (HP1.out.quiet HC3.out)
   have HBM:Hid (b < M):=Lib.hid (by have:=HND.out;have:=HN.out.1;have:=HD2.out.lt;omega)
   clear hb3 hc3 hs3 hM
   refine (peek_spec _ b en r HP3 3 none _ (Lib.hid (TxtV.nil _))).mono ?_
   rintro e w4 ⟨rfl,rfl⟩
   obtain ⟨bo,hbo⟩:∃ bo,Rl.is 3 none r=bo:=⟨_,rfl⟩
   rw[hbo]
   cases bo with
   | false =>
    have HBO:=Lib.hid hbo
    clear hbo
    go_wp2_with fail
    refine (fail_specR _ b en r HP3 4).mono ?_
    rintro e w4 ⟨rfl,rfl⟩
    go_wp2_with fail
    exact ⟨rfl,pbadR HA3.out.chg (by rw[HO.out];unfold Rl.test;rw[HN1.out];simp only[Rl.Out.bind];rw[if_neg (by rw[HBO.out];simp)])⟩
   | true =>
    obtain ⟨o,r2,rfl⟩:∃ o r2,r=o :: r2:=by
     cases r with
     | nil=>cases hbo
     | cons o r2=>exact ⟨o,r2,rfl⟩
    have HBO:=Lib.hid hbo
    clear hbo
    obtain ⟨g,off,cap,hb,hcap,hgb,k0,k1,k2,k3⟩:=HP3.out.cons
    have c0:=hb.cell (i:=0) rfl
    have hlk:=look_ops HM3.out o.text
    clear hb k0 k2 k3
    obtain ⟨q,hq⟩:∃ q,q=Rl.opc o.text:=⟨_,rfl⟩
    rw[← hq] at hlk
    have HQ:=Lib.hid hq
    clear hq
    by_cases hq0:q=0
    · have n0:((q:Int) == 0)=true:=by subst hq0;rfl
      have HQ0:=Lib.hid hq0
      clear hq0
      go_wp2_with fail
      refine (fail_specR _ b en _ HP3 4).mono ?_
      rintro e w4 ⟨rfl,rfl⟩
      go_wp2_with fail
      exact ⟨rfl,pbadR HA3.out.chg (by rw[HO.out];unfold Rl.test;rw[HN1.out];simp only[Rl.Out.bind];rw[if_neg (by rw[show Rl.headText (o :: r2)=o.text from rfl,← HQ.out];exact fun h=>h.2 HQ0.out)])⟩
    have n0:((q:Int) == 0)=false:=beq_eq_false_iff_ne.2 (by omega)
    have HO2:Hid (O=if Rl.is 2 none r2=true then (Rl.nxt 2 none r2).bind fun n l3=>.ok ⟨t.text,q,[],n.n,t.at_⟩ l3
     else (Rl.nxt 1 none r2).bind fun b l3=>if Rl.is 3 (some [46]) l3=true then (Rl.nxt 3 none l3).bind fun _ l4=>(Rl.nxt 1 none l4).bind fun c l5=>.ok ⟨t.text,q,b.text++([46]++c.text),0,t.at_⟩ l5
      else .ok ⟨t.text,q,b.text,0,t.at_⟩ l3):=Lib.hid (by
     rw[HO.out]
     unfold Rl.test
     rw[HN1.out]
     simp only[Rl.Out.bind]
     rw[if_pos ⟨HBO.out,by rw[show Rl.headText (o :: r2)=o.text from rfl,← HQ.out];exact hq0⟩,nxt_is HBO.out,HQ.out])
    clear hq0
    go_wp2_with fail
    refine (next_ok HP3 (Lib.hid (TxtV.nil _)) (Lib.hid (nxt_is HBO.out))).mono ?_
    rintro e w5 ⟨rfl,hp5,hc5⟩
    have HP5:=Lib.hid hp5
    have HA5:=Lib.hid (HA3.out.step hc5)
    have hlk5:=look_ops (HM3.out.keep hc5 (by have:=HBM.out;simp;omega)) o.text
    rw[← HQ.out] at hlk5
    have y1:=HA5.out.own.cell (i:=1) rfl
    have g1:=HA5.out.own.free 1
    clear hp5 hc5 hlk c0 k1
    go_upto_region 7 with fail
    obtain ⟨W6,hW⟩:∃ W6,W6=w5.setCell ⟨D,1,none⟩ (.int .i64 (q:Nat)):=⟨_,rfl⟩
    rw[← hW]
    have HA6:Hid (AtT w W6 b B D ⟨t.text,q,[],0,t.at_⟩):=Lib.hid (by rw[hW];exact HA5.out.put 1 _ _ rfl)
    have HP6:Hid (Par W6 b r2 en):=Lib.hid (by rw[hW];exact HA5.out.par HP5.out)
    clear hW y1 g1 hlk5 n0
    go_wp2_with fail
    refine (peek_spec _ b en r2 HP6 2 none _ (Lib.hid (TxtV.nil _))).mono ?_
    rintro e w7 ⟨rfl,rfl⟩
    obtain ⟨bo,hbo⟩:∃ bo,Rl.is 2 none r2=bo:=⟨_,rfl⟩
    rw[hbo]
    cases bo with
    | true =>
     obtain ⟨n,r3,rfl⟩:∃ n r3,r2=n :: r3:=by
      cases r2 with
      | nil=>cases hbo
      | cons n r3=>exact ⟨n,r3,rfl⟩
     have HBO2:=Lib.hid hbo
     clear hbo
     go_wp2_with fail
     refine (next_ok HP6 (Lib.hid (TxtV.nil _)) (Lib.hid (nxt_is HBO2.out))).mono ?_
     rintro e w7 ⟨rfl,hp7,hc7⟩
     have HP7:=Lib.hid hp7
     have HA7:=Lib.hid (HA6.out.step hc7)
     clear hp7 hc7
     have HA:=HA7
     have y0:=HA.out.own.cell (i:=0) rfl
     have y1:=HA.out.own.cell (i:=1) rfl
     have y2:=HA.out.own.cell (i:=2) rfl
     have y3:=HA.out.own.cell (i:=3) rfl
     have y4:=HA.out.own.cell (i:=4) rfl
     have x0:=HA.out.out.cell (i:=0) rfl
     have x1:=HA.out.out.cell (i:=1) rfl
     have x2:=HA.out.out.cell (i:=2) rfl
     have x3:=HA.out.out.cell (i:=3) rfl
     have x4:=HA.out.out.cell (i:=4) rfl
     have g2:=HA.out.own.free 2
     have g3:=HA.out.own.free 3
     have f0:=HA.out.out.free 0
     have f1:=HA.out.out.free 1
     have f2:=HA.out.out.free 2
     have f3:=HA.out.out.free 3
     have f4:=HA.out.out.free 4
     have nBD:¬ B=D:=by have:=HA.out.hD;omega
     have nDB:¬ D=B:=by have:=HA.out.hD;omega
     go_wp2_with fail
     have HA8:=HA7.out.put 3 (.int .i64 (n.n:Nat)) ⟨t.text,q,[],n.n,t.at_⟩ rfl
     have hfin:=HA8.fin (HA7.out.par HP7.out) (.string ⟨t.text.toArray⟩) (.int .i64 (q:Nat)) (.string ⟨#[]⟩) (.int .i64 (n.n:Nat)) (.int .i64 (t.at_:Nat))
     refine bodyPost_ret (v:=.agg #[.string ⟨t.text.toArray⟩,.int .i64 (q:Nat),.string ⟨#[]⟩,.int .i64 (n.n:Nat),.int .i64 (t.at_:Nat)]) (by simp[results,Tryz.results82,go_sem,x0,x1,x2,x3,x4]) rfl (pok hfin.1 hfin.2 (a:=Rl.Tst.mk t.text q [] n.n t.at_) rfl ?_)
     rw[HO2.out,if_pos HBO2.out,nxt_is HBO2.out]
     rfl
    | false =>
     have HBO2:=Lib.hid hbo
     clear hbo
     have HO3:Hid (O=(Rl.nxt 1 none r2).bind fun b l3=>if Rl.is 3 (some [46]) l3=true then (Rl.nxt 3 none l3).bind fun _ l4=>(Rl.nxt 1 none l4).bind fun c l5=>.ok ⟨t.text,q,b.text++([46]++c.text),0,t.at_⟩ l5
      else .ok ⟨t.text,q,b.text,0,t.at_⟩ l3):=Lib.hid (by rw[HO2.out,if_neg (by rw[HBO2.out];simp)])
     go_wp2_with fail
     refine next_two HP6 (Lib.hid (TxtV.nil _)) (fun m r3 w7 HN7 HP7 HC7=>?_) (fun c r3 w7 HN7 HC7=>?_)
     · have HA7:=Lib.hid (HA6.out.step HC7.out)
       have y2:=HA7.out.own.cell (i:=2) rfl
       have g2:=HA7.out.own.free 2
       have HO4:Hid (O=if Rl.is 3 (some [46]) r3=true then (Rl.nxt 3 none r3).bind fun _ l4=>(Rl.nxt 1 none l4).bind fun c l5=>.ok ⟨t.text,q,m.text++([46]++c.text),0,t.at_⟩ l5
        else .ok ⟨t.text,q,m.text,0,t.at_⟩ r3):=Lib.hid (by rw[HO3.out,HN7.out];rfl)
       go_upto_region 11 with fail
       obtain ⟨W8,hW⟩:∃ W8,W8=w7.setCell ⟨D,2,none⟩ (.string ⟨m.text.toArray⟩):=⟨_,rfl⟩
       rw[← hW]
       have HA8:Hid (AtT w W8 b B D ⟨t.text,q,m.text,0,t.at_⟩):=Lib.hid (by rw[hW];exact HA7.out.put 2 _ _ rfl)
       have HP8:Hid (Par W8 b r3 en):=Lib.hid (by rw[hW];exact HA7.out.par HP7.out)
       clear hW y2 g2
       go_wp2_with fail
       have HT8:Hid (Chg [] W8 (W8.alloc (.cells #[.string ⟨#[46]⟩] 9))):=Lib.hid ((Chg.refl _ _).alloc _)
       refine (peek_spec _ b en r3 (Lib.hid (HP8.out.quiet HT8.out)) 3 (some [46]) _ (Lib.hid (TxtV.one W8 [46] 9 1))).mono ?_
       rintro e w9 ⟨rfl,rfl⟩
       obtain ⟨W9,hW⟩:∃ W9,W9=W8.alloc (.cells #[.string ⟨#[46]⟩] 9):=⟨_,rfl⟩
       rw[← hW]
       have HA9:Hid (AtT w W9 b B D ⟨t.text,q,m.text,0,t.at_⟩):=Lib.hid (HA8.out.step (by rw[hW];exact HT8.out.mono (by simp)))
       have HP9:Hid (Par W9 b r3 en):=Lib.hid (by rw[hW];exact HP8.out.quiet HT8.out)
       clear hW
       obtain ⟨bo,hbo⟩:∃ bo,Rl.is 3 (some [46]) r3=bo:=⟨_,rfl⟩
       rw[hbo]
       cases bo with
       | true =>
        obtain ⟨d,r4,rfl⟩:∃ d r4,r3=d :: r4:=by
         cases r3 with
         | nil=>cases hbo
         | cons d r4=>exact ⟨d,r4,rfl⟩
        have HBO3:=Lib.hid hbo
        clear hbo
        have hn9:Rl.nxt 3 none (d :: r4) = .ok d r4:=nxt_is (by
         have:=HBO3.out
         unfold Rl.is at this ⊢
         rw[Bool.and_eq_true] at this ⊢
         exact ⟨this.1,rfl⟩)
        have HO5:Hid (O=(Rl.nxt 1 none r4).bind fun c l5=>.ok ⟨t.text,q,m.text++([46]++c.text),0,t.at_⟩ l5):=Lib.hid (by rw[HO4.out,if_pos HBO3.out,hn9];rfl)
        have HN9:=Lib.hid hn9
        clear hn9
        go_wp2_with fail
        refine (next_ok HP9 (Lib.hid (TxtV.nil _)) HN9).mono ?_
        rintro e w10 ⟨rfl,hp10,hc10⟩
        have HP10:=Lib.hid hp10
        have HA10:=Lib.hid (HA9.out.step hc10)
        clear hp10 hc10
        go_upto_region 13 with fail
        have z2:=HA10.out.own.cell (i:=2) rfl
        have v2:=HA10.out.own.free 2
        clear hmm hf2
        have hbD:b < D:=by have:=HA10.out.hb;have:=HA10.out.hD;omega
        go_region_with
         (first|(go_at_call 55;go_loud (refine next_two (Lib.hid (HP10.out.quiet (Chg.refl _ _).drew)) (Lib.hid (TxtV.nil _)) (fun c r5 wx HNN HPX HCX=>?_) (fun c r5 wx HNN HCX=>And.intro rfl (pbadR (HA10.out.step (Chg.ofDrew HCX.out)).chg (bad5R HO5.out HNN.out)));have u2:=(HA10.out.step (Chg.ofDrew HCX.out)).own.cell (i:=2) rfl;have t2:=(HA10.out.step (Chg.ofDrew HCX.out)).own.free 2;have hln:=two_len HS.out HN1.out HN7.out HNN.out;have n1:¬ 9223372036854775807 < c.text.length+1:=(by omega);have n2:¬ 9223372036854775807 < m.text.length+(c.text.length+1):=(by omega);clear hln)))
        all_goals
         clear u2 t2 n1 n2
         rw[join3 m.text c.text]
         have HAX:=Lib.hid (HA10.out.step (Chg.ofDrew HCX.out))
         obtain ⟨W12,hW⟩:∃ W12,W12=wx.setCell ⟨D,2,none⟩ (.string ⟨(m.text++([46]++c.text)).toArray⟩):=⟨_,rfl⟩
         rw[← hW]
         have HA:Hid (AtT w W12 b B D (Rl.Tst.mk t.text q (m.text++([46]++c.text)) 0 t.at_)):=Lib.hid (by rw[hW];exact HAX.out.put 2 _ _ rfl)
         have HPE:Hid (Par W12 b r5 en):=Lib.hid (by rw[hW];exact HAX.out.par HPX.out)
         clear hW
         have y0:=HA.out.own.cell (i:=0) rfl
         have y1:=HA.out.own.cell (i:=1) rfl
         have y2:=HA.out.own.cell (i:=2) rfl
         have y3:=HA.out.own.cell (i:=3) rfl
         have y4:=HA.out.own.cell (i:=4) rfl
         have x0:=HA.out.out.cell (i:=0) rfl
         have x1:=HA.out.out.cell (i:=1) rfl
         have x2:=HA.out.out.cell (i:=2) rfl
         have x3:=HA.out.out.cell (i:=3) rfl
         have x4:=HA.out.out.cell (i:=4) rfl
         have f0:=HA.out.out.free 0
         have f1:=HA.out.out.free 1
         have f2:=HA.out.out.free 2
         have f3:=HA.out.out.free 3
         have f4:=HA.out.out.free 4
         obtain ⟨nm,hnm⟩:∃ nm,nm=m.text++([46]++c.text):=⟨_,rfl⟩
         have HNM:=Lib.hid hnm
         rw[← hnm] at HA
         simp only[← hnm] at y2
         clear hnm
         go_wp2_with fail
         have hfin:=HA.out.fin HPE.out (.string ⟨t.text.toArray⟩) (.int .i64 (q:Nat)) (.string ⟨nm.toArray⟩) (.int .i64 0) (.int .i64 (t.at_:Nat))
         refine bodyPost_ret (v:=.agg #[.string ⟨t.text.toArray⟩,.int .i64 (q:Nat),.string ⟨nm.toArray⟩,.int .i64 0,.int .i64 (t.at_:Nat)]) (by simp[results,Tryz.results82,go_sem,x0,x1,x2,x3,x4]) rfl (pok hfin.1 hfin.2 (a:=Rl.Tst.mk t.text q nm 0 t.at_) rfl ?_)
         rw[HO5.out,HNN.out,HNM.out]
         rfl
       | false =>
        have HBO3:=Lib.hid hbo
        clear hbo
        have HA:=HA9
        have y0:=HA.out.own.cell (i:=0) rfl
        have y1:=HA.out.own.cell (i:=1) rfl
        have y2:=HA.out.own.cell (i:=2) rfl
        have y3:=HA.out.own.cell (i:=3) rfl
        have y4:=HA.out.own.cell (i:=4) rfl
        have x0:=HA.out.out.cell (i:=0) rfl
        have x1:=HA.out.out.cell (i:=1) rfl
        have x2:=HA.out.out.cell (i:=2) rfl
        have x3:=HA.out.out.cell (i:=3) rfl
        have x4:=HA.out.out.cell (i:=4) rfl
        have g2:=HA.out.own.free 2
        have g3:=HA.out.own.free 3
        have f0:=HA.out.out.free 0
        have f1:=HA.out.out.free 1
        have f2:=HA.out.out.free 2
        have f3:=HA.out.out.free 3
        have f4:=HA.out.out.free 4
        have nBD:¬ B=D:=by have:=HA.out.hD;omega
        have nDB:¬ D=B:=by have:=HA.out.hD;omega
        go_wp2_with fail
        have hfin:=HA9.out.fin HP9.out (.string ⟨t.text.toArray⟩) (.int .i64 (q:Nat)) (.string ⟨m.text.toArray⟩) (.int .i64 0) (.int .i64 (t.at_:Nat))
        refine bodyPost_ret (v:=.agg #[.string ⟨t.text.toArray⟩,.int .i64 (q:Nat),.string ⟨m.text.toArray⟩,.int .i64 0,.int .i64 (t.at_:Nat)]) (by simp[results,Tryz.results82,go_sem,x0,x1,x2,x3,x4]) rfl (pok hfin.1 hfin.2 (a:=Rl.Tst.mk t.text q m.text 0 t.at_) rfl ?_)
        rw[HO4.out,if_neg (by rw[HBO3.out];simp)]
     go_wp2_with fail
     exact ⟨rfl,pbadR (HA6.out.step HC7.out).chg (by rw[HO3.out,HN7.out];rfl)⟩
 go_wp2_with fail
 exact ⟨rfl,pbadR (chg01R HC0.out HC1.out) (by rw[HO.out];unfold Rl.test;rw[HN1.out];rfl)⟩
end Go.Proofs.YtglepipfdmphhaaGreatDoor
