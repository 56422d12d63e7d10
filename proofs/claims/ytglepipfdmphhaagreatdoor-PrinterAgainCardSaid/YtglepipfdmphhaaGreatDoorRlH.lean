/-
 Rule, layer 8: item.
-/
import Derived.Test.YtglepipfdmphhaaGreatDoorPrTk
import Derived.Test.YtglepipfdmphhaaGreatDoorRlG
set_option maxRecDepth 100000
set_option maxHeartbeats 40000000
namespace Go.Proofs.YtglepipfdmphhaaGreatDoor
set_option linter.unusedVariables false
set_option linter.unusedSimpArgs false
open Go Go.RowKit Go.Shelf
open Lx (Tk)
attribute [local go_sem ↓] Go.wp_at_zero Go.wp_at_succ
theorem look_kinds {w:World} {b ck:Nat} (hb:MapB w b (entsFrom [] 0 (kvS Rl.kindsL 1)) ck) (t:Bytes):(Instr.lookup 138 (.map (some b)) (.string ⟨t.toArray⟩) false).run Tryz.prog w = .ok (.int .i64 (Rl.kindc t:Nat)) w:=by
 have:=run_look_kvS (P:=Tryz.prog) Tryz.underlying138 Tryz.underlying9 (zero_intR w) hb t
 rwa [codeIn_num] at this
def fnE (b k:Nat) (f:FuncId):MapEntry:={ key:=.int .i64 (k+1:Nat),val:=.func (.func f) #[.pointer (some ⟨b,0,none⟩)] #[],born:=k }
def restE (b:Nat):List MapEntry:=[fnE b 0 49,fnE b 1 50,fnE b 2 51,fnE b 3 52,fnE b 4 53,fnE b 5 50,fnE b 6 50]
theorem zero_fn (w:World):(zeroValue 139).run Tryz.prog w = .ok .nilFunc w:=by kernel_rfl
theorem look_rest {w:World} {b M ck:Nat} (hb:MapB w M (restE b) ck) {q:Nat} (h1:1≤q) (h7:q≤7):(Instr.lookup 140 (.map (some M)) (.int .i64 (q:Nat)) false).run Tryz.prog w = .ok (.func (.func (restF q)) #[.pointer (some ⟨b,0,none⟩)] #[]) w:=by
 have h:=run_look (P:=Tryz.prog) Tryz.underlying140 Tryz.underlying3 (zero_fn w) hb (key:=.int .i64 (q:Nat)) (d:=.int .i64) rfl (by
  intro x hx
  simp only[restE,List.mem_cons,List.not_mem_nil,or_false] at hx
  rcases hx with rfl|rfl|rfl|rfl|rfl|rfl|rfl <;> exact rfl)
 rw[h]
 obtain rfl|rfl|rfl|rfl|rfl|rfl|rfl:q=1∨q=2∨q=3∨q=4∨q=5∨q=6∨q=7:=by omega
 all_goals rfl
theorem call_rest (q:Nat) (args:Array Value) (w:World):(callFunc (restF q) args).run Tryz.prog w = .ok (.enter (restF q) args) w:=by
 unfold restF
 by_cases h1:q=1
 · rw[if_pos h1];kernel_rfl
 rw[if_neg h1]
 by_cases h3:q=3
 · rw[if_pos h3];kernel_rfl
 rw[if_neg h3]
 by_cases h4:q=4
 · rw[if_pos h4];kernel_rfl
 rw[if_neg h4]
 by_cases h5:q=5
 · rw[if_pos h5];kernel_rfl
 rw[if_neg h5];kernel_rfl
theorem codeIn_le:∀ (l:List Bytes) (k:Nat) (t:Bytes),Rl.codeIn l k t=0∨(k≤Rl.codeIn l k t∧Rl.codeIn l k t < k+l.length)
 | [],_,_=>.inl rfl
 | x :: r,k,t=>by
  unfold Rl.codeIn
  by_cases h:t=x
  · rw[if_pos h]
    exact .inr ⟨Nat.le_refl _,by simp⟩
  rw[if_neg h]
  rcases codeIn_le r (k+1) t with h1|h1
  · exact .inl h1
  exact .inr ⟨by omega,by simp;omega⟩
def ItmV (B:Nat) (x:Rl.Itm) (v:Value) (w:World):Prop:=∃ u,v = .agg #[.int .i64 (x.kind:Nat),.string ⟨x.name.toArray⟩,u,.int .i64 (x.n:Nat),.int .i64 (x.r.1:Nat),.int .i64 (x.r.2:Nat),.int .i64 (x.s.1:Nat),.int .i64 (x.s.2:Nat),.int .i64 (x.at_:Nat)]∧ListS B 64 1 (Cr B) x.whn u w
theorem chg_drop {b X:Nat} {w Z W:World} (h:Chg [b] w Z) (hX:w.heap.size≤X) (h2:Chg [b,X] Z W):Chg [b] w W:=h.trans h2 (fun k hk=>by simp at hk;rcases hk with rfl|rfl <;> simp_all)
theorem ListS.item {B X i:Nat} {W:World} {cs:List Value} {l:List (List Rl.Tst)} {v u:Value} (h:ListS B 64 1 (Cr B) l v W) (hX:Blk W X cs 69):ListS B 64 1 (Cr B) l v (W.setCell ⟨X,i,none⟩ u) :=
 h.keep (kp_r B) (own:=[X]) ((Chg.refl _ _).setCell _ _ (.inl (by simp))) (fun k hk=>.inr (fun ds e fr hh he=>by
  simp at hk
  subst hk
  have hx:W.heap[k]? = some (.cells cs.toArray 69 (0,0)):=hX
  rw[hx] at hh
  cases hh
  revert he
  decide))
theorem ListS.item9 {B X:Nat} {W:World} {cs:List Value} {l:List (List Rl.Tst)} {v:Value} (h:ListS B 64 1 (Cr B) l v W) (hX:Blk W X cs 69) (v0 v1 v2 v3 v4 v5 v6 v7 v8:Value) :
 ListS B 64 1 (Cr B) l v (((((((((W.setCell ⟨X,0,none⟩ v0).setCell ⟨X,1,none⟩ v1).setCell ⟨X,2,none⟩ v2).setCell ⟨X,3,none⟩ v3).setCell ⟨X,4,none⟩ v4).setCell ⟨X,5,none⟩ v5).setCell ⟨X,6,none⟩ v6).setCell ⟨X,7,none⟩ v7).setCell ⟨X,8,none⟩ v8) :=
 ((((((((h.item hX).item (hX.set 0 v0)).item ((hX.set 0 v0).set 1 v1)).item (((hX.set 0 v0).set 1 v1).set 2 v2)).item ((((hX.set 0 v0).set 1 v1).set 2 v2).set 3 v3)).item (((((hX.set 0 v0).set 1 v1).set 2 v2).set 3 v3).set 4 v4)).item ((((((hX.set 0 v0).set 1 v1).set 2 v2).set 3 v3).set 4 v4).set 5 v5)).item (((((((hX.set 0 v0).set 1 v1).set 2 v2).set 3 v3).set 4 v4).set 5 v5).set 6 v6)).item ((((((((hX.set 0 v0).set 1 v1).set 2 v2).set 3 v3).set 4 v4).set 5 v5).set 6 v6).set 7 v7)
theorem chg9 {own:List Nat} {w W:World} {X:Nat} (h:Chg own w W) (hX:X ∈ own∨w.heap.size≤X) (v0 v1 v2 v3 v4 v5 v6 v7 v8:Value) :
 Chg own w (((((((((W.setCell ⟨X,0,none⟩ v0).setCell ⟨X,1,none⟩ v1).setCell ⟨X,2,none⟩ v2).setCell ⟨X,3,none⟩ v3).setCell ⟨X,4,none⟩ v4).setCell ⟨X,5,none⟩ v5).setCell ⟨X,6,none⟩ v6).setCell ⟨X,7,none⟩ v7).setCell ⟨X,8,none⟩ v8) :=
 ((((((((h.setCell _ _ hX).setCell _ _ hX).setCell _ _ hX).setCell _ _ hX).setCell _ _ hX).setCell _ _ hX).setCell _ _ hX).setCell _ _ hX).setCell _ _ hX
theorem set9 {W:World} {X:Nat} {e:TypeId} {a0 a1 a2 a3 a4 a5 a6 a7 a8:Value} (h:Blk W X [a0,a1,a2,a3,a4,a5,a6,a7,a8] e) (v0 v1 v2 v3 v4 v5 v6 v7 v8:Value) :
 Blk (((((((((W.setCell ⟨X,0,none⟩ v0).setCell ⟨X,1,none⟩ v1).setCell ⟨X,2,none⟩ v2).setCell ⟨X,3,none⟩ v3).setCell ⟨X,4,none⟩ v4).setCell ⟨X,5,none⟩ v5).setCell ⟨X,6,none⟩ v6).setCell ⟨X,7,none⟩ v7).setCell ⟨X,8,none⟩ v8) X [v0,v1,v2,v3,v4,v5,v6,v7,v8] e :=
 ((((((((h.set 0 v0).set 1 v1).set 2 v2).set 3 v3).set 4 v4).set 5 v5).set 6 v6).set 7 v7).set 8 v8
theorem mRlH1 {G:Prop} (h:G:=by
  refine pok (r:=r10) (a:=Rl.Itm.mk q nm.text wl n (r1,r2) (s1,s2) t.at_) ?_ ?_ ?_ ?_
  · exact chg9 (chg_drop HC7.out HNX.out HX10.out.chg) (.inr HN.out.2) _ _ _ _ _ _ _ _ _
  · exact HP10.out.keep (own:=[B]) (chg9 (Chg.refl _ _) (.inl (by simp)) _ _ _ _ _ _ _ _ _) (fun k hk=>by simp at hk;have:=HN.out.1;omega)
  · exact ⟨_,rfl,HL10.out.item9 HK10.out _ _ _ _ _ _ _ _ _⟩
  rw[HO9.out,HN10.out]
  rfl):G:=h
theorem mRlH0 {G:Prop} (h:G:=by
  have z0:=HKX.out.cell (i:=0) rfl
  have z1:=HKX.out.cell (i:=1) rfl
  have z2:=HKX.out.cell (i:=2) rfl
  have z3:=HKX.out.cell (i:=3) rfl
  have z4:=HKX.out.cell (i:=4) rfl
  have z5:=HKX.out.cell (i:=5) rfl
  have z6:=HKX.out.cell (i:=6) rfl
  have z7:=HKX.out.cell (i:=7) rfl
  have z8:=HKX.out.cell (i:=8) rfl
  have e0:=HKX.out.free 0
  have e1:=HKX.out.free 1
  have e2:=HKX.out.free 2
  have e3:=HKX.out.free 3
  have e4:=HKX.out.free 4
  have e5:=HKX.out.free 5
  have e6:=HKX.out.free 6
  have e7:=HKX.out.free 7
  have e8:=HKX.out.free 8
  refine rd1 11 (fun K hK=>?_)
  go_simp
  obtain ⟨Z,hZ⟩:∃ Z,Z=(((((((((Y.setCell ⟨X,0,none⟩ (.int .i64 (Rl.kindc t.text:Nat))).setCell ⟨X,1,none⟩ (.string ⟨nm.text.toArray⟩)).setCell ⟨X,2,none⟩ (.slice none 0 0)).setCell ⟨X,3,none⟩ (.int .i64 0)).setCell ⟨X,4,none⟩ (.int .i64 0)).setCell ⟨X,5,none⟩ (.int .i64 0)).setCell ⟨X,6,none⟩ (.int .i64 0)).setCell ⟨X,7,none⟩ (.int .i64 0)).setCell ⟨X,8,none⟩ (.int .i64 (t.at_:Nat))):=⟨_,rfl⟩
  rw[← hZ]
  have HCZ:Hid (Chg [X] Y Z):=Lib.hid (by rw[hZ];exact chg9 (Chg.refl _ _) (.inl (by simp)) _ _ _ _ _ _ _ _ _)
  have HXZ:Hid (AtI Z Z b X (itmc (.int .i64 (q:Nat)) (.string ⟨nm.text.toArray⟩) (.slice none 0 0) 0 0 0 0 0 (.int .i64 (t.at_:Nat)))):=Lib.hid ⟨Chg.refl _ _,by rw[hZ,HQ.out];exact set9 HKX.out _ _ _ _ _ _ _ _ _,by have:=HNX.out;have:=HP.out.lt;omega⟩
  clear hZ
  refine hK.out _ _ ⟨HCZ.out.blk HTY.out (by simpa using HNT.out),HMY.out.keep HCZ.out (by simpa using HNM.out)⟩ (fun hHeld=>?_)
  clear hK K
  refine dq ?_
  rw[← HQ.out]
  have HC7:Hid (Chg [b] w Z):=Lib.hid (HCY.out.trans HCZ.out (fun k hk=>.inr (by simp at hk;have:=HNX.out;omega)))
  have HPZ:Hid (Par Z b r5 en):=Lib.hid (HPY.out.keep HCZ.out (fun k hk=>by simp at hk;have:=HXZ.out.hb;omega))
  have HRZ:Hid (MapB Z M2 (restE b) 7):=Lib.hid (HRY.out.keep HCZ.out (by simpa using HNM2.out))
  have HKZ:Hid (Blk Z B (itmc (.int .i64 0) (.string ⟨#[]⟩) (.slice none 0 0) 0 0 0 0 0 (.int .i64 0)) 69):=Lib.hid (HCZ.out.blk HKY.out (by simpa using HNB.out))
  have HO6:Hid (O=(Rl.rest q r5).bind fun bd l3=>(Rl.whn l3).bind fun c l4=>(Rl.nxt 3 (some [59]) l4).bind fun _ l5=>.ok ⟨q,nm.text,c,bd.1,bd.2.1,bd.2.2,t.at_⟩ l5):=Lib.hid (by rw[HO5.out,HNN.out];rfl)
  have HSR5:Hid (Sm r5):=Lib.hid (by have h1:=nxt_cons_eq HNN.out;have h2:=HSR.out;rw[h1] at h2;exact h2.suf (List.suffix_cons _ _))
  clear z0 z1 z2 z3 z4 z5 z6 z7 z8 e0 e1 e2 e3 e4 e5 e6 e7 e8 hHeld
  have z0:=HXZ.out.own.cell (i:=0) rfl
  have hlk:=look_rest HRZ.out HQ1.out.1 HQ1.out.2
  have hcall:=call_rest q
  go_wp2_with fail
  refine rest_two q HPZ HXZ (fun n r1 r2 s1 s2 r6 w6 HN6 HP6 HX6=>?_) (fun c r6 w6 HN6 HC6=>?_)
  · have HO7:Hid (O=(Rl.whn r6).bind fun c l4=>(Rl.nxt 3 (some [59]) l4).bind fun _ l5=>.ok ⟨q,nm.text,c,n,(r1,r2),(s1,s2),t.at_⟩ l5):=Lib.hid (by rw[HO6.out,HN6.out];rfl)
    have HSR6:Hid (Sm r6):=Lib.hid (HSR5.out.suf (by have:=(Rl.nice_rest q).suf r5;rw[HN6.out] at this;exact this))
    clear z0 hlk hcall
    go_wp2_with fail
    refine skip_two HP6 Rl.wWhen (fun r7 w7 HB7 HP7 HC7'=>?_) (fun w7 HB7 HP7 HC7'=>?_)
    · have HX7:=Lib.hid (HX6.out.step HC7'.out)
      have HSR7:Hid (Sm r7):=Lib.hid (HSR6.out.suf HB7.out.2.2)
      have HO8:Hid (O=(Rl.sev Rl.tests Rl.wOr r7).bind fun c l4=>(Rl.nxt 3 (some [59]) l4).bind fun _ l5=>.ok ⟨q,nm.text,c,n,(r1,r2),(s1,s2),t.at_⟩ l5):=Lib.hid (by rw[HO7.out];unfold Rl.whn;rw[if_pos HB7.out.1,HB7.out.2.1])
      have hmf:∀ (fn:Fn) (first cap:Array Value) (w:World),(Instr.makeFunc fn first cap).run Tryz.prog w = .ok (.func fn first cap) w:=fun _ _ _ _=>rfl
      go_wp2_with fail
      refine sevr_two Rl.wOr w.heap.size (by have:=HC7.out.size;have:=HX7.out.chg.size;omega) HP7 HSR7 (fun wl r8 ao n8 cap8 w8 HN8 HP8 HS8 HC8 HL8=>?_) (fun c r8 w8 HN8 HC8=>?_)
      · have HX8:=Lib.hid (HX7.out.step HC8.out)
        have y2:=HX8.out.own.cell (i:=2) rfl
        have g2:=HX8.out.own.free 2
        go_upto_region 10 with fail
        obtain ⟨w9,hw9⟩:∃ w9,w9=w8.setCell ⟨X,2,none⟩ (.slice ao n8 cap8):=⟨_,rfl⟩
        rw[← hw9]
        have HX9:Hid (AtI Z w9 b X (itmc (.int .i64 (q:Nat)) (.string ⟨nm.text.toArray⟩) (.slice ao n8 cap8) n r1 r2 s1 s2 (.int .i64 (t.at_:Nat)))):=Lib.hid (by rw[hw9];exact HX8.out.put 2 _)
        have HP9:Hid (Par w9 b r8 en):=Lib.hid (by rw[hw9];exact HX8.out.par HP8.out)
        have HL9:Hid (ListS w.heap.size 64 1 (Cr w.heap.size) wl (.slice ao n8 cap8) w9):=Lib.hid (by rw[hw9];exact HL8.out.item HX8.out.own)
        have HO9:Hid (O=(Rl.nxt 3 (some [59]) r8).bind fun _ l5=>.ok ⟨q,nm.text,wl,n,(r1,r2),(s1,s2),t.at_⟩ l5):=Lib.hid (by rw[HO8.out,HN8.out];rfl)
        clear hw9 y2 g2 hmf
        go_wp2_with fail
        have HT9:Hid (Chg [] w9 (w9.alloc (.cells #[.string ⟨#[59]⟩] 9))):=Lib.hid ((Chg.refl _ _).alloc _)
        refine next_two (Lib.hid (HP9.out.quiet HT9.out)) (Lib.hid (TxtV.one w9 [59] 9 1)) (fun sc r10 w10 HN10 HP10 HC10=>?_) (fun c r10 w10 HN10 HC10=>?_)
        · have HX10:=Lib.hid ((HX9.out.quiet HT9.out).step HC10.out)
          have HL10:Hid (ListS w.heap.size 64 1 (Cr w.heap.size) wl (.slice ao n8 cap8) w10):=Lib.hid ((HL9.out.keep (kp_r _) HT9.out (TyB.nil _ _ _)).keep (kp_r _) HC10.out (TyB.lower (by have:=HP.out.lt;simp;omega) _))
          have HK10:Hid (Blk w10 B (itmc (.int .i64 0) (.string ⟨#[]⟩) (.slice none 0 0) 0 0 0 0 0 (.int .i64 0)) 69):=Lib.hid (HX10.out.chg.blk HKZ.out (by have:=HN.out.1;have:=HNB.out;simp;omega))
          have y0:=HX10.out.own.cell (i:=0) rfl
          have y1:=HX10.out.own.cell (i:=1) rfl
          have y2:=HX10.out.own.cell (i:=2) rfl
          have y3:=HX10.out.own.cell (i:=3) rfl
          have y4:=HX10.out.own.cell (i:=4) rfl
          have y5:=HX10.out.own.cell (i:=5) rfl
          have y6:=HX10.out.own.cell (i:=6) rfl
          have y7:=HX10.out.own.cell (i:=7) rfl
          have y8:=HX10.out.own.cell (i:=8) rfl
          have x0:=HK10.out.cell (i:=0) rfl
          have x1:=HK10.out.cell (i:=1) rfl
          have x2:=HK10.out.cell (i:=2) rfl
          have x3:=HK10.out.cell (i:=3) rfl
          have x4:=HK10.out.cell (i:=4) rfl
          have x5:=HK10.out.cell (i:=5) rfl
          have x6:=HK10.out.cell (i:=6) rfl
          have x7:=HK10.out.cell (i:=7) rfl
          have x8:=HK10.out.cell (i:=8) rfl
          have f0:=HK10.out.free 0
          have f1:=HK10.out.free 1
          have f2:=HK10.out.free 2
          have f3:=HK10.out.free 3
          have f4:=HK10.out.free 4
          have f5:=HK10.out.free 5
          have f6:=HK10.out.free 6
          have f7:=HK10.out.free 7
          have f8:=HK10.out.free 8
          have nBX:¬ B=X:=HNB.out
          have nXB:¬ X=B:=fun h=>HNB.out h.symm
          go_wp2_with fail
          refine bodyPost_ret (v:=.agg #[.int .i64 (q:Nat),.string ⟨nm.text.toArray⟩,(.slice ao n8 cap8),.int .i64 (n:Nat),.int .i64 (r1:Nat),.int .i64 (r2:Nat),.int .i64 (s1:Nat),.int .i64 (s2:Nat),.int .i64 (t.at_:Nat)]) (by simp[results,Tryz.results31,go_sem,x0,x1,x2,x3,x4,x5,x6,x7,x8]) rfl ?_
          exact mRlH1
        go_wp2_with fail
        exact ⟨rfl,pbadR (chg_drop HC7.out HNX.out ((HX9.out.quiet HT9.out).step HC10.out).chg) (by rw[HO9.out,HN10.out];rfl)⟩
      go_wp2_with fail
      exact ⟨rfl,pbadR (chg_drop HC7.out HNX.out (HX7.out.step HC8.out).chg) (by rw[HO8.out,HN8.out];rfl)⟩
    have HX9:=Lib.hid (HX6.out.quiet HC7'.out)
    have HP9:=HP7
    obtain ⟨w9,hw9⟩:∃ w9,w9=w7:=⟨_,rfl⟩
    obtain ⟨wl,hwl⟩:∃ wl:List (List Rl.Tst),wl=[]:=⟨_,rfl⟩
    have HL9:Hid (ListS w.heap.size 64 1 (Cr w.heap.size) wl (.slice none 0 0) w9):=Lib.hid (by rw[hwl];exact ListS.nil _ _ _ _ _)
    have HO9:Hid (O=(Rl.nxt 3 (some [59]) r6).bind fun _ l5=>.ok ⟨q,nm.text,wl,n,(r1,r2),(s1,s2),t.at_⟩ l5):=Lib.hid (by rw[HO7.out,hwl];unfold Rl.whn;rw[if_neg (by rw[HB7.out];simp)];rfl)
    rw[← hw9] at HX9 HP9 ⊢
    clear hw9 hwl
    go_wp2_with fail
    have HT9:Hid (Chg [] w9 (w9.alloc (.cells #[.string ⟨#[59]⟩] 9))):=Lib.hid ((Chg.refl _ _).alloc _)
    refine next_two (Lib.hid (HP9.out.quiet HT9.out)) (Lib.hid (TxtV.one w9 [59] 9 1)) (fun sc r10 w10 HN10 HP10 HC10=>?_) (fun c r10 w10 HN10 HC10=>?_)
    · have HX10:=Lib.hid ((HX9.out.quiet HT9.out).step HC10.out)
      have HL10:Hid (ListS w.heap.size 64 1 (Cr w.heap.size) wl (.slice none 0 0) w10):=Lib.hid ((HL9.out.keep (kp_r _) HT9.out (TyB.nil _ _ _)).keep (kp_r _) HC10.out (TyB.lower (by have:=HP.out.lt;simp;omega) _))
      have HK10:Hid (Blk w10 B (itmc (.int .i64 0) (.string ⟨#[]⟩) (.slice none 0 0) 0 0 0 0 0 (.int .i64 0)) 69):=Lib.hid (HX10.out.chg.blk HKZ.out (by have:=HN.out.1;have:=HNB.out;simp;omega))
      have y0:=HX10.out.own.cell (i:=0) rfl
      have y1:=HX10.out.own.cell (i:=1) rfl
      have y2:=HX10.out.own.cell (i:=2) rfl
      have y3:=HX10.out.own.cell (i:=3) rfl
      have y4:=HX10.out.own.cell (i:=4) rfl
      have y5:=HX10.out.own.cell (i:=5) rfl
      have y6:=HX10.out.own.cell (i:=6) rfl
      have y7:=HX10.out.own.cell (i:=7) rfl
      have y8:=HX10.out.own.cell (i:=8) rfl
      have x0:=HK10.out.cell (i:=0) rfl
      have x1:=HK10.out.cell (i:=1) rfl
      have x2:=HK10.out.cell (i:=2) rfl
      have x3:=HK10.out.cell (i:=3) rfl
      have x4:=HK10.out.cell (i:=4) rfl
      have x5:=HK10.out.cell (i:=5) rfl
      have x6:=HK10.out.cell (i:=6) rfl
      have x7:=HK10.out.cell (i:=7) rfl
      have x8:=HK10.out.cell (i:=8) rfl
      have f0:=HK10.out.free 0
      have f1:=HK10.out.free 1
      have f2:=HK10.out.free 2
      have f3:=HK10.out.free 3
      have f4:=HK10.out.free 4
      have f5:=HK10.out.free 5
      have f6:=HK10.out.free 6
      have f7:=HK10.out.free 7
      have f8:=HK10.out.free 8
      have nBX:¬ B=X:=HNB.out
      have nXB:¬ X=B:=fun h=>HNB.out h.symm
      go_wp2_with fail
      refine bodyPost_ret (v:=.agg #[.int .i64 (q:Nat),.string ⟨nm.text.toArray⟩,(.slice none 0 0),.int .i64 (n:Nat),.int .i64 (r1:Nat),.int .i64 (r2:Nat),.int .i64 (s1:Nat),.int .i64 (s2:Nat),.int .i64 (t.at_:Nat)]) (by simp[results,Tryz.results31,go_sem,x0,x1,x2,x3,x4,x5,x6,x7,x8]) rfl ?_
      exact mRlH1
    go_wp2_with fail
    exact ⟨rfl,pbadR (chg_drop HC7.out HNX.out ((HX9.out.quiet HT9.out).step HC10.out).chg) (by rw[HO9.out,HN10.out];rfl)⟩
  go_wp2_with fail
  exact ⟨rfl,pbadR (chg_drop HC7.out HNX.out HC6.out) (by rw[HO6.out,HN6.out];rfl)⟩):G:=h
theorem item_spec (w:World) (b en:Nat) (l:List Tk) (HP:Hid (Par w b l en)) (HS:Hid (Sm l)) :
 Calls Tryz.prog 31 #[.pointer (some ⟨b,0,none⟩)] w fun e w'=>PResR w b en (ItmV w.heap.size) (Rl.item l) e w':=by
 obtain ⟨O,hO⟩:∃ O,O=Rl.item l:=⟨_,rfl⟩
 rw[← hO]
 have HO:=Lib.hid hO
 clear hO
 go_enter Tryz.func31,Tryz.ntmps31
 have hmm:=@run_makeMap Tryz.prog
 have hmf:∀ (fn:Fn) (first cap:Array Value) (w:World),(Instr.makeFunc fn first cap).run Tryz.prog w = .ok (.func fn first cap) w:=fun _ _ _ _=>rfl
 have hf1:=fld1
 have hf2:=fld2
 go_upto_region 1 with fail
 obtain ⟨W,hW⟩:∃ W,W=w.alloc (.cells #[.int .i64 0,.string ⟨#[]⟩,.slice none 0 0,.int .i64 0,.int .i64 0,.int .i64 0,.int .i64 0,.int .i64 0,.int .i64 0] 69):=⟨_,rfl⟩
 rw[← hW]
 obtain ⟨B,hB⟩:∃ B,B=w.heap.size:=⟨_,rfl⟩
 rw[← hB]
 have HC0:Hid (Chg [] w W):=Lib.hid (by rw[hW];exact (Chg.refl _ _).alloc _)
 have HK0:Hid (Blk W B (itmc (.int .i64 0) (.string ⟨#[]⟩) (.slice none 0 0) 0 0 0 0 0 (.int .i64 0)) 69):=Lib.hid (by rw[hW,hB];exact Blk.new w _ _)
 have HN:Hid (b < B∧w.heap.size≤B):=Lib.hid (by have:=HP.out.lt;omega)
 have HP0:Hid (Par W b l en):=Lib.hid (HP.out.quiet HC0.out)
 clear hW hB
 go_upto_region 2 with (refine wpList_inserts 138 (.tmp 7) 9 3 .string Tryz.underlying138 Tryz.underlying9 _ rfl [_,_,_,_,_,_,_] (kvS Rl.kindsL 1) _ [] 0 rfl (MapB.new _) (by intro kv h;simp[kvS,Rl.kindsL] at h;rcases h with rfl|rfl|rfl|rfl|rfl|rfl|rfl <;> trivial) (by kernel_rfl) ?_;intro w2 hb2 hc2 hs2)
 obtain ⟨M,hM⟩:∃ M,M=W.heap.size:=⟨_,rfl⟩
 rw[← hM] at hb2 hc2 ⊢
 have HM2:Hid (MapB w2 M (entsFrom [] 0 (kvS Rl.kindsL 1)) 7):=Lib.hid hb2
 have HC2:Hid (Chg [] W w2):=Lib.hid (((Chg.refl [] W).alloc (.map #[] 0)).trans hc2 (fun k hk=>.inr (by simp at hk;omega)))
 have HBM:Hid (b < M):=Lib.hid (by have:=HN.out.1;have:=HK0.out.lt;omega)
 clear hb2 hc2 hs2 hM
 go_upto_region 3 with (first
  | (refine wpList_insert_new rfl rfl (.tmp 9) (.const (.int .i64 1)) (.tmp 11) 140 rfl 3 139 (.int .i64) Tryz.underlying140 Tryz.underlying3 w2.heap.size rfl _ _ rfl rfl rfl (MapB.new w2) (by rfl) ?_;intro wm1 hm1 hcm1 hsm1)
  | (refine wpList_insert_new rfl rfl (.tmp 9) (.const (.int .i64 2)) (.tmp 13) 140 rfl 3 139 (.int .i64) Tryz.underlying140 Tryz.underlying3 w2.heap.size rfl _ _ rfl rfl rfl hm1 (by rfl) ?_;intro wm2 hm2 hcm2 hsm2)
  | (refine wpList_insert_new rfl rfl (.tmp 9) (.const (.int .i64 3)) (.tmp 15) 140 rfl 3 139 (.int .i64) Tryz.underlying140 Tryz.underlying3 w2.heap.size rfl _ _ rfl rfl rfl hm2 (by rfl) ?_;intro wm3 hm3 hcm3 hsm3)
  | (refine wpList_insert_new rfl rfl (.tmp 9) (.const (.int .i64 4)) (.tmp 17) 140 rfl 3 139 (.int .i64) Tryz.underlying140 Tryz.underlying3 w2.heap.size rfl _ _ rfl rfl rfl hm3 (by rfl) ?_;intro wm4 hm4 hcm4 hsm4)
  | (refine wpList_insert_new rfl rfl (.tmp 9) (.const (.int .i64 5)) (.tmp 19) 140 rfl 3 139 (.int .i64) Tryz.underlying140 Tryz.underlying3 w2.heap.size rfl _ _ rfl rfl rfl hm4 (by rfl) ?_;intro wm5 hm5 hcm5 hsm5)
  | (refine wpList_insert_new rfl rfl (.tmp 9) (.const (.int .i64 6)) (.tmp 21) 140 rfl 3 139 (.int .i64) Tryz.underlying140 Tryz.underlying3 w2.heap.size rfl _ _ rfl rfl rfl hm5 (by rfl) ?_;intro wm6 hm6 hcm6 hsm6)
  | (refine wpList_insert_new rfl rfl (.tmp 9) (.const (.int .i64 7)) (.tmp 23) 140 rfl 3 139 (.int .i64) Tryz.underlying140 Tryz.underlying3 w2.heap.size rfl _ _ rfl rfl rfl hm6 (by rfl) ?_;intro wm7 hm7 hcm7 hsm7))
 obtain ⟨M2,hM⟩:∃ M2,M2=w2.heap.size:=⟨_,rfl⟩
 rw[← hM] at hm7 hcm1 hcm2 hcm3 hcm4 hcm5 hcm6 hcm7 ⊢
 have HR3:Hid (MapB wm7 M2 (restE b) 7):=Lib.hid hm7
 have HC3:Hid (Chg [] w2 wm7):=Lib.hid (((Chg.refl [] w2).alloc (.map #[] 0)).trans ((((((hcm1.trans hcm2 (by simp)).trans hcm3 (by simp)).trans hcm4 (by simp)).trans hcm5 (by simp)).trans hcm6 (by simp)).trans hcm7 (by simp)) (fun k hk=>.inr (by simp at hk;omega)))
 have HM3:Hid (MapB wm7 M (entsFrom [] 0 (kvS Rl.kindsL 1)) 7):=Lib.hid (HM2.out.keep HC3.out (by simp))
 have HBM2:Hid (b < M2):=Lib.hid (by have:=HN.out.1;have:=HC2.out.size;have:=HK0.out.lt;omega)
 have HCA:Hid (Chg [] w wm7):=Lib.hid ((HC0.out.trans HC2.out (by simp)).trans HC3.out (by simp))
 have HK3:Hid (Blk wm7 B (itmc (.int .i64 0) (.string ⟨#[]⟩) (.slice none 0 0) 0 0 0 0 0 (.int .i64 0)) 69):=Lib.hid (HC3.out.blk (HC2.out.blk HK0.out (by simp)) (by simp))
 have HP3:Hid (Par wm7 b l en):=Lib.hid (HP.out.quiet HCA.out)
 obtain ⟨w3,hw3⟩:∃ w3,w3=wm7:=⟨_,rfl⟩
 rw[← hw3] at HR3 HM3 HCA HK3 HP3 ⊢
 clear hw3 hm1 hm2 hm3 hm4 hm5 hm6 hm7 hcm1 hcm2 hcm3 hcm4 hcm5 hcm6 hcm7 hsm1 hsm2 hsm3 hsm4 hsm5 hsm6 hsm7 hM HM2 HC2 HC3 HC0 HK0 HP0
 go_wp2_with fail
 refine (peek_spec _ b en l HP3 1 none _ (Lib.hid (TxtV.nil _))).mono ?_
 rintro e w3 ⟨rfl,rfl⟩
 obtain ⟨bo,hbo⟩:∃ bo,Rl.is 1 none l=bo:=⟨_,rfl⟩
 rw[hbo]
 cases bo with
 | false =>
  have HBO:=Lib.hid hbo
  clear hbo
  go_wp2_with fail
  refine (fail_specR _ b en l HP3 4).mono ?_
  rintro e w4 ⟨rfl,rfl⟩
  go_wp2_with fail
  exact ⟨rfl,pbadR (HCA.out.mono (by simp)) (by rw[HO.out];unfold Rl.item;rw[if_neg (by rw[HBO.out];simp)])⟩
 | true =>
  obtain ⟨t,r,rfl⟩:∃ t r,l=t :: r:=by
   cases l with
   | nil=>cases hbo
   | cons t r=>exact ⟨t,r,rfl⟩
  have HBO:=Lib.hid hbo
  clear hbo
  obtain ⟨g,off,cap,hb,hcap,hgb,k0,k1,k2,k3⟩:=HP3.out.cons
  have c0:=hb.cell (i:=0) rfl
  have hlk:=look_kinds HM3.out t.text
  clear hb k0 k2 k3
  obtain ⟨q,hq⟩:∃ q,q=Rl.kindc t.text:=⟨_,rfl⟩
  rw[← hq] at hlk
  have HQ:=Lib.hid hq
  clear hq
  by_cases hq0:q=0
  · have n0:((q:Int) == 0)=true:=by subst hq0;rfl
    have HQ0:=Lib.hid hq0
    clear hq0
    go_wp2_with fail
    refine (fail_specR _ b en _ HP3 4).mono ?_
    rintro e w4 ⟨rfl,rfl⟩
    go_wp2_with fail
    exact ⟨rfl,pbadR (HCA.out.mono (by simp)) (by rw[HO.out];unfold Rl.item;rw[if_neg (by rw[show Rl.headText (t :: r)=t.text from rfl,← HQ.out];exact fun h=>h.2 HQ0.out)])⟩
  have n0:((q:Int) == 0)=false:=beq_eq_false_iff_ne.2 (by omega)
  have HO5:Hid (O=(Rl.nxt 1 none r).bind fun n l2=>(Rl.rest q l2).bind fun bd l3=>(Rl.whn l3).bind fun c l4=>(Rl.nxt 3 (some [59]) l4).bind fun _ l5=>.ok ⟨q,n.text,c,bd.1,bd.2.1,bd.2.2,t.at_⟩ l5):=Lib.hid (by
   rw[HO.out]
   unfold Rl.item
   rw[if_pos ⟨HBO.out,by rw[show Rl.headText (t :: r)=t.text from rfl,← HQ.out];exact hq0⟩,nxt_is HBO.out,HQ.out]
   rfl)
  have HQ1:Hid (1≤q∧q≤7):=Lib.hid (by
   rcases codeIn_le Rl.kindsL 1 t.text with h|h
   · exact absurd (HQ.out.trans h) hq0
   have e:Rl.codeIn Rl.kindsL 1 t.text=q:=HQ.out.symm
   rw[e] at h
   have:Rl.kindsL.length=7:=rfl
   omega)
  clear hq0
  go_wp2_with fail
  refine (next_ok HP3 (Lib.hid (TxtV.nil _)) (Lib.hid (nxt_is HBO.out))).mono ?_
  rintro e w4 ⟨rfl,hp4,hc4⟩
  go_upto_region 6 with fail
  obtain ⟨w5,hw5⟩:∃ w5,w5=w4.alloc (.cells #[.int .i64 t.kind,.string ⟨t.text.toArray⟩,.int .i64 t.n,.int .i64 t.at_] 93):=⟨_,rfl⟩
  obtain ⟨T5,hT⟩:∃ T5,T5=w4.heap.size:=⟨_,rfl⟩
  rw[← hw5,← hT]
  have hc5:Chg [b] w3 w5:=by rw[hw5];exact hc4.alloc _
  have HT5:Hid (Blk w5 T5 [.int .i64 t.kind,.string ⟨t.text.toArray⟩,.int .i64 t.n,.int .i64 t.at_] 93):=Lib.hid (by rw[hw5,hT];exact Blk.new w4 _ _)
  have HP5:Hid (Par w5 b r en):=Lib.hid (by rw[hw5];exact hp4.alloc _)
  have HM5:Hid (MapB w5 M (entsFrom [] 0 (kvS Rl.kindsL 1)) 7):=Lib.hid (HM3.out.keep hc5 (by have:=HBM.out;simp;omega))
  have HR5:Hid (MapB w5 M2 (restE b) 7):=Lib.hid (HR3.out.keep hc5 (by have:=HBM2.out;simp;omega))
  have HC5:Hid (Chg [b] w w5):=Lib.hid (chg01R HCA.out hc5)
  have HK5:Hid (Blk w5 B (itmc (.int .i64 0) (.string ⟨#[]⟩) (.slice none 0 0) 0 0 0 0 0 (.int .i64 0)) 69):=Lib.hid (hc5.blk HK3.out (by have:=HN.out.1;simp;omega))
  have HBT:Hid (b < T5):=Lib.hid (by rw[hT];have:=hc4.size;have:=HP3.out.lt;omega)
  have HSR:Hid (Sm r):=Lib.hid (HS.out.suf (List.suffix_cons t r))
  clear hw5 hT hc5 hp4 hc4 hlk c0 k1 hmm hmf hf2 n0
  refine wp_region_held_drew (S:=fun W=>Blk W T5 [.int .i64 t.kind,.string ⟨t.text.toArray⟩,.int .i64 t.n,.int .i64 t.at_] 93∧MapB W M (entsFrom [] 0 (kvS Rl.kindsL 1)) 7) (by kernel_rfl) ⟨HT5.out,HM5.out⟩ (fun hHeld=>?_)
  refine tq 0 ?_ (hy:=by intro w9 hSw;have d1:=hSw.1.cell (i:=1) rfl;have d3:=hSw.1.cell (i:=3) rfl;have dl:=look_kinds hSw.2 t.text;go_simp;try with_reducible rfl)
  refine tq 1 ?_ (hy:=by intro w9 hSw;have d1:=hSw.1.cell (i:=1) rfl;have d3:=hSw.1.cell (i:=3) rfl;have dl:=look_kinds hSw.2 t.text;go_simp;try with_reducible rfl)
  refine tq 2 ?_ (hy:=by intro w9 hSw;have d1:=hSw.1.cell (i:=1) rfl;have d3:=hSw.1.cell (i:=3) rfl;have dl:=look_kinds hSw.2 t.text;go_simp;try with_reducible rfl)
  refine tq 3 ?_ (hy:=by intro w9 hSw;have d1:=hSw.1.cell (i:=1) rfl;have d3:=hSw.1.cell (i:=3) rfl;have dl:=look_kinds hSw.2 t.text;go_simp;try with_reducible rfl)
  refine tq 4 ?_ (hy:=by intro w9 hSw;have d1:=hSw.1.cell (i:=1) rfl;have d3:=hSw.1.cell (i:=3) rfl;have dl:=look_kinds hSw.2 t.text;go_simp;try with_reducible rfl)
  refine tq 5 ?_ (hy:=by intro w9 hSw;have d1:=hSw.1.cell (i:=1) rfl;have d3:=hSw.1.cell (i:=3) rfl;have dl:=look_kinds hSw.2 t.text;go_simp;try with_reducible rfl)
  refine tq 6 ?_ (hy:=by intro w9 hSw;have d1:=hSw.1.cell (i:=1) rfl;have d3:=hSw.1.cell (i:=3) rfl;have dl:=look_kinds hSw.2 t.text;go_simp;try with_reducible rfl)
  refine rd2 7 10 (fun K hK=>?_) (fun K hK=>?_)
  · go_simp
    refine next_two (Lib.hid (HP5.out.quiet (Chg.refl _ _).drew)) (Lib.hid (TxtV.nil _)) (fun nm r5 wx HNN HPX HCX=>?_) (fun c r5 wx HNN HCX=>And.intro rfl (pbadR (chg1R HC5.out (Chg.ofDrew HCX.out)) (bad5R HO5.out HNN.out)))
    refine kq hK ⟨HCX.out.blk hHeld.1 (by have:=HBT.out;simp;omega),hHeld.2.keep HCX.out (by have:=HBM.out;simp;omega)⟩ (fun hHeld=>?_)
    refine tq 8 ?_ (hy:=by intro w9 hSw;have d1:=hSw.1.cell (i:=1) rfl;have d3:=hSw.1.cell (i:=3) rfl;have dl:=look_kinds hSw.2 t.text;go_simp;try with_reducible rfl)
    refine tq 9 ?_ (hy:=by intro w9 hSw;have d1:=hSw.1.cell (i:=1) rfl;have d3:=hSw.1.cell (i:=3) rfl;have dl:=look_kinds hSw.2 t.text;go_simp;try with_reducible rfl)
    refine rd1 10 (fun K hK=>?_)
    go_simp
    refine kq hK ⟨hHeld.1.alloc _,hHeld.2.keep ((Chg.refl [] _).alloc _) (by simp)⟩ (fun hHeld=>?_)
    obtain ⟨Y,hY⟩:∃ Y,Y=wx.alloc (.cells #[.int .i64 0,.string ⟨#[]⟩,.slice none 0 0,.int .i64 0,.int .i64 0,.int .i64 0,.int .i64 0,.int .i64 0,.int .i64 0] 69):=⟨_,rfl⟩
    rw[← hY]
    obtain ⟨X,hX⟩:∃ X,X=wx.heap.size:=⟨_,rfl⟩
    rw[← hX]
    have HCY:Hid (Chg [b] w Y):=Lib.hid (by rw[hY];exact (chg1R HC5.out (Chg.ofDrew HCX.out)).alloc _)
    have HKX:Hid (Blk Y X (itmc (.int .i64 0) (.string ⟨#[]⟩) (.slice none 0 0) 0 0 0 0 0 (.int .i64 0)) 69):=Lib.hid (by rw[hY,hX];exact Blk.new wx _ _)
    have HPY:Hid (Par Y b r5 en):=Lib.hid (by rw[hY];exact HPX.out.alloc _)
    have HNX:Hid (w.heap.size≤X):=Lib.hid (by rw[hX];exact (chg1R HC5.out (Chg.ofDrew HCX.out)).size)
    have HNT:Hid (T5≠X):=Lib.hid (by have:=((Chg.ofDrew HCX.out).blk HT5.out (by have:=HBT.out;simp;omega)).lt;omega)
    have HNM:Hid (M≠X):=Lib.hid (by have:=(HM5.out.keep (own:=[b]) (Chg.ofDrew HCX.out) (by have:=HBM.out;simp;omega)).lt;omega)
    have HTY:Hid (Blk Y T5 [.int .i64 t.kind,.string ⟨t.text.toArray⟩,.int .i64 t.n,.int .i64 t.at_] 93):=Lib.hid (by rw[hY];exact hHeld.1)
    have HMY:Hid (MapB Y M (entsFrom [] 0 (kvS Rl.kindsL 1)) 7):=Lib.hid (by rw[hY];exact hHeld.2)
    have HRY:Hid (MapB Y M2 (restE b) 7):=Lib.hid (by rw[hY];exact (HR5.out.keep (own:=[b]) (Chg.ofDrew HCX.out) (by have:=HBM2.out;simp;omega)).keep ((Chg.refl [] _).alloc _) (by simp))
    have HNM2:Hid (M2≠X):=Lib.hid (by have:=(HR5.out.keep (own:=[b]) (Chg.ofDrew HCX.out) (by have:=HBM2.out;simp;omega)).lt;omega)
    have HKY:Hid (Blk Y B (itmc (.int .i64 0) (.string ⟨#[]⟩) (.slice none 0 0) 0 0 0 0 0 (.int .i64 0)) 69):=Lib.hid (by rw[hY];exact ((Chg.ofDrew HCX.out).blk HK5.out (by have:=HN.out.1;simp;omega)).alloc _)
    have HNB:Hid (B≠X):=Lib.hid (by have:=((Chg.ofDrew HCX.out).blk HK5.out (by have:=HN.out.1;simp;omega)).lt;omega)
    clear hY hX
    exact mRlH0
  go_simp
  obtain ⟨wa,hwa⟩:∃ wa,wa=(w5.alloc (.cells #[.int .i64 0,.string ⟨#[]⟩,.slice none 0 0,.int .i64 0,.int .i64 0,.int .i64 0,.int .i64 0,.int .i64 0,.int .i64 0] 69)).drew:=⟨_,rfl⟩
  rw[← hwa]
  obtain ⟨X,hX⟩:∃ X,X=w5.heap.size:=⟨_,rfl⟩
  rw[← hX]
  have HCa:Hid (Chg [] w5 wa):=Lib.hid (by rw[hwa];exact ((Chg.refl _ _).alloc _).drew)
  have HKa:Hid (Blk wa X (itmc (.int .i64 0) (.string ⟨#[]⟩) (.slice none 0 0) 0 0 0 0 0 (.int .i64 0)) 69):=Lib.hid (by rw[hwa,hX];exact Blk.new w5 _ _)
  have HNX:Hid (w.heap.size≤X):=Lib.hid (by rw[hX];exact HC5.out.size)
  have HNT:Hid (T5≠X):=Lib.hid (by have:=HT5.out.lt;omega)
  have HNM:Hid (M≠X):=Lib.hid (by have:=HM5.out.lt;omega)
  have HNM2:Hid (M2≠X):=Lib.hid (by have:=HR5.out.lt;omega)
  have HNB:Hid (B≠X):=Lib.hid (by have:=HK5.out.lt;omega)
  clear hwa hX
  refine kq hK ⟨HCa.out.blk HT5.out (by simp),HM5.out.keep HCa.out (by simp)⟩ (fun hHeld=>?_)
  refine rd1 7 (fun K hK=>?_)
  go_simp
  refine next_two (Lib.hid (HP5.out.quiet HCa.out)) (Lib.hid (TxtV.nil _)) (fun nm r5 Y HNN HPY HCX=>?_) (fun c r5 wx HNN HCX=>And.intro rfl (pbadR (chg1R (chg10 HC5.out HCa.out) HCX.out) (bad5R HO5.out HNN.out)))
  refine kq hK ⟨HCX.out.blk hHeld.1 (by have:=HBT.out;simp;omega),hHeld.2.keep HCX.out (by have:=HBM.out;simp;omega)⟩ (fun hHeld=>?_)
  refine tq 8 ?_ (hy:=by intro w9 hSw;have d1:=hSw.1.cell (i:=1) rfl;have d3:=hSw.1.cell (i:=3) rfl;have dl:=look_kinds hSw.2 t.text;go_simp;try with_reducible rfl)
  refine tq 9 ?_ (hy:=by intro w9 hSw;have d1:=hSw.1.cell (i:=1) rfl;have d3:=hSw.1.cell (i:=3) rfl;have dl:=look_kinds hSw.2 t.text;go_simp;try with_reducible rfl)
  have HCY:Hid (Chg [b] w Y):=Lib.hid (chg1R (chg10 HC5.out HCa.out) HCX.out)
  have HKX:Hid (Blk Y X (itmc (.int .i64 0) (.string ⟨#[]⟩) (.slice none 0 0) 0 0 0 0 0 (.int .i64 0)) 69):=Lib.hid (HCX.out.blk HKa.out (by have:=HNX.out;have:=HP.out.lt;simp;omega))
  have HTY:Hid (Blk Y T5 [.int .i64 t.kind,.string ⟨t.text.toArray⟩,.int .i64 t.n,.int .i64 t.at_] 93):=Lib.hid hHeld.1
  have HMY:Hid (MapB Y M (entsFrom [] 0 (kvS Rl.kindsL 1)) 7):=Lib.hid hHeld.2
  have HRY:Hid (MapB Y M2 (restE b) 7):=Lib.hid ((HR5.out.keep HCa.out (by simp)).keep HCX.out (by have:=HBM2.out;simp;omega))
  have HKY:Hid (Blk Y B (itmc (.int .i64 0) (.string ⟨#[]⟩) (.slice none 0 0) 0 0 0 0 0 (.int .i64 0)) 69):=Lib.hid (HCX.out.blk (HCa.out.blk HK5.out (by simp)) (by have:=HN.out.1;simp;omega))
  exact mRlH0
end Go.Proofs.YtglepipfdmphhaaGreatDoor
