/-
 Rule, layer 6: several, tests.
-/
import Derived.Test.YtglepipfdmphhaaGreatDoorRlE
import Derived.Test.YtglepipfdmphhaaGreatDoorRlQ
set_option maxRecDepth 100000
set_option maxHeartbeats 40000000
namespace Go.Proofs.YtglepipfdmphhaaGreatDoor
set_option linter.unusedVariables false
set_option linter.unusedSimpArgs false
open Go Go.RowKit Go.Shelf
open Lx (Tk)
def lenOfR:Value→Nat
 | .slice _ n _=>n
 | _=>0
def Ct (t:Rl.Tst) (cs:List Value) (w:World):Prop:=cs=tstc t
theorem kp_t (B:Nat):Kp B [] Ct:=fun own w w' a cs hc ho h=>h
def Cr (B:Nat) (r:List Rl.Tst) (cs:List Value) (w:World):Prop:=∃ u,cs=[u]∧ListS B 63 5 Ct r u w
theorem kp_r (B:Nat):Kp B [63] (Cr B):=fun own w w' a cs hc ho ⟨u,h1,h2⟩=>⟨u,h1,h2.keep (kp_t B) hc ho⟩
theorem mono_t {B B':Nat} (h:B≤B'):∀ (a:Rl.Tst) (cs:List Value) (w:World),Ct a cs w→Ct a cs w:=fun _ _ _ h=>h
theorem ListS.monoR {α:Type} {w:World} {B B':Nat} {E:TypeId} {size:Nat} {C C':α→List Value→World→Prop} {l:List α} {v:Value} (h:ListS B' E size C l v w) (hB:B≤B') (hC:∀ a cs w,C a cs w→C' a cs w):ListS B E size C' l v w:=by
 obtain ⟨css,h1,h2,h3⟩:=h
 refine ⟨css,h1,fun i a cs ha hcs=>⟨(h2 i a cs ha hcs).1,hC _ _ _ (h2 i a cs ha hcs).2⟩,h3.1,?_⟩
 rcases h3.2 with h0|⟨g,cap,cur,hv,hb,rest⟩
 · exact .inl h0
 exact .inr ⟨g,cap,cur,hv,Nat.le_trans hB hb,rest⟩
theorem mono_r {B B':Nat} (h:B≤B'):∀ (a:List Rl.Tst) (cs:List Value) (w:World),Cr B' a cs w→Cr B a cs w:=fun a cs w ⟨u,h1,h2⟩=>⟨u,h1,h2.monoR h (mono_t h)⟩
theorem ownsRow.own {w:World} {B:Nat} {e:TypeId} {size:Nat} {v:Value} {n:Nat} {xs:List Value} (h:w.ownsRow B e size v n xs) {k:Nat} (hk:v.ownBlock=some k):B≤k:=by
 rcases h.2 with ⟨rfl,_⟩|⟨g,cap,cur,rfl,hb,_⟩
 · cases hk
 simp[Value.ownBlock] at hk
 omega
theorem Par.grown {w w':World} {b en:Nat} {l:List Tk} {v:Value} (h:Par w b l en) (hg:w.grownBy w' v.ownBlock) (ho:∀ k,v.ownBlock=some k→b < k):Par w' b l en :=
 h.keep (own:=v.ownBlock.toList) ⟨hg.os,hg.tape,hg.output,hg.size,fun k hk hn=>hg.block k hk (by
  intro e
  rw[← e] at hn
  simp at hn)⟩ (fun k hk=>ho k (by simpa using hk))
theorem test_suf {l:List Tk} {a:Rl.Tst} {r:List Tk} (h:Rl.test l = .ok a r):r <:+ l:=by
 have:=Rl.nice_test.suf l
 rwa [h] at this
theorem tests_suf {l:List Tk} {a:List Rl.Tst} {r:List Tk} (h:Rl.tests l = .ok a r):r <:+ l:=by
 have:=Rl.nice_tests.suf l
 rwa [h] at this
theorem test_two {w:World} {b en:Nat} {l:List Tk} (HP:Hid (Par w b l en)) (HS:Hid (Sm l)) {R:Ending→World→Prop}
 (hok:∀ (a:Rl.Tst) (r:List Tk) (w':World),Hid (Rl.test l = .ok a r)→Hid (Par w' b r en)→Hid (Sm r)→Hid (Chg [b] w w')→R (.returned (.agg #[.string ⟨a.attr.toArray⟩,.int .i64 (a.op:Nat),.string ⟨a.name.toArray⟩,.int .i64 (a.n:Nat),.int .i64 (a.at_:Nat)])) w')
 (hbad:∀ (c:Nat) (r:List Tk) (w':World),Hid (Rl.test l = .bad c r)→Hid (Chg [b] w w')→R (.panicked [{ v:=fltR c r en,recovered:=false }]) w') :
 Calls Tryz.prog 82 #[.pointer (some ⟨b,0,none⟩)] w R:=by
 refine (test_spec w b en l HP HS).mono ?_
 rintro e w' h
 refine pres_twoR h (fun a r v h1 h2 h3 h4=>?_) (fun c r h1 h2=>hbad c r w' h1 h2)
 have h4:v = .agg #[.string ⟨a.attr.toArray⟩,.int .i64 (a.op:Nat),.string ⟨a.name.toArray⟩,.int .i64 (a.n:Nat),.int .i64 (a.at_:Nat)]:=h4
 subst h4
 exact hok a r w' h1 h2 (Lib.hid (HS.out.suf (test_suf h1.out))) h3
theorem info_sevt:(Tryz.prog.info? 63).map (fun i=>(i.zero,i.size,i.bytes))=some (some (.agg #[.string ⟨#[]⟩,.int .i64 0,.string ⟨#[]⟩,.int .i64 0,.int .i64 0]),5,56):=by kernel_rfl
theorem mRlF0 {G:Prop} (h:G:=by
  have HL9:=Lib.hid hl9
  have hc9:Chg [b] w w9:=by
   exact (chg10 (chg1R (chg1R HCQ.out HC2.out) HC3.out) HCA.out).grown hgrow9 (fun k hk=>.inr (ownsRow.own HCS3.out hk))
  have HC9:=Lib.hid hc9
  have hp9:Par w9 b r3 en:=(HP3.out.alloc _).grown hgrow9 (fun k hk=>by have:=ownsRow.own HCS3.out hk;have:=HP.out.lt;omega)
  have HP9:=Lib.hid hp9
  clear hl9 hc9 hp9 hgrow9 hown9 hat9 hlt9
  go_wp2_with fail
  go_roundw
  case rel=>exact ⟨zs++[a],r3,Lib.hid ⟨by rw[HO3.out,HN3.out,List.length_append,← HN.out];rfl,by simp,by rw[List.length_append,← HN.out];simpa using hn12⟩,HL9,HP9,HS3,HC9⟩
  case measure=>simp[lenOfR];omega):G:=h
theorem mRlF1 {G:Prop} (h:G:=by
  have H12:=Lib.hid h12
  clear h12
  go_wp2_with fail
  refine (fail_specR _ b en q2 HP2 3).mono ?_
  rintro e w3 ⟨rfl,rfl⟩
  go_wp2_with fail
  exact ⟨rfl,pbadR (chg1R HCQ.out HC2.out) (by
   have:=HO2.out.1
   rw[H12.out] at this
   rw[this]
   show (if Rl.is 1 (some x) (t :: q2)=true then _ else _)=_
   rw[if_pos HBO.out]
   rfl)⟩):G:=h
theorem mRlF2 {G:Prop} (h:G:=by
  clear hc2
  go_wp2_with fail
  go_ret
  exact pok HC2.out HP2.out (a:=zs) HL2.out (by
   rw[HO2.out.1]
   cases h:12 - n with
   | zero =>
    show (if Rl.is 1 (some x) q=true then _ else _)=_
    rw[if_neg (by rw[HBO.out];simp)]
   | succ k =>
    show (if Rl.is 1 (some x) q=true then _ else _)=_
    rw[if_neg (by rw[HBO.out];simp)])):G:=h
theorem sevt_spec (w:World) (b en:Nat) (l:List Tk) (x:Bytes) (HP:Hid (Par w b l en)) (HS:Hid (Sm l)) :
 Calls Tryz.prog 81 #[.pointer (some ⟨b,0,none⟩),.func (.func 82) #[.pointer (some ⟨b,0,none⟩)] #[],.string ⟨x.toArray⟩] w fun e w'=>PResR w b en (fun zs v w'=>ListS w.heap.size 63 5 Ct zs v w') (Rl.sev Rl.test x l) e w':=by
 obtain ⟨O,hO⟩:∃ O,O=Rl.sev Rl.test x l:=⟨_,rfl⟩
 rw[← hO]
 have HO:=Lib.hid hO
 clear hO
 obtain ⟨i0,hi,hz0,hz1,hz2⟩:=info_parts info_sevt
 go_enter Tryz.func81,Tryz.ntmps81
 go_wp2_with fail
 refine test_two HP HS (fun a r  w1 HN1 HP1 HS1 HC1=>?_) (fun c r w1 HN1 HC1=>?_)
 · skip
   have HO1:Hid (O=Rl.sevG Rl.test x 11 [a] r):=Lib.hid (by rw[HO.out];unfold Rl.sev;rw[HN1.out];rfl)
   have HCA:Hid (Chg [] w1 (w1.alloc (.cells #[.string ⟨a.attr.toArray⟩,.int .i64 (a.op:Nat),.string ⟨a.name.toArray⟩,.int .i64 (a.n:Nat),.int .i64 (a.at_:Nat)] 63))):=Lib.hid ((Chg.refl _ _).alloc _)
   have HL1:Hid (ListS w.heap.size 63 5 Ct [a] (.slice (some ⟨w1.heap.size,0,none⟩) 1 1) (w1.alloc (.cells #[.string ⟨a.attr.toArray⟩,.int .i64 (a.op:Nat),.string ⟨a.name.toArray⟩,.int .i64 (a.n:Nat),.int .i64 (a.at_:Nat)] 63))):=Lib.hid (ListS.one (Blk.new w1 [.string ⟨a.attr.toArray⟩,.int .i64 (a.op:Nat),.string ⟨a.name.toArray⟩,.int .i64 (a.n:Nat),.int .i64 (a.at_:Nat)] 63) (by have:=HC1.out.size;omega) rfl (rfl))
   go_wp2_with fail
   obtain ⟨W,hW⟩:∃ W,W=w1.alloc (.cells #[.string ⟨a.attr.toArray⟩,.int .i64 (a.op:Nat),.string ⟨a.name.toArray⟩,.int .i64 (a.n:Nat),.int .i64 (a.at_:Nat)] 63):=⟨_,rfl⟩
   obtain ⟨V,hV⟩:∃ V:Value,V = .slice (some ⟨w1.heap.size,0,none⟩) 1 1:=⟨_,rfl⟩
   rw[← hW,← hV]
   rw[← hW,← hV] at HL1
   rw[← hW] at HCA
   have HCW:Hid (Chg [b] w W):=Lib.hid (chg10 HC1.out HCA.out)
   have HPW:Hid (Par W b r en):=Lib.hid (HP1.out.quiet HCA.out)
   clear hW hV
   go_loopw [7] (fun v wr=>∃ (zs:List Rl.Tst) (q:List Tk),Hid (O=Rl.sevG Rl.test x (12 - zs.length) zs q∧1≤zs.length∧zs.length≤12)∧Hid (ListS w.heap.size 63 5 Ct zs v wr)∧Hid (Par wr b q en)∧Hid (Sm q)∧Hid (Chg [b] w wr)) (fun v _=>13 - lenOfR v)
   case atStart=>exact ⟨[a],r,Lib.hid ⟨HO1.out,Nat.le_refl _,by simp⟩,HL1,HPW,HS1,HCW⟩
   case round =>
    obtain ⟨zs,q,HO2,HL,HPQ,HSQ,HCQ⟩:=hrel
    obtain ⟨n,hn⟩:∃ n,n=zs.length:=⟨_,rfl⟩
    obtain ⟨ao,cap,hv⟩:=HL.out.form
    rw[← hn] at hv HO2
    subst hv
    have HN:=Lib.hid hn
    clear hn
    go_wp2_with fail
    obtain ⟨bo,hbo⟩:∃ bo,Rl.is 1 (some x) q=bo:=⟨_,rfl⟩
    cases bo with
    | true =>
     obtain ⟨t,q2,rfl⟩:∃ t q2,q=t :: q2:=by
      cases q with
      | nil=>cases hbo
      | cons t q2=>exact ⟨t,q2,rfl⟩
     have HBO:=Lib.hid hbo
     clear hbo
     have HSQ2:Hid (Sm q2):=Lib.hid (HSQ.out.suf (List.suffix_cons t q2))
     refine (skip_yes _ b en t q2 HPQ x HBO).mono ?_
     rintro e w2 ⟨rfl,hp2,hc2⟩
     have HP2:=Lib.hid hp2
     have HC2:=Lib.hid hc2
     have HL2:Hid (ListS w.heap.size 63 5 Ct zs (.slice ao n cap) w2):=Lib.hid (HL.out.keep (kp_t _) hc2 (TyB.lower (by have:=HP.out.lt;simp;omega) _))
     clear hp2 hc2
     by_cases h12:n=12
     · have n0:((n:Int) == 12)=true:=by subst h12;rfl
       exact mRlF1
     have n0:((n:Int) == 12)=false:=beq_eq_false_iff_ne.2 (by omega)
     have HO3:Hid (O=(Rl.test q2).bind fun a r=>Rl.sevG Rl.test x (12 - (n+1)) (zs++[a]) r):=Lib.hid (by
      have:=HO2.out
      rw[this.1,show 12 - n=(12 - (n+1))+1 by omega]
      show (if Rl.is 1 (some x) (t :: q2)=true then _ else _)=_
      rw[if_pos HBO.out]
      rfl)
     have hn12:n+1≤12:=by have:=HO2.out.2.2;omega
     clear h12
     go_wp2_with fail
     refine test_two HP2 HSQ2 (fun a r3  w3 HN3 HP3 HS3 HC3=>?_) (fun c r3 w3 HN3 HC3=>?_)
     · skip
       have HL3:Hid (ListS w.heap.size 63 5 Ct zs (.slice ao n cap) w3):=Lib.hid (HL2.out.keep (kp_t _) HC3.out (TyB.lower (by have:=HP.out.lt;simp;omega) _))
       have HCA:Hid (Chg [] w3 (w3.alloc (.cells #[.string ⟨a.attr.toArray⟩,.int .i64 (a.op:Nat),.string ⟨a.name.toArray⟩,.int .i64 (a.n:Nat),.int .i64 (a.at_:Nat)] 63))):=Lib.hid ((Chg.refl _ _).alloc _)
       have hl4:=HL3.out.keep (kp_t _) HCA.out (TyB.nil _ _ _)
       obtain ⟨css,hcs1,hcs2,hcs3⟩:=hl4
       have HCS1:=Lib.hid hcs1
       have HCS2:=Lib.hid hcs2
       rw[← HN.out] at hcs3
       have HCS3:=Lib.hid hcs3
       clear hcs1 hcs2 hcs3
       go_wp2_with (at_builtin;refine wpList_append_lies (w3.alloc (.cells #[.string ⟨a.attr.toArray⟩,.int .i64 (a.op:Nat),.string ⟨a.name.toArray⟩,.int .i64 (a.n:Nat),.int .i64 (a.at_:Nat)] 63)) rfl (.tmp 19) (.tmp 22) 64 rfl w.heap.size 63 i0 (.agg #[.string ⟨#[]⟩,.int .i64 0,.string ⟨#[]⟩,.int .i64 0,.int .i64 0]) 5 56 Tryz.underlying64 hi hz0 hz1 hz2 rfl (by decide) (.slice ao n cap) n css.flatten rfl HCS3.out ⟨w3.heap.size,0,none⟩ 1 1 [.string ⟨a.attr.toArray⟩,.int .i64 (a.op:Nat),.string ⟨a.name.toArray⟩,.int .i64 (a.n:Nat),.int .i64 (a.at_:Nat)] rfl rfl (fun j u hj=>by rw[addr_add,Nat.zero_add];exact (Blk.new w3 [.string ⟨a.attr.toArray⟩,.int .i64 (a.op:Nat),.string ⟨a.name.toArray⟩,.int .i64 (a.n:Nat),.int .i64 (a.at_:Nat)] _).cell hj) (by intro u hu;simp at hu;(first|(rcases hu with rfl|rfl|rfl|rfl|rfl <;> rfl)|(subst hu;rfl))) (by decide) (by unfold maxLen;omega) (by omega) (by have:=HC3.out.size;have:=HC2.out.size;have:=HCQ.out.size;simp;omega) _ rfl ?kk)
       case kk =>
        intro g9 cap9 w9 hown9 hgrow9 hat9 hlt9
        have hl9:ListS w.heap.size 63 5 Ct (zs++[a]) (.slice (some ⟨g9,0,none⟩) (n+1) cap9) w9:=by
         refine ListS.snoc (cs:=[.string ⟨a.attr.toArray⟩,.int .i64 (a.op:Nat),.string ⟨a.name.toArray⟩,.int .i64 (a.n:Nat),.int .i64 (a.at_:Nat)]) HCS1.out HCS2.out (by rw[← HN.out];exact HCS3.out) (kp_t _) (by decide) rfl (rfl) hgrow9 ?_
         rw[← HN.out]
         exact hown9
        exact mRlF0
     go_wp2_with fail
     exact ⟨rfl,pbadR (chg1R (chg1R HCQ.out HC2.out) HC3.out) (by rw[HO3.out,HN3.out];rfl)⟩
    | false =>
     have HBO:=Lib.hid hbo
     clear hbo
     refine (skip_no _ b en q HPQ x HBO).mono ?_
     rintro e w2 ⟨rfl,hc2⟩
     have HP2:=Lib.hid (HPQ.out.quiet hc2)
     have HC2:=Lib.hid (chg10 HCQ.out hc2)
     have HL2:Hid (ListS w.heap.size 63 5 Ct zs (.slice ao n cap) w2):=Lib.hid (HL.out.keep (kp_t _) hc2 (TyB.nil _ _ _))
     exact mRlF2
 go_wp2_with fail
 exact ⟨rfl,pbadR HC1.out (by rw[HO.out];unfold Rl.sev;rw[HN1.out];rfl)⟩
theorem sevt_two {w:World} {b en:Nat} {l:List Tk} (x:Bytes) (B:Nat) (hB:B≤w.heap.size) (HP:Hid (Par w b l en)) (HS:Hid (Sm l)) {R:Ending→World→Prop}
 (hok:∀ (a:List Rl.Tst) (r:List Tk) (ao:Option Addr) (n cap:Nat) (w':World),Hid (Rl.sev Rl.test x l = .ok a r)→Hid (Par w' b r en)→Hid (Sm r)→Hid (Chg [b] w w')→Hid (ListS B 63 5 Ct a (.slice ao n cap) w')→R (.returned (.slice ao n cap)) w')
 (hbad:∀ (c:Nat) (r:List Tk) (w':World),Hid (Rl.sev Rl.test x l = .bad c r)→Hid (Chg [b] w w')→R (.panicked [{ v:=fltR c r en,recovered:=false }]) w') :
 Calls Tryz.prog 81 #[.pointer (some ⟨b,0,none⟩),.func (.func 82) #[.pointer (some ⟨b,0,none⟩)] #[],.string ⟨x.toArray⟩] w R:=by
 refine (sevt_spec w b en l x HP HS).mono ?_
 rintro e w' h
 refine pres_twoR h (fun a r v h1 h2 h3 h4=>?_) (fun c r h1 h2=>hbad c r w' h1 h2)
 obtain ⟨ao,cap,rfl⟩:=h4.form
 have hs:=(Rl.nice_sev Rl.nice_test x).suf l
 rw[h1.out] at hs
 exact hok a r ao _ cap w' h1 h2 (Lib.hid (HS.out.suf hs)) h3 (Lib.hid (h4.monoR hB (mono_t hB)))
theorem tests_spec (w:World) (b en:Nat) (l:List Tk) (HP:Hid (Par w b l en)) (HS:Hid (Sm l)) :
 Calls Tryz.prog 58 #[.pointer (some ⟨b,0,none⟩)] w fun e w'=>PResR w b en (fun zs v w'=>ListS w.heap.size 63 5 Ct zs v w') (Rl.tests l) e w':=by
 go_enter Tryz.func58,Tryz.ntmps58
 have hmf:∀ (fn:Fn) (first cap:Array Value) (w:World),(Instr.makeFunc fn first cap).run Tryz.prog w = .ok (.func fn first cap) w:=fun _ _ _ _=>rfl
 go_wp2_with fail
 refine sevt_two Rl.wAnd w.heap.size (Nat.le_refl _) HP HS (fun a r ao n cap w1 HN1 HP1 HS1 HC1 HL1=>?_) (fun c r w1 HN1 HC1=>?_)
 · go_wp2_with fail
   go_ret
   exact pok HC1.out HP1.out (a:=a) HL1.out HN1.out
 go_wp2_with fail
 exact ⟨rfl,pbadR HC1.out HN1.out⟩
theorem tests_two {w:World} {b en:Nat} {l:List Tk} (B:Nat) (hB:B≤w.heap.size) (HP:Hid (Par w b l en)) (HS:Hid (Sm l)) {R:Ending→World→Prop}
 (hok:∀ (a:List Rl.Tst) (r:List Tk) (ao:Option Addr) (n cap:Nat) (w':World),Hid (Rl.tests l = .ok a r)→Hid (Par w' b r en)→Hid (Sm r)→Hid (Chg [b] w w')→Hid (ListS B 63 5 Ct a (.slice ao n cap) w')→R (.returned (.slice ao n cap)) w')
 (hbad:∀ (c:Nat) (r:List Tk) (w':World),Hid (Rl.tests l = .bad c r)→Hid (Chg [b] w w')→R (.panicked [{ v:=fltR c r en,recovered:=false }]) w') :
 Calls Tryz.prog 58 #[.pointer (some ⟨b,0,none⟩)] w R:=by
 refine (tests_spec w b en l HP HS).mono ?_
 rintro e w' h
 refine pres_twoR h (fun a r v h1 h2 h3 h4=>?_) (fun c r h1 h2=>hbad c r w' h1 h2)
 obtain ⟨ao,cap,rfl⟩:=h4.form
 exact hok a r ao _ cap w' h1 h2 (Lib.hid (HS.out.suf (tests_suf h1.out))) h3 (Lib.hid (h4.monoR hB (mono_t hB)))
theorem info_sevr:(Tryz.prog.info? 64).map (fun i=>(i.zero,i.size,i.bytes))=some (some (.slice none 0 0),1,24):=by kernel_rfl
theorem sevr_spec (w:World) (b en:Nat) (l:List Tk) (x:Bytes) (HP:Hid (Par w b l en)) (HS:Hid (Sm l)) :
 Calls Tryz.prog 57 #[.pointer (some ⟨b,0,none⟩),.func (.func 58) #[.pointer (some ⟨b,0,none⟩)] #[],.string ⟨x.toArray⟩] w fun e w'=>PResR w b en (fun zs v w'=>ListS w.heap.size 64 1 (Cr w.heap.size) zs v w') (Rl.sev Rl.tests x l) e w':=by
 obtain ⟨O,hO⟩:∃ O,O=Rl.sev Rl.tests x l:=⟨_,rfl⟩
 rw[← hO]
 have HO:=Lib.hid hO
 clear hO
 obtain ⟨i0,hi,hz0,hz1,hz2⟩:=info_parts info_sevr
 go_enter Tryz.func57,Tryz.ntmps57
 go_wp2_with fail
 refine tests_two w.heap.size (Nat.le_refl _) HP HS (fun a r uo un uc w1 HN1 HP1 HS1 HC1 HU=>?_) (fun c r w1 HN1 HC1=>?_)
 · skip
   have HO1:Hid (O=Rl.sevG Rl.tests x 11 [a] r):=Lib.hid (by rw[HO.out];unfold Rl.sev;rw[HN1.out];rfl)
   have HCA:Hid (Chg [] w1 (w1.alloc (.cells #[.slice uo un uc] 64))):=Lib.hid ((Chg.refl _ _).alloc _)
   have HL1:Hid (ListS w.heap.size 64 1 (Cr w.heap.size) [a] (.slice (some ⟨w1.heap.size,0,none⟩) 1 1) (w1.alloc (.cells #[.slice uo un uc] 64))):=Lib.hid (ListS.one (Blk.new w1 [.slice uo un uc] 64) (by have:=HC1.out.size;omega) rfl (⟨_,rfl,HU.out.keep (kp_t _) ((Chg.refl [] w1).alloc _) (TyB.nil _ _ _)⟩))
   go_wp2_with fail
   obtain ⟨W,hW⟩:∃ W,W=w1.alloc (.cells #[.slice uo un uc] 64):=⟨_,rfl⟩
   obtain ⟨V,hV⟩:∃ V:Value,V = .slice (some ⟨w1.heap.size,0,none⟩) 1 1:=⟨_,rfl⟩
   rw[← hW,← hV]
   rw[← hW,← hV] at HL1
   rw[← hW] at HCA
   have HCW:Hid (Chg [b] w W):=Lib.hid (chg10 HC1.out HCA.out)
   have HPW:Hid (Par W b r en):=Lib.hid (HP1.out.quiet HCA.out)
   clear hW hV
   go_loopw [7] (fun v wr=>∃ (zs:List (List Rl.Tst)) (q:List Tk),Hid (O=Rl.sevG Rl.tests x (12 - zs.length) zs q∧1≤zs.length∧zs.length≤12)∧Hid (ListS w.heap.size 64 1 (Cr w.heap.size) zs v wr)∧Hid (Par wr b q en)∧Hid (Sm q)∧Hid (Chg [b] w wr)) (fun v _=>13 - lenOfR v)
   case atStart=>exact ⟨[a],r,Lib.hid ⟨HO1.out,Nat.le_refl _,by simp⟩,HL1,HPW,HS1,HCW⟩
   case round =>
    obtain ⟨zs,q,HO2,HL,HPQ,HSQ,HCQ⟩:=hrel
    obtain ⟨n,hn⟩:∃ n,n=zs.length:=⟨_,rfl⟩
    obtain ⟨ao,cap,hv⟩:=HL.out.form
    rw[← hn] at hv HO2
    subst hv
    have HN:=Lib.hid hn
    clear hn
    go_wp2_with fail
    obtain ⟨bo,hbo⟩:∃ bo,Rl.is 1 (some x) q=bo:=⟨_,rfl⟩
    cases bo with
    | true =>
     obtain ⟨t,q2,rfl⟩:∃ t q2,q=t :: q2:=by
      cases q with
      | nil=>cases hbo
      | cons t q2=>exact ⟨t,q2,rfl⟩
     have HBO:=Lib.hid hbo
     clear hbo
     have HSQ2:Hid (Sm q2):=Lib.hid (HSQ.out.suf (List.suffix_cons t q2))
     refine (skip_yes _ b en t q2 HPQ x HBO).mono ?_
     rintro e w2 ⟨rfl,hp2,hc2⟩
     have HP2:=Lib.hid hp2
     have HC2:=Lib.hid hc2
     have HL2:Hid (ListS w.heap.size 64 1 (Cr w.heap.size) zs (.slice ao n cap) w2):=Lib.hid (HL.out.keep (kp_r _) hc2 (TyB.lower (by have:=HP.out.lt;simp;omega) _))
     clear hp2 hc2
     by_cases h12:n=12
     · have n0:((n:Int) == 12)=true:=by subst h12;rfl
       exact mRlF1
     have n0:((n:Int) == 12)=false:=beq_eq_false_iff_ne.2 (by omega)
     have HO3:Hid (O=(Rl.tests q2).bind fun a r=>Rl.sevG Rl.tests x (12 - (n+1)) (zs++[a]) r):=Lib.hid (by
      have:=HO2.out
      rw[this.1,show 12 - n=(12 - (n+1))+1 by omega]
      show (if Rl.is 1 (some x) (t :: q2)=true then _ else _)=_
      rw[if_pos HBO.out]
      rfl)
     have hn12:n+1≤12:=by have:=HO2.out.2.2;omega
     clear h12
     go_wp2_with fail
     refine tests_two w.heap.size (by have:=HC2.out.size;have:=HCQ.out.size;omega) HP2 HSQ2 (fun a r3 uo un uc w3 HN3 HP3 HS3 HC3 HU=>?_) (fun c r3 w3 HN3 HC3=>?_)
     · skip
       have HL3:Hid (ListS w.heap.size 64 1 (Cr w.heap.size) zs (.slice ao n cap) w3):=Lib.hid (HL2.out.keep (kp_r _) HC3.out (TyB.lower (by have:=HP.out.lt;simp;omega) _))
       have HCA:Hid (Chg [] w3 (w3.alloc (.cells #[.slice uo un uc] 64))):=Lib.hid ((Chg.refl _ _).alloc _)
       have hl4:=HL3.out.keep (kp_r _) HCA.out (TyB.nil _ _ _)
       obtain ⟨css,hcs1,hcs2,hcs3⟩:=hl4
       have HCS1:=Lib.hid hcs1
       have HCS2:=Lib.hid hcs2
       rw[← HN.out] at hcs3
       have HCS3:=Lib.hid hcs3
       clear hcs1 hcs2 hcs3
       go_wp2_with (at_builtin;refine wpList_append_lies (w3.alloc (.cells #[.slice uo un uc] 64)) rfl (.tmp 19) (.tmp 22) 65 rfl w.heap.size 64 i0 (.slice none 0 0) 1 24 Tryz.underlying65 hi hz0 hz1 hz2 rfl (by decide) (.slice ao n cap) n css.flatten rfl HCS3.out ⟨w3.heap.size,0,none⟩ 1 1 [.slice uo un uc] rfl rfl (fun j u hj=>by rw[addr_add,Nat.zero_add];exact (Blk.new w3 [.slice uo un uc] _).cell hj) (by intro u hu;simp at hu;(first|(rcases hu with rfl|rfl|rfl|rfl|rfl <;> rfl)|(subst hu;rfl))) (by decide) (by unfold maxLen;omega) (by omega) (by have:=HC3.out.size;have:=HC2.out.size;have:=HCQ.out.size;simp;omega) _ rfl ?kk)
       case kk =>
        intro g9 cap9 w9 hown9 hgrow9 hat9 hlt9
        have hl9:ListS w.heap.size 64 1 (Cr w.heap.size) (zs++[a]) (.slice (some ⟨g9,0,none⟩) (n+1) cap9) w9:=by
         refine ListS.snoc (cs:=[.slice uo un uc]) HCS1.out HCS2.out (by rw[← HN.out];exact HCS3.out) (kp_r _) (by decide) rfl (⟨_,rfl,HU.out.keep (kp_t _) ((Chg.refl [] w3).alloc _) (TyB.nil _ _ _)⟩) hgrow9 ?_
         rw[← HN.out]
         exact hown9
        exact mRlF0
     go_wp2_with fail
     exact ⟨rfl,pbadR (chg1R (chg1R HCQ.out HC2.out) HC3.out) (by rw[HO3.out,HN3.out];rfl)⟩
    | false =>
     have HBO:=Lib.hid hbo
     clear hbo
     refine (skip_no _ b en q HPQ x HBO).mono ?_
     rintro e w2 ⟨rfl,hc2⟩
     have HP2:=Lib.hid (HPQ.out.quiet hc2)
     have HC2:=Lib.hid (chg10 HCQ.out hc2)
     have HL2:Hid (ListS w.heap.size 64 1 (Cr w.heap.size) zs (.slice ao n cap) w2):=Lib.hid (HL.out.keep (kp_r _) hc2 (TyB.nil _ _ _))
     exact mRlF2
 go_wp2_with fail
 exact ⟨rfl,pbadR HC1.out (by rw[HO.out];unfold Rl.sev;rw[HN1.out];rfl)⟩
theorem sevr_two {w:World} {b en:Nat} {l:List Tk} (x:Bytes) (B:Nat) (hB:B≤w.heap.size) (HP:Hid (Par w b l en)) (HS:Hid (Sm l)) {R:Ending→World→Prop}
 (hok:∀ (a:List (List Rl.Tst)) (r:List Tk) (ao:Option Addr) (n cap:Nat) (w':World),Hid (Rl.sev Rl.tests x l = .ok a r)→Hid (Par w' b r en)→Hid (Sm r)→Hid (Chg [b] w w')→Hid (ListS B 64 1 (Cr B) a (.slice ao n cap) w')→R (.returned (.slice ao n cap)) w')
 (hbad:∀ (c:Nat) (r:List Tk) (w':World),Hid (Rl.sev Rl.tests x l = .bad c r)→Hid (Chg [b] w w')→R (.panicked [{ v:=fltR c r en,recovered:=false }]) w') :
 Calls Tryz.prog 57 #[.pointer (some ⟨b,0,none⟩),.func (.func 58) #[.pointer (some ⟨b,0,none⟩)] #[],.string ⟨x.toArray⟩] w R:=by
 refine (sevr_spec w b en l x HP HS).mono ?_
 rintro e w' h
 refine pres_twoR h (fun a r v h1 h2 h3 h4=>?_) (fun c r h1 h2=>hbad c r w' h1 h2)
 obtain ⟨ao,cap,rfl⟩:=h4.form
 have hs:=(Rl.nice_sev Rl.nice_tests x).suf l
 rw[h1.out] at hs
 exact hok a r ao _ cap w' h1 h2 (Lib.hid (HS.out.suf hs)) h3 (Lib.hid (h4.monoR hB (mono_r hB)))
end Go.Proofs.YtglepipfdmphhaaGreatDoor
