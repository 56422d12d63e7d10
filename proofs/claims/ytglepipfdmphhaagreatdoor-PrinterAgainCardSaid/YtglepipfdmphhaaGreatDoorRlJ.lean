/-
  RlI, RlJ in one text.
-/
import Derived.Test.YtglepipfdmphhaaGreatDoorPrTk
import Derived.Test.YtglepipfdmphhaaGreatDoorRlH
import Derived.Defers
import Derived.Recover
import Derived.Test.YtglepipfdmphhaaGreatDoorLxJ
import Derived.Test.YtglepipfdmphhaaGreatDoorLxL
set_option maxRecDepth 100000
set_option maxHeartbeats 40000000
namespace Go.Proofs.YtglepipfdmphhaaGreatDoor
set_option linter.unusedVariables false
set_option linter.unusedSimpArgs false
open Go Go.RowKit Go.Shelf
open Lx (Tk)
attribute [local irreducible] Go.wpStill
theorem assert_faultR (c p:Int) (w:World):(Instr.typeAssert (.iface 100 (.agg #[.int .i64 c,.int .i64 p])) 20 100 true).run Tryz.prog w = .ok (.tuple #[.agg #[.int .i64 c,.int .i64 p],.bool true]) w:=by kernel_rfl
theorem catch_idleR (b2 b3 b4:Nat) (w:World) :
 CallsD Tryz.prog 29 #[.pointer (some ⟨b2,0,none⟩),.pointer (some ⟨b3,0,none⟩),.pointer (some ⟨b4,0,none⟩)] .returning w fun e u' w'=>e = .returned (.tuple #[])∧u' = .returning∧w'=w:=by
 refine callsD_of_wpS Tryz.func29 rfl fun c₀ cs hu=>?_
 apply wpS_seq
 apply wpS_region
 simp[wpOpsS,go_sem,recoverD,hu,Tryz.ntmps29,Exit.thenS]
 refine wpS_of_wp ?_
 simp only[List.size_toArray,List.length_cons,List.length_nil,Nat.reduceAdd,Nat.reduceSub,Array.replicate_succ,
  Array.replicate_zero,List.push_toArray,List.append_toArray,List.nil_append,List.cons_append,List.setIfInBounds_toArray,List.set_cons_zero,List.set_cons_succ]
 go_wp2_with fail
 cases c₀
 simp_all [bodyPostS,results,Tryz.results29]
theorem catch_panR (b2 b3 b4 c p:Nat) (w:World) (v2:Value) (v3 v4:Int) (h2:Blk w b2 [v2] 38) (h3:Blk w b3 [.int .i64 v3] 29) (h4:Blk w b4 [.int .i64 v4] 3) (hn:b2 < b3∧b3 < b4) (older:List PanicEntry) :
 CallsD Tryz.prog 29 #[.pointer (some ⟨b2,0,none⟩),.pointer (some ⟨b3,0,none⟩),.pointer (some ⟨b4,0,none⟩)] (.panicking ({ v:=.iface 100 (.agg #[.int .i64 (c:Int),.int .i64 (p:Int)]),recovered:=false } :: older)) w fun e u' w' =>
  e = .returned (.tuple #[])∧u' = .panicking ({ v:=.iface 100 (.agg #[.int .i64 (c:Int),.int .i64 (p:Int)]),recovered:=true } :: older)∧Blk w' b2 [.slice none 0 0] 38∧Blk w' b3 [.int .i64 (c:Int)] 29∧Blk w' b4 [.int .i64 (p:Int)] 3∧Chg [b2,b3,b4] w w':=by
 refine callsD_of_wpS Tryz.func29 rfl fun c₀ cs hu=>?_
 have hta:=assert_faultR c p
 apply wpS_seq
 apply wpS_region
 simp[wpOpsS,go_sem,recoverD,hu,Tryz.ntmps29,Exit.thenS]
 refine wpS_of_wp ?_
 simp only[List.size_toArray,List.length_cons,List.length_nil,Nat.reduceAdd,Nat.reduceSub,Array.replicate_succ,
  Array.replicate_zero,List.push_toArray,List.append_toArray,List.nil_append,List.cons_append,List.setIfInBounds_toArray,List.set_cons_zero,List.set_cons_succ]
 go_wp2_with fail
 obtain ⟨W,hW⟩:∃ W,W=w.alloc (.cells #[.int .i64 (c:Int),.int .i64 (p:Int)] 100):=⟨_,rfl⟩
 obtain ⟨D,hD⟩:∃ D,D=w.heap.size:=⟨_,rfl⟩
 rw[← hW,← hD]
 have HKD:Hid (Blk W D [.int .i64 (c:Int),.int .i64 (p:Int)] 100):=Lib.hid (by rw[hW,hD];exact Blk.new w _ _)
 have HC0:Hid (Chg [b2,b3,b4] w W):=Lib.hid (by rw[hW];exact (Chg.refl _ _).alloc _)
 have H2:Hid (Blk W b2 [v2] 38):=Lib.hid (by rw[hW];exact h2.alloc _)
 have H3:Hid (Blk W b3 [.int .i64 v3] 29):=Lib.hid (by rw[hW];exact h3.alloc _)
 have H4:Hid (Blk W b4 [.int .i64 v4] 3):=Lib.hid (by rw[hW];exact h4.alloc _)
 have n23:¬ b3=b2:=by omega
 have n24:¬ b4=b2:=by omega
 have n34:¬ b4=b3:=by omega
 have n32:¬ b2=b3:=by omega
 have n42:¬ b2=b4:=by omega
 have n43:¬ b3=b4:=by omega
 have y0:=HKD.out.cell (i:=0) rfl
 have y1:=HKD.out.cell (i:=1) rfl
 have k2:=H2.out.cell (i:=0) rfl
 have k3:=H3.out.cell (i:=0) rfl
 have k4:=H4.out.cell (i:=0) rfl
 have z2:=H2.out.free 0
 have z3:=H3.out.free 0
 have z4:=H4.out.free 0
 have HU:=Lib.hid hu
 clear hu hW hD h2 h3 h4 hta
 have nD2:¬ D=b2:=by have:=HKD.out;have e:=H2.out;intro h;subst h;have:=this.same e;simp at this
 have nD3:¬ D=b3:=by have:=HKD.out;have e:=H3.out;intro h;subst h;have:=this.same e;simp at this
 have nD4:¬ D=b4:=by have:=HKD.out;have e:=H4.out;intro h;subst h;have:=this.same e;simp at this
 have n2D:¬ b2=D:=fun h=>nD2 h.symm
 have n3D:¬ b3=D:=fun h=>nD3 h.symm
 have n4D:¬ b4=D:=fun h=>nD4 h.symm
 refine wp_region_held_drew (S:=fun W=>Blk W D [.int .i64 (c:Int),.int .i64 (p:Int)] 100) (by kernel_rfl) HKD.out (fun hHeld=>?_)
 refine tq 0 ?_ (hy:=by intro w9 hSw;have d0:=hSw.cell (i:=0) rfl;have d1:=hSw.cell (i:=1) rfl;go_simp;try with_reducible rfl)
 refine tq 1 ?_ (hy:=by intro w9 hSw;have d0:=hSw.cell (i:=0) rfl;have d1:=hSw.cell (i:=1) rfl;go_simp;try with_reducible rfl)
 refine tq 2 ?_ (hy:=by intro w9 hSw;have d0:=hSw.cell (i:=0) rfl;have d1:=hSw.cell (i:=1) rfl;go_simp;try with_reducible rfl)
 refine tq 3 ?_ (hy:=by intro w9 hSw;have d0:=hSw.cell (i:=0) rfl;have d1:=hSw.cell (i:=1) rfl;go_simp;try with_reducible rfl)
 refine tq 4 ?_ (hy:=by intro w9 hSw;have d0:=hSw.cell (i:=0) rfl;have d1:=hSw.cell (i:=1) rfl;go_simp;try with_reducible rfl)
 refine rd1 5 (fun K hK=>?_)
 go_simp
 refine kq hK (hHeld.other ⟨b2,0,none⟩ _ nD2) (fun hHeld=>?_)
 refine rd1 6 (fun K hK=>?_)
 go_simp
 refine kq hK (hHeld.other ⟨b3,0,none⟩ _ nD3) (fun hHeld=>?_)
 refine rd1 7 (fun K hK=>?_)
 go_simp
 refine kq hK (hHeld.other ⟨b4,0,none⟩ _ nD4) (fun hHeld=>?_)
 refine dq ?_
 go_wp2_with fail
 have hc:Chg [b2,b3,b4] w (((W.setCell ⟨b2,0,none⟩ (.slice none 0 0)).setCell ⟨b3,0,none⟩ (.int .i64 (c:Int))).setCell ⟨b4,0,none⟩ (.int .i64 (p:Int))).drew:=(((HC0.out.setCell _ _ (.inl (by simp))).setCell _ _ (.inl (by simp))).setCell _ _ (.inl (by simp))).drew
 simp[bodyPostS,results,Tryz.results29]
 exact ⟨((H2.out.set 0 _).other _ _ n32).other _ _ n42,((H3.out.other _ _ n23).set 0 _).other _ _ n43,((H4.out.other _ _ n24).other _ _ n34).set 0 _,hc⟩
end Go.Proofs.YtglepipfdmphhaaGreatDoor
set_option maxRecDepth 100000
set_option maxHeartbeats 40000000
namespace Go.Proofs.YtglepipfdmphhaaGreatDoor
set_option linter.unusedVariables false
set_option linter.unusedSimpArgs false
open Go Go.RowKit Go.Shelf
open Lx (Tk)
attribute [local go_sem ↓] Go.wp_at_zero Go.wp_at_succ
attribute [local irreducible] Go.wpStill
theorem leaves_frameR {P:Program} {fn:Func} {t t':Array Value} {R:Ending→World→Prop} (h:results fn t'=results fn t):∀ (ds:List Deferred) (u:FrameMode) (w:World),Leaves P fn t' R ds u w→Leaves P fn t R ds u w
 | [],.returning,w,⟨v,h1,h2⟩=>⟨v,by rw[← h];exact h1,h2⟩
 | [],.panicking c,w,hh=>hh
 | [],.run,w,hh=>hh
 | d :: ds,u,w,⟨hu,fv,cap,f,args,h1,h2,h3⟩=>⟨hu,fv,cap,f,args,h1,h2,h3.mono (by
  intro e u' w' hh
  cases e with
  | returned v=>exact leaves_frameR h ds _ _ hh
  | panicked c=>exact leaves_frameR h ds _ _ hh
  | outgrown=>exact hh)⟩
theorem res11 (t:Array Value) (i:Nat) (v:Value) (h2:i≠2) (h3:i≠3) (h4:i≠4):results Tryz.f10 (t.setIfInBounds i v)=results Tryz.f10 t:=by
 simp[results,Tryz.results10]
 rw[Array.getElem?_setIfInBounds_ne h2,Array.getElem?_setIfInBounds_ne h3,Array.getElem?_setIfInBounds_ne h4]
theorem hq11 {P:Program} {R:Ending→World→Prop} (i:Nat) (h2:i≠2) (h3:i≠3) (h4:i≠4) (v:Value) (c:List PanicEntry) (a:Act) (w:World) (h:bodyPostD P Tryz.f10 R (.panic c) (a.put (some i) v) w):bodyPostD P Tryz.f10 R (.panic c) a w :=
 leaves_frameR (res11 a.tmps i v h2 h3 h4) _ _ _ h
theorem door_panR {tmps:Array Value} {R:Ending→World→Prop} {b2 b3 b4 c p:Nat} {v2:Value} {v3 v4:Int} {w:World} (t2:tmps.getD 2 undef = .pointer (some ⟨b2,0,none⟩)) (t3:tmps.getD 3 undef = .pointer (some ⟨b3,0,none⟩)) (t4:tmps.getD 4 undef = .pointer (some ⟨b4,0,none⟩))
 (h2:Blk w b2 [v2] 38) (h3:Blk w b3 [.int .i64 v3] 29) (h4:Blk w b4 [.int .i64 v4] 3) (hn:b2 < b3∧b3 < b4)
 (hR:∀ w',Chg [b2,b3,b4] w w'→R (.returned (.tuple #[.agg #[.slice none 0 0],.int .i64 (c:Int),.int .i64 (p:Int)])) w') :
 Leaves Tryz.prog Tryz.f10 tmps R [{ target:=.fn (.func 29) #[.pointer (some ⟨b2,0,none⟩),.pointer (some ⟨b3,0,none⟩),.pointer (some ⟨b4,0,none⟩)],args:=#[] }] (.panicking [{ v:=.iface 100 (.agg #[.int .i64 (c:Int),.int .i64 (p:Int)]),recovered:=false }]) w:=by
 refine leaves_cons (f:=29) (args:=#[.pointer (some ⟨b2,0,none⟩),.pointer (some ⟨b3,0,none⟩),.pointer (some ⟨b4,0,none⟩)]) (by simp) (by simp[go_sem]) ?_
 refine (catch_panR b2 b3 b4 c p w v2 v3 v4 h2 h3 h4 hn []).mono ?_
 rintro e u' w' ⟨rfl,rfl,k2,k3,k4,hc⟩
 have c2:=k2.cell (i:=0) rfl
 have c3:=k3.cell (i:=0) rfl
 have c4:=k4.cell (i:=0) rfl
 have hs:settle (.panicking [{ v:=.iface 100 (.agg #[.int .i64 (c:Int),.int .i64 (p:Int)]),recovered:=true }]) = .returning:=by simp[settle]
 show Leaves _ _ _ _ [] (settle _) w'
 rw[hs]
 refine ⟨.tuple #[.agg #[.slice none 0 0],.int .i64 (c:Int),.int .i64 (p:Int)],?_,hR w' hc⟩
 rw[Array.getD_eq_getD_getElem?] at t2 t3 t4
 simp[results,Tryz.results10,go_sem,t2,t3,t4,c2,c3,c4]
theorem info_item:(Tryz.prog.info? 69).map (fun i=>(i.zero,i.size,i.bytes))=some (some (.agg #[.int .i64 0,.string ⟨#[]⟩,.slice none 0 0,.int .i64 0,.int .i64 0,.int .i64 0,.int .i64 0,.int .i64 0,.int .i64 0]),9,96):=by kernel_rfl
def Ci (B:Nat) (x:Rl.Itm) (cs:List Value) (w:World):Prop:=∃ u,cs=[.int .i64 (x.kind:Nat),.string ⟨x.name.toArray⟩,u,.int .i64 (x.n:Nat),.int .i64 (x.r.1:Nat),.int .i64 (x.r.2:Nat),.int .i64 (x.s.1:Nat),.int .i64 (x.s.2:Nat),.int .i64 (x.at_:Nat)]∧ListS B 64 1 (Cr B) x.whn u w
theorem kp_i (B:Nat):Kp B [64,63] (Ci B):=fun own w w' a cs hc ho ⟨u,h1,h2⟩=>⟨u,h1,h2.keep (kp_r B) hc ho⟩
theorem mono_i {B B':Nat} (h:B≤B'):∀ (a:Rl.Itm) (cs:List Value) (w:World),Ci B' a cs w→Ci B a cs w:=fun a cs w ⟨u,h1,h2⟩=>⟨u,h1,h2.monoR h (mono_r h)⟩
theorem TyB.par {w:World} {b en B:Nat} {l:List Tk} {Es:List TypeId} (h:Par w b l en) (he:104 ∉ Es):TyB [b] w B Es:=fun k hk=>.inr (fun cs e fr hh he'=>by
 obtain ⟨ao,cap,h1,_⟩:=h
 simp at hk
 subst hk
 have h2:w.heap[k]? = some (.cells #[.slice ao l.length cap,.int .i64 (en:Int)] 104 (0,0)):=h1
 rw[h2] at hh
 cases hh
 exact he he')
theorem item_two {w:World} {b en:Nat} {l:List Tk} (HP:Hid (Par w b l en)) (HS:Hid (Sm l)) (B:Nat) (hB:B≤w.heap.size) {R:Ending→World→Prop}
 (hok:∀ (x:Rl.Itm) (r:List Tk) (ao:Option Addr) (n cap:Nat) (w':World),Hid (Rl.item l = .ok x r)→Hid (Par w' b r en)→Hid (Sm r)→Hid (Chg [b] w w')→Hid (ListS B 64 1 (Cr B) x.whn (.slice ao n cap) w') →
  R (.returned (.agg #[.int .i64 (x.kind:Nat),.string ⟨x.name.toArray⟩,.slice ao n cap,.int .i64 (x.n:Nat),.int .i64 (x.r.1:Nat),.int .i64 (x.r.2:Nat),.int .i64 (x.s.1:Nat),.int .i64 (x.s.2:Nat),.int .i64 (x.at_:Nat)])) w')
 (hbad:∀ (c:Nat) (r:List Tk) (w':World),Hid (Rl.item l = .bad c r)→Hid (Chg [b] w w')→R (.panicked [{ v:=fltR c r en,recovered:=false }]) w') :
 Calls Tryz.prog 31 #[.pointer (some ⟨b,0,none⟩)] w R:=by
 refine (item_spec w b en l HP HS).mono ?_
 rintro e w' h
 refine pres_twoR h (fun a r v h1 h2 h3 h4=>?_) (fun c r h1 h2=>hbad c r w' h1 h2)
 obtain ⟨u,rfl,h5⟩:=h4
 obtain ⟨ao,cap,rfl⟩:=h5.form
 have hs:=Rl.nice_item.suf l
 rw[h1.out] at hs
 exact hok a r ao _ cap w' h1 h2 (Lib.hid (HS.out.suf hs)) h3 (Lib.hid (h5.monoR hB (mono_r hB)))
def leftAt (b:Nat) (w:World):Nat:=match w.cell? ⟨b,0,none⟩ with
 | some v=>lenOfR v
 | none=>0
theorem left_par {w:World} {b en:Nat} {l:List Tk} (h:Par w b l en):leftAt b w=l.length:=by
 obtain ⟨ao,cap,h1,_⟩:=h
 unfold leftAt
 rw[h1.cell (i:=0) rfl]
 rfl
def ParsedR (w:World) (o:List Rl.Itm × Nat × Int) (e:Ending) (w':World):Prop:=∃ v,e = .returned (.tuple #[.agg #[v],.int .i64 (o.2.1:Nat),.int .i64 o.2.2])∧ListS w.heap.size 69 9 (Ci w.heap.size) o.1 v w'∧Chg [] w w'
theorem door_retR {tmps:Array Value} {R:Ending→World→Prop} {b2 b3 b4:Nat} {v2:Value} {v3 v4:Int} {w:World} (t2:tmps.getD 2 undef = .pointer (some ⟨b2,0,none⟩)) (t3:tmps.getD 3 undef = .pointer (some ⟨b3,0,none⟩)) (t4:tmps.getD 4 undef = .pointer (some ⟨b4,0,none⟩))
 (h2:Blk w b2 [v2] 38) (h3:Blk w b3 [.int .i64 v3] 29) (h4:Blk w b4 [.int .i64 v4] 3) (hR:R (.returned (.tuple #[.agg #[v2],.int .i64 v3,.int .i64 v4])) w) :
 Leaves Tryz.prog Tryz.f10 tmps R [{ target:=.fn (.func 29) #[.pointer (some ⟨b2,0,none⟩),.pointer (some ⟨b3,0,none⟩),.pointer (some ⟨b4,0,none⟩)],args:=#[] }] .returning w:=by
 refine leaves_cons (f:=29) (args:=#[.pointer (some ⟨b2,0,none⟩),.pointer (some ⟨b3,0,none⟩),.pointer (some ⟨b4,0,none⟩)]) (by simp) (by simp[go_sem]) ?_
 refine (catch_idleR b2 b3 b4 w).mono ?_
 rintro e u' w' ⟨rfl,rfl,rfl⟩
 have c2:=h2.cell (i:=0) rfl
 have c3:=h3.cell (i:=0) rfl
 have c4:=h4.cell (i:=0) rfl
 refine ⟨.tuple #[.agg #[v2],.int .i64 v3,.int .i64 v4],?_,hR⟩
 rw[Array.getD_eq_getD_getElem?] at t2 t3 t4
 simp[results,Tryz.results10,go_sem,t2,t3,t4,c2,c3,c4]
theorem Rl.parse_ok {s:Bytes} (h:(Lx.lex s).2.1=0) {z:List Rl.Itm} {r:List Tk} (hi:Rl.items 200 [] (Lx.lex s).1 = .ok z r):Rl.parse s=(z,0,0):=by
 unfold Rl.parse
 rw[if_neg (by simpa using h),hi]
 rfl
theorem Rl.parse_bad {s:Bytes} (h:(Lx.lex s).2.1=0) {c:Nat} {r:List Tk} (hi:Rl.items 200 [] (Lx.lex s).1 = .bad c r):Rl.parse s=([],Rl.code c r,(Rl.place s.length r:Int)):=by
 unfold Rl.parse
 rw[if_neg (by simpa using h),hi]
 rfl
def ParN (w:World) (b:Nat) (l:List Tk) (en:Nat):Prop:=∃ ao cap,Blk w b [.slice ao l.length cap,.int .i64 (en:Int)] 104∧(l≠[]→Par w b l en)
theorem Par.n {w:World} {b en:Nat} {l:List Tk} (h:Par w b l en):ParN w b l en:=by
 obtain ⟨ao,cap,h1,h2⟩:=h
 exact ⟨ao,cap,h1,fun _=>⟨ao,cap,h1,h2⟩⟩
theorem toks_ltR {w:World} {ao:Option Addr} {m cap:Nat} {l:List Tk} (h:TokS w (.slice ao m cap) l) (hne:l≠[]):∃ g off,ao=some ⟨g,off,none⟩∧g < w.heap.size:=by
 obtain ⟨ao',cap',he,_,h3⟩:=h
 cases he
 cases l with
 | nil=>exact absurd rfl hne
 | cons t r =>
  obtain ⟨g,off,h4,h5,_⟩:=h3 0 t rfl
  exact ⟨g,off,h4,World.block_lt_of_cell? _ _ h5⟩
theorem sc_text:∀ (o:Nat) (s:Bytes),∀ x ∈ Lx.sc o s,x.1.text.length≤s.length:=by
 refine Lx.sc_ind ?_ ?_ ?_ ?_ ?_
 · intro o x hx
   simp[Lx.sc_nil] at hx
 · intro o c s h ih x hx
   rw[Lx.sc_blank h] at hx
   have:=ih x hx
   simp
   omega
 · intro o c s h ih x hx
   rw[Lx.sc_hash h] at hx
   have:=ih x hx
   rw[List.length_drop] at this
   omega
 · intro o c s h1 h2 h3 x hx
   rw[Lx.sc_err h1 h2 h3] at hx
   simp only[List.mem_singleton] at hx
   subst hx
   exact List.length_take_le' _ _
 intro o c s h1 h2 h3 ih x hx
 rw[Lx.sc_tok h1 h2 h3] at hx
 rcases List.mem_cons.1 hx with rfl|hx
 · exact List.length_take_le' _ _
 have:=ih x hx
 rw[List.length_drop] at this
 omega
theorem fin_mem:∀ (l:List (Tk × Nat)) (k:Nat) (out:List Tk),∀ t ∈ (Lx.fin k out l).1,t ∈ out∨∃ x ∈ l,x.1=t
 | [],k,out,t,h=>.inl h
 | (u,e) :: r,k,out,t,h=>by
  unfold Lx.fin at h
  split at h
  · simp at h
  split at h
  · simp at h
  rcases fin_mem r _ _ t h with h1|⟨x,h1,h2⟩
  · rcases List.mem_append.1 h1 with h2|h2
    · exact .inl h2
    exact .inr ⟨(u,e),by simp,(List.mem_singleton.1 h2).symm⟩
  exact .inr ⟨x,by simp[h1],h2⟩
theorem sm_lex (s:Bytes) (hs:s.length≤100000):Sm (Lx.lex s).1:=by
 intro t ht
 unfold Lx.lex at ht
 split at ht
 · simp at ht
 rcases fin_mem _ _ _ t ht with h1|⟨x,h1,rfl⟩
 · simp at h1
 have:=sc_text 0 s x h1
 omega
theorem ListS.box {B b:Nat} {W:World} {u x:Value} {E:TypeId} {l:List Rl.Itm} {v:Value} (h:ListS B 69 9 (Ci B) l v W) (hb:Blk W b [x] E) (hE:E ∉ [69,64,63]:=by decide):ListS B 69 9 (Ci B) l v (W.setCell ⟨b,0,none⟩ u) :=
 h.keep (kp_i B) (own:=[b]) ((Chg.refl _ _).setCell _ _ (.inl (by simp))) (fun k hk=>.inr (fun ds e fr hh he=>by
  simp at hk
  subst hk
  have hx:W.heap[k]? = some (.cells #[x] E (0,0)):=hb
  rw[hx] at hh
  cases hh
  exact hE he))
theorem Rl.item_short {l:List Tk} {x:Rl.Itm} {r:List Tk} (h:Rl.item l = .ok x r):r.length < l.length:=by
 obtain ⟨c,rfl⟩:=Rl.nice_item.cut h
 have h1:=(Rl.shut_item.cut c r x h).1
 have:=List.length_pos_iff.2 h1
 rw[List.length_append]
 omega
theorem TokS.frmR {w:World} {v:Value} {l:List Tk} (h:TokS w v l):∃ ao cap,v = .slice ao l.length cap:=by
 obtain ⟨ao,cap,h1,_⟩:=h
 exact ⟨ao,cap,h1⟩
theorem toks_apartR {w w':World} {v:Value} {l:List Tk} {own:List Nat} (h:TokS w v l) (hc:Chg own w w') (ho:∀ k ∈ own,∃ x e,Blk w k [x] e):TokS w' v l:=by
 obtain ⟨ao,cap,rfl,h2,h3⟩:=h
 refine ⟨ao,cap,rfl,h2,fun i t ht=>?_⟩
 obtain ⟨g,off,h4,h5,h6,h7,h8⟩:=h3 i t ht
 have hno:g ∉ own:=fun hm=>by
  obtain ⟨x,e,hb⟩:=ho g hm
  unfold Blk at hb
  rw[cell_of_row w g _ _ e (0,0) hb] at h6
  simp at h6
 have hg:=hc.block g (World.block_lt_of_cell? _ _ h5) hno
 exact ⟨g,off,h4,(World.cell?_of_block (a:=⟨g,off+4*i,none⟩) hg).trans h5,(World.cell?_of_block (a:=⟨g,off+4*i+1,none⟩) hg).trans h6,(World.cell?_of_block (a:=⟨g,off+4*i+2,none⟩) hg).trans h7,(World.cell?_of_block (a:=⟨g,off+4*i+3,none⟩) hg).trans h8⟩
theorem Par.box {w:World} {b en k:Nat} {l:List Tk} {x v:Value} {e:TypeId} (h:Par w b l en) (hk:Blk w k [x] e) (hne:b≠k):Par (w.setCell ⟨k,0,none⟩ v) b l en:=by
 have hc:Chg [k] w (w.setCell ⟨k,0,none⟩ v):=(Chg.refl _ _).setCell _ _ (.inl (by simp))
 obtain ⟨ao,cap,h1,h2,h3⟩:=h
 exact ⟨ao,cap,hc.blk h1 (by simpa using hne),toks_apartR h2 hc (fun j hj=>by simp at hj;subst hj;exact ⟨_,_,hk⟩),h3⟩
def PLoop (w:World) (s:Bytes) (pb b2 b3 b4 er:Nat) (at9:Int) (wr:World):Prop:=∃ (acc:List Rl.Itm) (q:List Tk) (ao:Option Addr) (n cap:Nat),Hid (Rl.items 200 [] (Lx.lex s).1=Rl.items (200 - n) acc q∧n=acc.length∧n≤200)∧Hid (Blk wr b2 [.slice ao n cap] 38)∧Hid (Blk wr b3 [.int .i64 (er:Nat)] 29)∧Hid (Blk wr b4 [.int .i64 at9] 3)∧Hid (ListS (pb+1) 69 9 (Ci (pb+1)) acc (.slice ao n cap) wr)∧Hid (ParN wr pb q s.length)∧Hid (Sm q)∧Hid (Chg [] w wr)
theorem mRlJ0 {G:Prop} (h:G:=by
  try simp only[qq]
  refine rd1 7 (fun K hK=>?_)
  · go_simp
    obtain ⟨wz,hwz⟩:∃ wz,wz=w9.setCell ⟨b2,0,none⟩ (.slice (some ⟨g9,0,none⟩) (n+1) cap9):=⟨_,rfl⟩
    rw[← hwz]
    refine hK.out _ _ trivial (fun _=>?_)
    clear hK K
    try simp only[qq]
    refine dq ?_
    have hlen:(acc++[x]).length=n+1:=by rw[List.length_append,← HNA.out];rfl
    have hpz:Par wz pb q2 s.length:=by rw[hwz];exact HP9.out.box HR9.out (by have:=HNP.out;omega)
    have hrel9:PLoop w s pb b2 b3 b4 er at9 wz:=⟨acc++[x],q2,some ⟨g9,0,none⟩,n+1,cap9,Lib.hid ⟨by rw[HOI.out,HNI.out];rfl,hlen.symm,hn200⟩,Lib.hid (by rw[hwz];exact HR9.out.set 0 _),Lib.hid (by rw[hwz];exact HE9.out.other _ _ n32),Lib.hid (by rw[hwz];exact HA9.out.other _ _ n42),Lib.hid (by rw[hwz];exact HL9.out.box HR9.out),Lib.hid hpz.n,HSX,Lib.hid (by rw[hwz];exact HCG.out.setCell _ _ (.inr (by show _≤b2;have:=HN.out;omega)))⟩
    have HREL:=Lib.hid hrel9
    have HPZ:=Lib.hid hpz
    clear hrel9 hpz hwz hlen
    go_wp2_with fail
    refine ⟨?_,?_⟩
    · first|exact HREL.out|(repeat apply Exists.intro) <;> exact ⟨HREL.out,rfl⟩
    rw[left_par HPZ.out,HML.out]
    have h2:=Rl.item_short HNI.out
    simp at h2
    omega):G:=h
theorem mRlJ1 {G:Prop} (h:G:=by
  refine ListS.snoc (cs:=[.int .i64 (x.kind:Nat),.string ⟨x.name.toArray⟩,.slice uo un uc,.int .i64 (x.n:Nat),.int .i64 (x.r.1:Nat),.int .i64 (x.r.2:Nat),.int .i64 (x.s.1:Nat),.int .i64 (x.s.2:Nat),.int .i64 (x.at_:Nat)]) HCS1.out HCS2.out (by rw[← HNA.out];exact HCS3.out) (kp_i _) (by decide) rfl ⟨_,rfl,HUX.out.keep (kp_r _) HCA.out (TyB.nil _ _ _)⟩ hgrow9 ?_
  rw[← HNA.out]
  exact hown9):G:=h
theorem mRlJ2 {G:Prop} (h:G:=by
  refine door_panR (v2:=.slice ao n cap) (v3:=(er:Nat)) (v4:=at9) rfl rfl rfl (hcx.blk HR2.out (by have:=HNP.out;simp;omega)) (hcx.blk HE2.out (by have:=HNP.out;simp;omega)) (hcx.blk HA2.out (by have:=HNP.out;simp;omega)) (by have:=HN.out;omega) (fun w5 hc5=>?_)
  have hp:Rl.parse s=([],Rl.code c q2,(Rl.place s.length q2:Int)):=Rl.parse_bad (HER.out.trans H0.out) (by rw[HOI.out,HNI.out];rfl)
  rw[hp]
  exact ⟨.slice none 0 0,rfl,ListS.nil _ _ _ _ _,(HCQ.out.trans hcx (fun k hk=>.inr (by simp at hk;have:=HNP.out;have:=HN.out;omega))).trans hc5 (fun k hk=>.inr (by simp at hk;have:=HN.out;omega))⟩):G:=h
theorem parse_specR (w:World) (s:Bytes) (hs:s.length≤100000):Calls Tryz.prog 10 #[.string ⟨s.toArray⟩] w (ParsedR w (Rl.parse s)):=by
 obtain ⟨i0,hi,hz0,hz1,hz2⟩:=info_parts info_item
 go_enter_defers Tryz.func10,Tryz.ntmps10
 have hmf:∀ (fn:Fn) (first cap:Array Value) (w:World),(Instr.makeFunc fn first cap).run Tryz.prog w = .ok (.func fn first cap) w:=fun _ _ _ _=>rfl
 go_upto_region 1 with fail
 obtain ⟨W,hW⟩:∃ W,W=((w.alloc (.cells #[.slice none 0 0] 38)).alloc (.cells #[.int .i64 0] 29)).alloc (.cells #[.int .i64 0] 3):=⟨_,rfl⟩
 rw[← hW]
 obtain ⟨b2,hb2⟩:∃ b,b=w.heap.size:=⟨_,rfl⟩
 obtain ⟨b3,hb3⟩:∃ b,b=w.heap.size+1:=⟨_,rfl⟩
 obtain ⟨b4,hb4⟩:∃ b,b=w.heap.size+1+1:=⟨_,rfl⟩
 rw[← hb4,← hb3,← hb2]
 have HC0:Hid (Chg [] w W):=Lib.hid (by rw[hW];exact (((Chg.refl _ _).alloc _).alloc _).alloc _)
 have HK2:Hid (Blk W b2 [.slice none 0 0] 38):=Lib.hid (by rw[hW,hb2];exact ((Blk.new w _ _).alloc _).alloc _)
 have HK3:Hid (Blk W b3 [.int .i64 0] 29):=Lib.hid (by rw[hW,hb3];have:=(Blk.new (w.alloc (.cells #[.slice none 0 0] 38)) [.int .i64 0] 29).alloc (.cells #[.int .i64 0] 3);simpa using this)
 have HK4:Hid (Blk W b4 [.int .i64 0] 3):=Lib.hid (by rw[hW,hb4];have:=(Blk.new ((w.alloc (.cells #[.slice none 0 0] 38)).alloc (.cells #[.int .i64 0] 29)) [.int .i64 0] 3);simpa using this)
 have HN:Hid (b2=w.heap.size∧b3=w.heap.size+1∧b4=w.heap.size+2):=Lib.hid ⟨hb2,hb3,by omega⟩
 have n32:¬ b3=b2:=by omega
 have n42:¬ b4=b2:=by omega
 have n43:¬ b4=b3:=by omega
 have n23:¬ b2=b3:=by omega
 have n24:¬ b2=b4:=by omega
 have n34:¬ b3=b4:=by omega
 clear hW hb2 hb3 hb4
 go_wp2_with fail
 refine (lex_spec _ s (by omega)).mono ?_
 rintro e w1 ⟨v,rfl,htk,hc1⟩
 have HT:=Lib.hid htk
 have HC1:=Lib.hid hc1
 have HK21:=Lib.hid (hc1.blk HK2.out (by simp))
 have HK31:=Lib.hid (hc1.blk HK3.out (by simp))
 have HK41:=Lib.hid (hc1.blk HK4.out (by simp))
 clear htk hc1
 obtain ⟨er,her⟩:∃ er,(Lx.lex s).2.1=er:=⟨_,rfl⟩
 obtain ⟨at9,hat⟩:∃ at9,(Lx.lex s).2.2=at9:=⟨_,rfl⟩
 rw[her,hat]
 have HER:=Lib.hid her
 have HAT:=Lib.hid hat
 clear her hat
 have y3:=HK31.out.cell (i:=0) rfl
 have y4:=HK41.out.cell (i:=0) rfl
 have z3:=HK31.out.free 0
 have z4:=HK41.out.free 0
 by_cases h0:er=0
 · have n0:((er:Int) != 0)=false:=by subst h0;rfl
   have H0:=Lib.hid h0
   clear h0
   go_upto_region 4 with fail
   obtain ⟨w2,hw2⟩:∃ w2,w2=(w1.setCell ⟨b3,0,none⟩ (.int .i64 (er:Nat))).setCell ⟨b4,0,none⟩ (.int .i64 at9):=⟨_,rfl⟩
   rw[← hw2]
   have HCC:Hid (Chg [b3,b4] w1 w2):=Lib.hid (by rw[hw2];exact ((Chg.refl _ _).setCell _ _ (.inl (by simp))).setCell _ _ (.inl (by simp)))
   have HB2:Hid (Blk w2 b2 [.slice none 0 0] 38):=Lib.hid (by rw[hw2];exact (HK21.out.other _ _ n23).other _ _ n24)
   have HB3:Hid (Blk w2 b3 [.int .i64 (er:Nat)] 29):=Lib.hid (by rw[hw2];exact (HK31.out.set 0 _).other _ _ n34)
   have HB4:Hid (Blk w2 b4 [.int .i64 at9] 3):=Lib.hid (by rw[hw2];exact (HK41.out.other _ _ n43).set 0 _)
   have HC2:Hid (Chg [] w w2):=Lib.hid ((HC0.out.trans HC1.out (by simp)).trans HCC.out (fun k hk=>.inr (by simp at hk;have:=HN.out;omega)))
   have HT2:Hid (TokS w2 v (Lx.lex s).1):=Lib.hid (toks_apartR HT.out HCC.out (fun k hk=>by simp at hk;rcases hk with rfl|rfl;exact ⟨_,_,HK31.out⟩;exact ⟨_,_,HK41.out⟩))
   clear hw2 y3 y4 z3 z4
   obtain ⟨ao0,cap0,hv⟩:=HT2.out.frmR
   obtain ⟨m,hm⟩:∃ m,(Lx.lex s).1.length=m:=⟨_,rfl⟩
   rw[hm] at hv
   have HM:=Lib.hid hm
   subst hv
   clear hm
   have HSZ:Hid ((⟨s.toArray⟩:ByteArray).size=s.length):=Lib.hid (by show s.toArray.size=_;simp)
   go_wp2_with fail
   obtain ⟨w3,hw3⟩:∃ w3,w3=w2.alloc (.cells #[.slice ao0 m cap0,.int .i64 (s.length:Nat)] 104):=⟨_,rfl⟩
   obtain ⟨pb,hpb⟩:∃ pb,pb=w2.heap.size:=⟨_,rfl⟩
   rw[← hw3,← hpb]
   have HC3:Hid (Chg [] w w3):=Lib.hid (by rw[hw3];exact HC2.out.alloc _)
   have HNP:Hid (b2 < pb∧b3 < pb∧b4 < pb):=Lib.hid ⟨by rw[hpb];exact HB2.out.lt,by rw[hpb];exact HB3.out.lt,by rw[hpb];exact HB4.out.lt⟩
   have HR3:Hid (Blk w3 b2 [.slice none 0 0] 38):=Lib.hid (by rw[hw3];exact HB2.out.alloc _)
   have HE3:Hid (Blk w3 b3 [.int .i64 (er:Nat)] 29):=Lib.hid (by rw[hw3];exact HB3.out.alloc _)
   have HA3:Hid (Blk w3 b4 [.int .i64 at9] 3):=Lib.hid (by rw[hw3];exact HB4.out.alloc _)
   have HP3:Hid (ParN w3 pb (Lx.lex s).1 s.length):=Lib.hid (by
    have hb:=Blk.new w2 [.slice ao0 m cap0,.int .i64 (s.length:Nat)] 104
    rw[← hw3,← hpb] at hb
    refine ⟨ao0,cap0,by rw[HM.out];exact hb,fun hne=>⟨ao0,cap0,by rw[HM.out];exact hb,?_,?_⟩⟩
    · rw[HM.out]
      have:=HT2.out.quiet ((Chg.refl [] w2).alloc (.cells #[.slice ao0 m cap0,.int .i64 (s.length:Nat)] 104))
      rwa [← hw3] at this
    intro ad had
    obtain ⟨g,off,h1,h2⟩:=toks_ltR HT2.out hne
    rw[h1] at had
    cases had
    rw[hpb]
    exact h2)
   have HSM:Hid (Sm (Lx.lex s).1):=Lib.hid (sm_lex s hs)
   clear hw3 hpb
   go_loopw [] (fun wr=>PLoop w s pb b2 b3 b4 er at9 wr) (fun wr=>leftAt pb wr)
   case atStart=>exact ⟨[],(Lx.lex s).1,none,0,0,Lib.hid ⟨rfl,rfl,by omega⟩,HR3,HE3,HA3,Lib.hid (ListS.nil _ _ _ _ _),HP3,HSM,HC3⟩
   case round =>
    obtain ⟨acc,q,ao,n,cap,HOQ,HR2,HE2,HA2,HLQ,HPN,HSQ,HCQ⟩:=hrel
    have HNA:Hid (n=acc.length):=Lib.hid HOQ.out.2.1
    have k2:=HR2.out.cell (i:=0) rfl
    cases q with
    | nil =>
     obtain ⟨pa,pc,hpb0,_⟩:=HPN.out
     have c0:=hpb0.cell (i:=0) rfl
     have k3:=HE2.out.cell (i:=0) rfl
     have k4:=HA2.out.cell (i:=0) rfl
     have e2:=HR2.out.free 0
     have e3:=HE2.out.free 0
     have e4:=HA2.out.free 0
     clear hpb0
     go_wp2_with fail
     refine door_retR rfl rfl rfl ((HR2.out.set 0 _).other _ _ n23 |>.other _ _ n24) ((HE2.out.other _ _ n32).set 0 _ |>.other _ _ n34) (((HA2.out.other _ _ n42).other _ _ n43).set 0 _) ?_
     have hp:Rl.parse s=(acc,0,0):=Rl.parse_ok (HER.out.trans H0.out) (by rw[HOQ.out.1];exact Rl.items_done _ _)
     rw[hp]
     refine ⟨.slice ao n cap,rfl,?_,?_⟩
     · exact (((HLQ.out.box HR2.out).box (HE2.out.other _ _ n32)).box ((HA2.out.other _ _ n42).other _ _ n43)).monoR (by have:=HNP.out;have:=HN.out;omega) (mono_i (by have:=HNP.out;have:=HN.out;omega))
     exact ((HCQ.out.setCell _ _ (.inr (by show _≤b2;have:=HN.out;omega))).setCell _ _ (.inr (by show _≤b3;have:=HN.out;omega))).setCell _ _ (.inr (by show _≤b4;have:=HN.out;omega))
    | cons t r =>
     have HPQ:Hid (Par wr pb (t :: r) s.length):=Lib.hid (by obtain ⟨_,_,_,h⟩:=HPN.out;exact h (by simp))
     obtain ⟨g,off,pcap,hb,hcap,hgb,j0,j1,j2,j3⟩:=HPQ.out.cons
     have c0:=hb.cell (i:=0) rfl
     clear hb j0 j1 j2 j3
     by_cases h200:n=200
     · have m0:((n:Int) == 200)=true:=by subst h200;rfl
       have H200:=Lib.hid h200
       clear h200
       go_wp2_with fail
       refine (fail_specR _ pb s.length _ HPQ 3).mono ?_
       rintro e w4 ⟨rfl,rfl⟩
       go_wp2_with fail
       refine door_panR rfl rfl rfl HR2.out HE2.out HA2.out (by have:=HN.out;omega) (fun w5 hc5=>?_)
       have hp:Rl.parse s=([],Rl.code 3 (t :: r),(Rl.place s.length (t :: r):Int)):=Rl.parse_bad (HER.out.trans H0.out) (by rw[HOQ.out.1,H200.out];rfl)
       rw[hp]
       exact ⟨.slice none 0 0,rfl,ListS.nil _ _ _ _ _,HCQ.out.trans hc5 (fun k hk=>.inr (by simp at hk;have:=HN.out;omega))⟩
     have m0:((n:Int) == 200)=false:=beq_eq_false_iff_ne.2 (by omega)
     have HOI:Hid (Rl.items 200 [] (Lx.lex s).1=(Rl.item (t :: r)).bind fun x q=>Rl.items (200 - (n+1)) (acc++[x]) q):=Lib.hid (by
      have h1:=HOQ.out
      rw[h1.1,show 200 - n=(200 - (n+1))+1 by omega]
      rfl)
     have hn200:n+1≤200:=by have:=HOQ.out.2.2;omega
     have HML:Hid (leftAt pb wr=r.length+1):=Lib.hid (left_par HPQ.out)
     clear h200
     go_upto_region 9 with fail
     refine wp_region_held_drew (S:=fun W=>True) (by kernel_rfl) trivial (fun hHeld=>?_)
     refine tq 0 ?_ (hi:=rfl) (hQ:=fun c a w h=>hq11 36 (by decide) (by decide) (by decide) _ c a w h)
     refine tq 2 ?_ (hi:=rfl) (hQ:=fun c a w h=>hq11 38 (by decide) (by decide) (by decide) _ c a w h)
     refine rd2 1 3 (fun K hK=>?_) (fun K hK=>?_)
     · go_simp
       refine hK.out _ _ trivial (fun _=>?_)
       clear hK K
       try simp only[qq]
       refine rd1 3 (fun K hK=>?_)
       · go_simp
         refine item_two (Lib.hid (HPQ.out.quiet (Chg.refl _ _).drew)) HSQ (pb+1) (by have:=HPQ.out.lt;show pb+1≤wr.heap.size;omega) (fun x q2 uo un uc wx HNI HPX HSX HCX HUX=>?_) (fun c q2 wx HNI HCX=>?_)
         · have HCX':Hid (Chg [pb] wr wx):=Lib.hid (Chg.ofDrew HCX.out)
           have HR2x:=Lib.hid (HCX'.out.blk HR2.out (by have:=HNP.out;simp;omega))
           have x2:=HR2x.out.cell (i:=0) rfl
           refine hK.out _ _ trivial (fun _=>?_)
           clear hK K
           try simp only[qq]
           refine rd1 4 (fun K hK=>?_)
           · go_simp
             refine hK.out _ _ trivial (fun _=>?_)
             clear hK K
             try simp only[qq]
             refine rd1 5 (fun K hK=>?_)
             · have HCA:Hid (Chg [] wx (wx.alloc (.cells #[.int .i64 (x.kind:Nat),.string ⟨x.name.toArray⟩,.slice uo un uc,.int .i64 (x.n:Nat),.int .i64 (x.r.1:Nat),.int .i64 (x.r.2:Nat),.int .i64 (x.s.1:Nat),.int .i64 (x.s.2:Nat),.int .i64 (x.at_:Nat)] 69))):=Lib.hid ((Chg.refl _ _).alloc _)
               have hl4:=(HLQ.out.keep (kp_i _) HCX'.out (TyB.par (Es:=[69,64,63]) HPQ.out (by decide))).keep (kp_i _) HCA.out (TyB.nil _ _ _)
               obtain ⟨css,hcs1,hcs2,hcs3⟩:=hl4
               have HCS1:=Lib.hid hcs1
               have HCS2:=Lib.hid hcs2
               rw[← HNA.out] at hcs3
               have HCS3:=Lib.hid hcs3
               clear hcs1 hcs2 hcs3
               refine step_append_lies (wx.alloc (.cells #[.int .i64 (x.kind:Nat),.string ⟨x.name.toArray⟩,.slice uo un uc,.int .i64 (x.n:Nat),.int .i64 (x.r.1:Nat),.int .i64 (x.r.2:Nat),.int .i64 (x.s.1:Nat),.int .i64 (x.s.2:Nat),.int .i64 (x.at_:Nat)] 69)) rfl (.tmp 37) (.tmp 40) 36 rfl (pb+1) 69 i0 (.agg #[.int .i64 0,.string ⟨#[]⟩,.slice none 0 0,.int .i64 0,.int .i64 0,.int .i64 0,.int .i64 0,.int .i64 0,.int .i64 0]) 9 96 Tryz.underlying36 hi hz0 hz1 hz2 rfl (by decide) (.slice ao n cap) n css.flatten (by rfl) HCS3.out ⟨wx.heap.size,0,none⟩ 1 1 [.int .i64 (x.kind:Nat),.string ⟨x.name.toArray⟩,.slice uo un uc,.int .i64 (x.n:Nat),.int .i64 (x.r.1:Nat),.int .i64 (x.r.2:Nat),.int .i64 (x.s.1:Nat),.int .i64 (x.s.2:Nat),.int .i64 (x.at_:Nat)] (by rfl) rfl (fun j u hj=>by rw[addr_add,Nat.zero_add];exact (Blk.new wx [.int .i64 (x.kind:Nat),.string ⟨x.name.toArray⟩,.slice uo un uc,.int .i64 (x.n:Nat),.int .i64 (x.r.1:Nat),.int .i64 (x.r.2:Nat),.int .i64 (x.s.1:Nat),.int .i64 (x.s.2:Nat),.int .i64 (x.at_:Nat)] _).cell hj) (by intro u hu;simp at hu;rcases hu with rfl|rfl|rfl|rfl|rfl|rfl|rfl|rfl|rfl <;> rfl) (by decide) (by unfold maxLen;omega) (by omega) (by have:=HPX.out.lt;simp;omega) _ rfl ?_
               intro g9 cap9 w9 hown9 hgrow9 hat9 hlt9
               have hl9:ListS (pb+1) 69 9 (Ci (pb+1)) (acc++[x]) (.slice (some ⟨g9,0,none⟩) (n+1) cap9) w9:=by
                exact mRlJ1
               have HL9:=Lib.hid hl9
               have hg:∀ k,(Value.slice ao n cap).ownBlock=some k→pb < k:=fun k hk=>ownsRow.own HCS3.out hk
               have hcg:Chg (Value.slice ao n cap).ownBlock.toList wx w9:=(Chg.mono HCA.out (by simp)).grown hgrow9 (fun k hk=>.inl (by simp[hk]))
               have HCG:Hid (Chg [] w w9):=Lib.hid ((HCQ.out.trans HCX'.out (fun k hk=>.inr (by simp at hk;have:=HNP.out;have:=HN.out;omega))).trans hcg (fun k hk=>.inr (by have:=hg k (by simpa using hk);have:=HNP.out;have:=HN.out;omega)))
               have HP9:Hid (Par w9 pb q2 s.length):=Lib.hid (HPX.out.keep hcg (fun k hk=>hg k (by simpa using hk)))
               have HR9:Hid (Blk w9 b2 [.slice ao n cap] 38):=Lib.hid (hcg.blk HR2x.out (fun hm=>by have:=hg b2 (by simpa using hm);have:=HNP.out;omega))
               have HE9:Hid (Blk w9 b3 [.int .i64 (er:Nat)] 29):=Lib.hid (hcg.blk (HCX'.out.blk HE2.out (by have:=HNP.out;simp;omega)) (fun hm=>by have:=hg b3 (by simpa using hm);have:=HNP.out;omega))
               have HA9:Hid (Blk w9 b4 [.int .i64 at9] 3):=Lib.hid (hcg.blk (HCX'.out.blk HA2.out (by have:=HNP.out;simp;omega)) (fun hm=>by have:=hg b4 (by simpa using hm);have:=HNP.out;omega))
               clear hl9 hg hcg hgrow9 hown9 hat9 hlt9 x2 k2
               have v2:=HR9.out.cell (i:=0) rfl
               have u2:=HR9.out.free 0
               refine hK.out _ _ trivial (fun _=>?_)
               clear hK K
               try simp only[qq]
               refine wpAnyH_take (i:=6) (v:=?vwa6) rfl (by kernel_rfl) (by kernel_rfl) (by kernel_rfl) (fun c a w h=>hq11 42 (by decide) (by decide) (by decide) _ c a w h) (Or.inl ⟨by kernel_rfl,?hywa6⟩) (by assumption) ?rswa6
               case hywa6=>(intro w9 hSw;go_simp;try with_reducible rfl)
               exact mRlJ0
         have hcx:Chg [pb] wr wx:=Chg.ofDrew HCX.out
         exact mRlJ2
     go_simp
     refine item_two (Lib.hid (HPQ.out.quiet (Chg.refl _ _).drew)) HSQ (pb+1) (by have:=HPQ.out.lt;show pb+1≤wr.heap.size;omega) (fun x q2 uo un uc wx HNI HPX HSX HCX HUX=>?_) (fun c q2 wx HNI HCX=>?_)
     · have HCX':Hid (Chg [pb] wr wx):=Lib.hid (Chg.ofDrew HCX.out)
       have HR2x:=Lib.hid (HCX'.out.blk HR2.out (by have:=HNP.out;simp;omega))
       have x2:=HR2x.out.cell (i:=0) rfl
       refine hK.out _ _ trivial (fun _=>?_)
       clear hK K
       try simp only[qq]
       refine rd2 1 4 (fun K hK=>?_) (fun K hK=>?_)
       · go_simp
         refine hK.out _ _ trivial (fun _=>?_)
         clear hK K
         try simp only[qq]
         refine rd1 4 (fun K hK=>?_)
         · go_simp
           refine hK.out _ _ trivial (fun _=>?_)
           clear hK K
           try simp only[qq]
           refine rd1 5 (fun K hK=>?_)
           · have HCA:Hid (Chg [] wx (wx.alloc (.cells #[.int .i64 (x.kind:Nat),.string ⟨x.name.toArray⟩,.slice uo un uc,.int .i64 (x.n:Nat),.int .i64 (x.r.1:Nat),.int .i64 (x.r.2:Nat),.int .i64 (x.s.1:Nat),.int .i64 (x.s.2:Nat),.int .i64 (x.at_:Nat)] 69))):=Lib.hid ((Chg.refl _ _).alloc _)
             have hl4:=(HLQ.out.keep (kp_i _) HCX'.out (TyB.par (Es:=[69,64,63]) HPQ.out (by decide))).keep (kp_i _) HCA.out (TyB.nil _ _ _)
             obtain ⟨css,hcs1,hcs2,hcs3⟩:=hl4
             have HCS1:=Lib.hid hcs1
             have HCS2:=Lib.hid hcs2
             rw[← HNA.out] at hcs3
             have HCS3:=Lib.hid hcs3
             clear hcs1 hcs2 hcs3
             refine step_append_lies (wx.alloc (.cells #[.int .i64 (x.kind:Nat),.string ⟨x.name.toArray⟩,.slice uo un uc,.int .i64 (x.n:Nat),.int .i64 (x.r.1:Nat),.int .i64 (x.r.2:Nat),.int .i64 (x.s.1:Nat),.int .i64 (x.s.2:Nat),.int .i64 (x.at_:Nat)] 69)) rfl (.tmp 37) (.tmp 40) 36 rfl (pb+1) 69 i0 (.agg #[.int .i64 0,.string ⟨#[]⟩,.slice none 0 0,.int .i64 0,.int .i64 0,.int .i64 0,.int .i64 0,.int .i64 0,.int .i64 0]) 9 96 Tryz.underlying36 hi hz0 hz1 hz2 rfl (by decide) (.slice ao n cap) n css.flatten (by rfl) HCS3.out ⟨wx.heap.size,0,none⟩ 1 1 [.int .i64 (x.kind:Nat),.string ⟨x.name.toArray⟩,.slice uo un uc,.int .i64 (x.n:Nat),.int .i64 (x.r.1:Nat),.int .i64 (x.r.2:Nat),.int .i64 (x.s.1:Nat),.int .i64 (x.s.2:Nat),.int .i64 (x.at_:Nat)] (by rfl) rfl (fun j u hj=>by rw[addr_add,Nat.zero_add];exact (Blk.new wx [.int .i64 (x.kind:Nat),.string ⟨x.name.toArray⟩,.slice uo un uc,.int .i64 (x.n:Nat),.int .i64 (x.r.1:Nat),.int .i64 (x.r.2:Nat),.int .i64 (x.s.1:Nat),.int .i64 (x.s.2:Nat),.int .i64 (x.at_:Nat)] _).cell hj) (by intro u hu;simp at hu;rcases hu with rfl|rfl|rfl|rfl|rfl|rfl|rfl|rfl|rfl <;> rfl) (by decide) (by unfold maxLen;omega) (by omega) (by have:=HPX.out.lt;simp;omega) _ rfl ?_
             intro g9 cap9 w9 hown9 hgrow9 hat9 hlt9
             have hl9:ListS (pb+1) 69 9 (Ci (pb+1)) (acc++[x]) (.slice (some ⟨g9,0,none⟩) (n+1) cap9) w9:=by
              exact mRlJ1
             have HL9:=Lib.hid hl9
             have hg:∀ k,(Value.slice ao n cap).ownBlock=some k→pb < k:=fun k hk=>ownsRow.own HCS3.out hk
             have hcg:Chg (Value.slice ao n cap).ownBlock.toList wx w9:=(Chg.mono HCA.out (by simp)).grown hgrow9 (fun k hk=>.inl (by simp[hk]))
             have HCG:Hid (Chg [] w w9):=Lib.hid ((HCQ.out.trans HCX'.out (fun k hk=>.inr (by simp at hk;have:=HNP.out;have:=HN.out;omega))).trans hcg (fun k hk=>.inr (by have:=hg k (by simpa using hk);have:=HNP.out;have:=HN.out;omega)))
             have HP9:Hid (Par w9 pb q2 s.length):=Lib.hid (HPX.out.keep hcg (fun k hk=>hg k (by simpa using hk)))
             have HR9:Hid (Blk w9 b2 [.slice ao n cap] 38):=Lib.hid (hcg.blk HR2x.out (fun hm=>by have:=hg b2 (by simpa using hm);have:=HNP.out;omega))
             have HE9:Hid (Blk w9 b3 [.int .i64 (er:Nat)] 29):=Lib.hid (hcg.blk (HCX'.out.blk HE2.out (by have:=HNP.out;simp;omega)) (fun hm=>by have:=hg b3 (by simpa using hm);have:=HNP.out;omega))
             have HA9:Hid (Blk w9 b4 [.int .i64 at9] 3):=Lib.hid (hcg.blk (HCX'.out.blk HA2.out (by have:=HNP.out;simp;omega)) (fun hm=>by have:=hg b4 (by simpa using hm);have:=HNP.out;omega))
             clear hl9 hg hcg hgrow9 hown9 hat9 hlt9 x2 k2
             have v2:=HR9.out.cell (i:=0) rfl
             have u2:=HR9.out.free 0
             refine hK.out _ _ trivial (fun _=>?_)
             clear hK K
             try simp only[qq]
             refine wpAnyH_take (i:=6) (v:=?vwb6) rfl (by kernel_rfl) (by kernel_rfl) (by kernel_rfl) (fun c a w h=>hq11 42 (by decide) (by decide) (by decide) _ c a w h) (Or.inl ⟨by kernel_rfl,?hywb6⟩) (by assumption) ?rswb6
             case hywb6=>(intro w9 hSw;go_simp;try with_reducible rfl)
             exact mRlJ0
       go_simp
       refine hK.out _ _ trivial (fun _=>?_)
       clear hK K
       try simp only[qq]
       have x2a:=(HR2x.out.alloc (.cells #[.int .i64 (x.kind:Nat),.string ⟨x.name.toArray⟩,.slice uo un uc,.int .i64 (x.n:Nat),.int .i64 (x.r.1:Nat),.int .i64 (x.r.2:Nat),.int .i64 (x.s.1:Nat),.int .i64 (x.s.2:Nat),.int .i64 (x.at_:Nat)] 69)).cell (i:=0) rfl
       refine rd1 1 (fun K hK=>?_)
       · go_simp
         refine hK.out _ _ trivial (fun _=>?_)
         clear hK K
         try simp only[qq]
         refine rd1 5 (fun K hK=>?_)
         · have HCA:Hid (Chg [] wx (wx.alloc (.cells #[.int .i64 (x.kind:Nat),.string ⟨x.name.toArray⟩,.slice uo un uc,.int .i64 (x.n:Nat),.int .i64 (x.r.1:Nat),.int .i64 (x.r.2:Nat),.int .i64 (x.s.1:Nat),.int .i64 (x.s.2:Nat),.int .i64 (x.at_:Nat)] 69))):=Lib.hid ((Chg.refl _ _).alloc _)
           have hl4:=(HLQ.out.keep (kp_i _) HCX'.out (TyB.par (Es:=[69,64,63]) HPQ.out (by decide))).keep (kp_i _) HCA.out (TyB.nil _ _ _)
           obtain ⟨css,hcs1,hcs2,hcs3⟩:=hl4
           have HCS1:=Lib.hid hcs1
           have HCS2:=Lib.hid hcs2
           rw[← HNA.out] at hcs3
           have HCS3:=Lib.hid hcs3
           clear hcs1 hcs2 hcs3
           refine step_append_lies (wx.alloc (.cells #[.int .i64 (x.kind:Nat),.string ⟨x.name.toArray⟩,.slice uo un uc,.int .i64 (x.n:Nat),.int .i64 (x.r.1:Nat),.int .i64 (x.r.2:Nat),.int .i64 (x.s.1:Nat),.int .i64 (x.s.2:Nat),.int .i64 (x.at_:Nat)] 69)) rfl (.tmp 37) (.tmp 40) 36 rfl (pb+1) 69 i0 (.agg #[.int .i64 0,.string ⟨#[]⟩,.slice none 0 0,.int .i64 0,.int .i64 0,.int .i64 0,.int .i64 0,.int .i64 0,.int .i64 0]) 9 96 Tryz.underlying36 hi hz0 hz1 hz2 rfl (by decide) (.slice ao n cap) n css.flatten (by rfl) HCS3.out ⟨wx.heap.size,0,none⟩ 1 1 [.int .i64 (x.kind:Nat),.string ⟨x.name.toArray⟩,.slice uo un uc,.int .i64 (x.n:Nat),.int .i64 (x.r.1:Nat),.int .i64 (x.r.2:Nat),.int .i64 (x.s.1:Nat),.int .i64 (x.s.2:Nat),.int .i64 (x.at_:Nat)] (by rfl) rfl (fun j u hj=>by rw[addr_add,Nat.zero_add];exact (Blk.new wx [.int .i64 (x.kind:Nat),.string ⟨x.name.toArray⟩,.slice uo un uc,.int .i64 (x.n:Nat),.int .i64 (x.r.1:Nat),.int .i64 (x.r.2:Nat),.int .i64 (x.s.1:Nat),.int .i64 (x.s.2:Nat),.int .i64 (x.at_:Nat)] _).cell hj) (by intro u hu;simp at hu;rcases hu with rfl|rfl|rfl|rfl|rfl|rfl|rfl|rfl|rfl <;> rfl) (by decide) (by unfold maxLen;omega) (by omega) (by have:=HPX.out.lt;simp;omega) _ rfl ?_
           intro g9 cap9 w9 hown9 hgrow9 hat9 hlt9
           have hl9:ListS (pb+1) 69 9 (Ci (pb+1)) (acc++[x]) (.slice (some ⟨g9,0,none⟩) (n+1) cap9) w9:=by
            exact mRlJ1
           have HL9:=Lib.hid hl9
           have hg:∀ k,(Value.slice ao n cap).ownBlock=some k→pb < k:=fun k hk=>ownsRow.own HCS3.out hk
           have hcg:Chg (Value.slice ao n cap).ownBlock.toList wx w9:=(Chg.mono HCA.out (by simp)).grown hgrow9 (fun k hk=>.inl (by simp[hk]))
           have HCG:Hid (Chg [] w w9):=Lib.hid ((HCQ.out.trans HCX'.out (fun k hk=>.inr (by simp at hk;have:=HNP.out;have:=HN.out;omega))).trans hcg (fun k hk=>.inr (by have:=hg k (by simpa using hk);have:=HNP.out;have:=HN.out;omega)))
           have HP9:Hid (Par w9 pb q2 s.length):=Lib.hid (HPX.out.keep hcg (fun k hk=>hg k (by simpa using hk)))
           have HR9:Hid (Blk w9 b2 [.slice ao n cap] 38):=Lib.hid (hcg.blk HR2x.out (fun hm=>by have:=hg b2 (by simpa using hm);have:=HNP.out;omega))
           have HE9:Hid (Blk w9 b3 [.int .i64 (er:Nat)] 29):=Lib.hid (hcg.blk (HCX'.out.blk HE2.out (by have:=HNP.out;simp;omega)) (fun hm=>by have:=hg b3 (by simpa using hm);have:=HNP.out;omega))
           have HA9:Hid (Blk w9 b4 [.int .i64 at9] 3):=Lib.hid (hcg.blk (HCX'.out.blk HA2.out (by have:=HNP.out;simp;omega)) (fun hm=>by have:=hg b4 (by simpa using hm);have:=HNP.out;omega))
           clear hl9 hg hcg hgrow9 hown9 hat9 hlt9 x2 k2
           have v2:=HR9.out.cell (i:=0) rfl
           have u2:=HR9.out.free 0
           refine hK.out _ _ trivial (fun _=>?_)
           clear hK K
           try simp only[qq]
           refine wpAnyH_take (i:=6) (v:=?vwc6) rfl (by kernel_rfl) (by kernel_rfl) (by kernel_rfl) (fun c a w h=>hq11 42 (by decide) (by decide) (by decide) _ c a w h) (Or.inl ⟨by kernel_rfl,?hywc6⟩) (by assumption) ?rswc6
           case hywc6=>(intro w9 hSw;go_simp;try with_reducible rfl)
           exact mRlJ0
     have hcx:Chg [pb] wr wx:=Chg.ofDrew HCX.out
     exact mRlJ2
 have n0:((er:Int) != 0)=true:=bne_iff_ne.2 (by omega)
 have H0:=Lib.hid h0
 clear h0
 go_upto_region 3 with fail
 obtain ⟨w2,hw2⟩:∃ w2,w2=(w1.setCell ⟨b3,0,none⟩ (.int .i64 (er:Nat))).setCell ⟨b4,0,none⟩ (.int .i64 at9):=⟨_,rfl⟩
 rw[← hw2]
 have HB2:Hid (Blk w2 b2 [.slice none 0 0] 38):=Lib.hid (by rw[hw2];exact (HK21.out.other _ _ n23).other _ _ n24)
 have HB3:Hid (Blk w2 b3 [.int .i64 (er:Nat)] 29):=Lib.hid (by rw[hw2];exact (HK31.out.set 0 _).other _ _ n34)
 have HB4:Hid (Blk w2 b4 [.int .i64 at9] 3):=Lib.hid (by rw[hw2];exact (HK41.out.other _ _ n43).set 0 _)
 have HC2:Hid (Chg [] w w2):=Lib.hid (by rw[hw2];exact ((HC0.out.trans HC1.out (by simp)).setCell _ _ (.inr (by show _≤b3;have:=HN.out;omega))).setCell _ _ (.inr (by show _≤b4;have:=HN.out;omega)))
 clear hw2 y3 y4 z3 z4
 have y2:=HB2.out.cell (i:=0) rfl
 have y3:=HB3.out.cell (i:=0) rfl
 have y4:=HB4.out.cell (i:=0) rfl
 have z2:=HB2.out.free 0
 have z3:=HB3.out.free 0
 have z4:=HB4.out.free 0
 refine wp_region_held_drew (S:=fun W=>Blk W b3 [.int .i64 (er:Nat)] 29∧Blk W b4 [.int .i64 at9] 3) (by kernel_rfl) ⟨HB3.out,HB4.out⟩ (fun hHeld=>?_)
 refine tq 0 ?_ (hi:=rfl) (hQ:=fun c a w h=>hq11 15 (by decide) (by decide) (by decide) _ c a w h)
 refine tq 1 ?_ (hy:=by intro w9 hSw;have d3:=hSw.1.cell (i:=0) rfl;have d4:=hSw.2.cell (i:=0) rfl;go_simp;try with_reducible rfl) (hi:=rfl) (hQ:=fun c a w h=>hq11 16 (by decide) (by decide) (by decide) _ c a w h)
 refine tq 2 ?_ (hy:=by intro w9 hSw;have d3:=hSw.1.cell (i:=0) rfl;have d4:=hSw.2.cell (i:=0) rfl;go_simp;try with_reducible rfl) (hi:=rfl) (hQ:=fun c a w h=>hq11 17 (by decide) (by decide) (by decide) _ c a w h)
 refine rd1 3 (fun K hK=>?_)
 go_simp
 refine kq hK ⟨hHeld.1.other ⟨b2,0,none⟩ _ n32,hHeld.2.other ⟨b2,0,none⟩ _ n42⟩ (fun hHeld=>?_)
 refine rd1 4 (fun K hK=>?_)
 go_simp
 refine kq hK ⟨hHeld.1.set 0 _,hHeld.2.other ⟨b3,0,none⟩ _ n43⟩ (fun hHeld=>?_)
 refine rd1 5 (fun K hK=>?_)
 go_simp
 refine kq hK ⟨hHeld.1.other ⟨b4,0,none⟩ _ n34,hHeld.2.set 0 _⟩ (fun hHeld=>?_)
 refine dq ?_
 go_wp2_with fail
 refine ⟨.tuple #[.agg #[.slice none 0 0],.int .i64 (er:Nat),.int .i64 at9],by simp[results,Tryz.results10,go_sem,y2,y3,y4],.slice none 0 0,?_,?_,?_⟩
 · unfold Rl.parse
   rw[HER.out,HAT.out,if_pos H0.out]
 · unfold Rl.parse
   rw[HER.out,if_pos H0.out]
   exact ListS.nil _ _ _ _ _
 exact (((HC2.out.setCell _ _ (.inr (by show _≤b2;have:=HN.out;omega))).setCell _ _ (.inr (by show _≤b3;have:=HN.out;omega))).setCell _ _ (.inr (by show _≤b4;have:=HN.out;omega))).drew
end Go.Proofs.YtglepipfdmphhaaGreatDoor
