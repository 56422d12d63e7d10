/-
  PnGI, PnJL in one text.
-/
import Derived.Test.YtglepipfdmphhaaGreatDoorPnBF
import Derived.Test.YtglepipfdmphhaaGreatDoorMpA
import Derived.Test.YtglepipfdmphhaaGreatDoorLsA
set_option maxRecDepth 100000
set_option maxHeartbeats 40000000
namespace Go.Proofs.YtglepipfdmphhaaGreatDoor
set_option linter.unusedVariables false
set_option linter.unusedSimpArgs false
open Go Go.RowKit Go.Shelf
open Lx (Tk)
def bxc (x:Pn.Bx):List Value:=[.int .i64 (x.x:Nat),.int .i64 (x.y:Nat),.int .i64 (x.x2:Nat),.int .i64 (x.y2:Nat)]
def BoxV (x:Pn.Bx) (v:Value) (w:World):Prop:=v = .agg #[.int .i64 (x.x:Nat),.int .i64 (x.y:Nat),.int .i64 (x.x2:Nat),.int .i64 (x.y2:Nat)]
theorem box_spec (w:World) (b en:Nat) (l:List Tk) (HP:Hid (Pp w b l en)):Calls Tryz.prog 75 #[.pointer (some ⟨b,0,none⟩)] w fun e w'=>PRes w b en BoxV (Pn.box l) e w':=by
 have HBW:Hid (b < w.heap.size):=hd HP.out.lt
 go_enter Tryz.func75,Tryz.ntmps75
 go_upto_region 1 with fail
 obtain ⟨W1,hW⟩:∃ W,W=(w.alloc (.cells #[.int .i64 0,.int .i64 0,.int .i64 0,.int .i64 0] 54)):=⟨_,rfl⟩
 rw[← hW]
 obtain ⟨X2,hX2⟩:∃ T,T=w.heap.size:=⟨_,rfl⟩
 try rw[← hX2]
 have OX2:Hid (w.heap.size≤X2):=hd (by rw[hX2];exact Nat.le_refl _)
 have HX2_1:Hid (Blk W1 X2 [.int .i64 0,.int .i64 0,.int .i64 0,.int .i64 0] 54):=hd (by
  have h1:=Blk.new w [.int .i64 0,.int .i64 0,.int .i64 0,.int .i64 0] 54
  have h2:w.heap.size=X2:=by simp[hX2]
  rw[h2] at h1
  rw[hW]
  exact h1)
 have BX2:Hid (b < X2):=hd (by have h1:=HBW.out;have OX2_:=OX2.out;omega)
 have C1:Hid (Chg [b] w W1):=hd (by rw[hW];exact ((Chg.refl [b] w).alloc _))
 have KP_1:Hid (Chg [] w W1):=hd (by rw[hW];exact ((Chg.refl [] w).alloc _))
 clear hW hX2
 go_wp2_with fail
 obtain ⟨W2,hW⟩:∃ W,W=(W1.alloc (.cells #[.pointer (some ⟨X2,0,none⟩),.pointer (some ⟨X2,1,none⟩),.pointer (some ⟨X2,2,none⟩),.pointer (some ⟨X2,3,none⟩)] 96)):=⟨_,rfl⟩
 rw[← hW]
 obtain ⟨G1,hG1⟩:∃ T,T=W1.heap.size:=⟨_,rfl⟩
 try rw[← hG1]
 have OG1:Hid (X2 < G1):=hd (by rw[hG1];exact HX2_1.out.lt)
 have HX2_2:Hid (Blk W2 X2 [.int .i64 0,.int .i64 0,.int .i64 0,.int .i64 0] 54):=hd (by rw[hW];exact (HX2_1.out.alloc _))
 have HG1_2:Hid (Blk W2 G1 [.pointer (some ⟨X2,0,none⟩),.pointer (some ⟨X2,1,none⟩),.pointer (some ⟨X2,2,none⟩),.pointer (some ⟨X2,3,none⟩)] 96):=hd (by
  have h1:=Blk.new W1 [.pointer (some ⟨X2,0,none⟩),.pointer (some ⟨X2,1,none⟩),.pointer (some ⟨X2,2,none⟩),.pointer (some ⟨X2,3,none⟩)] 96
  have h2:W1.heap.size=G1:=by simp[hG1]
  rw[h2] at h1
  rw[hW]
  exact h1)
 have BG1:Hid (b < G1):=hd (by have h1:=HBW.out;have OX2_:=OX2.out;have OG1_:=OG1.out;omega)
 have C2:=hd (C1.out.alE hW)
 have KP_2:=hd (KP_1.out.alE hW)
 clear hW hG1
 have NG1_b:G1≠b:=by have h1:=HBW.out;have OX2_:=OX2.out;have OG1_:=OG1.out;omega
 have Nb_G1:b≠G1:=NG1_b.symm
 have NG1_X2:G1≠X2:=by have h1:=OG1.out;omega
 refine num4_two (hd (HP.out.keep KP_2.out (by simp))) HG1_2 HX2_2 (hd ⟨BX2.out,NG1_b,NG1_X2⟩) (fun x r w1 HM HP1 HD1 HC1=>?_) (fun c r w1 HM HCb=>?_)
 · skip
   have NX2_b:X2≠b:=by have h1:=HBW.out;have OX2_:=OX2.out;omega
   have Nb_X2:b≠X2:=NX2_b.symm
   have C3:=hd (C2.out.trans HC1.out (al2 (.inl (by simp)) (.inr (by have OX2_:=OX2.out;show w.heap.size≤X2;omega))))
   obtain ⟨cX2_0,cX2_1,cX2_2,cX2_3⟩:=HD1.out.c4
   obtain ⟨cX2_f0,cX2_f1,cX2_f2,cX2_f3⟩:=HD1.out.f4
   go_wp2_with fail
   clear cX2_0 cX2_1 cX2_2 cX2_3 cX2_f0 cX2_f1 cX2_f2 cX2_f3
   obtain ⟨W4,hW⟩:∃ W,W=((((w1.setCell ⟨X2,0,none⟩ (.int .i64 (x.x:Nat))).setCell ⟨X2,1,none⟩ (.int .i64 (x.y:Nat))).setCell ⟨X2,2,none⟩ (.int .i64 (x.x2:Nat))).setCell ⟨X2,3,none⟩ (.int .i64 (x.y2:Nat))):=⟨_,rfl⟩
   rw[← hW]
   have HX2_4:Hid (Blk W4 X2 [.int .i64 (x.x:Nat),.int .i64 (x.y:Nat),.int .i64 (x.x2:Nat),.int .i64 (x.y2:Nat)] 54):=hd (by rw[hW];exact ((((HD1.out.set 0 (.int .i64 (x.x:Nat))).set 1 (.int .i64 (x.y:Nat))).set 2 (.int .i64 (x.x2:Nat))).set 3 (.int .i64 (x.y2:Nat))))
   have C4:=hd (C3.out.s4 hW (.inr (by have OX2_:=OX2.out;show w.heap.size≤X2;omega)))
   have KP_4:=hd ((Chg.refl [X2,G1] w1).s4 hW (.inl (by simp)))
   clear hW
   (try simp only[Exit.inBlock,Exit.then])
   refine bodyPost_ret (results_cell_row rfl _ _ X2 54 #[.int .i64 (x.x:Nat),.int .i64 (x.y:Nat),.int .i64 (x.x2:Nat),.int .i64 (x.y2:Nat)] (0,0) _ rfl HX2_4.out Tryz.underlying54 rfl (by kernel_rfl)) rfl (pgood C4.out HM.out rfl (HP1.out.keep KP_4.out (al2 BX2.out BG1.out)))
 go_wp2_with fail
 exact ⟨rfl,pbad (C2.out.trans HCb.out (al2 (.inl (by simp)) (.inr (by have OX2_:=OX2.out;show w.heap.size≤X2;omega)))) HM.out⟩
theorem box_two {w:World} {b en:Nat} {l:List Tk} (HP:Hid (Pp w b l en)) {R:Ending→World→Prop}
 (hok:∀ (x:Pn.Bx) (r:List Tk) (w':World),Hid (Pn.box l = .ok x r)→Hid (Pp w' b r en)→Hid (Chg [b] w w')→R (.returned (.agg #[.int .i64 (x.x:Nat),.int .i64 (x.y:Nat),.int .i64 (x.x2:Nat),.int .i64 (x.y2:Nat)])) w')
 (hbad:∀ (c:Nat) (r:List Tk) (w':World),Hid (Pn.box l = .bad c r)→Hid (Chg [b] w w')→R (.panicked [{ v:=flt c r en,recovered:=false }]) w') :
 Calls Tryz.prog 75 #[.pointer (some ⟨b,0,none⟩)] w R :=
 (box_spec w b en l HP).mono fun e w' h=>pres_two h (fun a r v h1 h2 h3 h4=>by rw[show v=_ from h4];exact hok a r w' h1 h2 h3) (fun c r h1 h2=>hbad c r w' h1 h2)
end Go.Proofs.YtglepipfdmphhaaGreatDoor
namespace Go.Proofs.YtglepipfdmphhaaGreatDoor
set_option linter.unusedVariables false
set_option linter.unusedSimpArgs false
open Go Go.RowKit Go.Shelf Go.MapKept
def foundIn (d:TypeDesc) (key:Value) (es:List MapEntry):Bool:=match Instr.findNow d key es 0 with
 | some (some _)=>true
 | _=>false
theorem run_look2 {P:Program} {w:World} {T K E:TypeId} {d:TypeDesc} (hu:P.underlying T=some (.map K E)) (hk:P.underlying K=some d) {z:Value} (hz:(zeroValue E).run P w = .ok z w) {b:Nat} {es:List MapEntry} {ck:Nat} (hb:MapB w b es ck)
 {key:Value} (hkey:IsKey d key) (hes:∀ x ∈ es,IsKey d x.key):(Instr.lookup T (.map (some b)) key true).run P w = .ok (.tuple #[lookIn d key es z,.bool (foundIn d key es)]) w:=by
 have hb':w.heap[b]? = some (.map es.toArray ck):=hb
 have h1:=run_checkKey (P:=P) (w:=w) hk hkey es.isEmpty 9999
 rcases findNow_spec hkey es 0 hes with ⟨hf,_⟩|⟨j,e,hf,_,_⟩
 · have h2:=run_findKey (P:=P) (w:=w) hk hf
   simp[Instr.lookup,run_underlying hu,Result.andThen,MapKept.run_getObj_map hb',h1,h2,hz,lookIn,foundIn,hf]
 have h2:=run_findKey (P:=P) (w:=w) hk hf
 simp[Instr.lookup,run_underlying hu,Result.andThen,MapKept.run_getObj_map hb',h1,h2,lookIn,foundIn,hf]
theorem foundIn_kvS (t:List UInt8):∀ (l:List (List UInt8)) (k ck i:Nat),0 < k→(match Instr.findNow .string (.string ⟨t.toArray⟩) (entsOf ck (kvS l k)) i with
 | some (some _)=>true
 | _=>false)=decide (numIn l k t≠0)
 | [],k,ck,i,_=>rfl
 | x :: l,k,ck,i,hk=>by
  rw[kvS,entsOf,Instr.findNow,sameNow_str,numIn]
  by_cases h:t=x
  · rw[if_pos h,decide_eq_true h]
    simp
    omega
  rw[if_neg h,decide_eq_false h]
  exact foundIn_kvS t l (k+1) (ck+1) (i+1) (by omega)
theorem run_look2_kvS {P:Program} {w:World} {T K E:TypeId} (hu:P.underlying T=some (.map K E)) (hk:P.underlying K=some .string) (hz:(zeroValue E).run P w = .ok (.int .i64 0) w) {b ck:Nat} {l:List (List UInt8)} (hb:MapB w b (entsFrom [] 0 (kvS l 1)) ck)
 (t:List UInt8):(Instr.lookup T (.map (some b)) (.string ⟨t.toArray⟩) true).run P w = .ok (.tuple #[.int .i64 (numIn l 1 t:Nat),.bool (decide (numIn l 1 t≠0))]) w:=by
 have h:=run_look2 hu hk hz hb (d:=.string) (key:=.string ⟨t.toArray⟩) trivial (by rw[entsFrom_eq];exact entsOf_key l 1 0)
 rw[look_kvS t l] at h
 have h2:foundIn .string (.string ⟨t.toArray⟩) (entsFrom [] 0 (kvS l 1))=decide (numIn l 1 t≠0):=by
  rw[entsFrom_eq]
  exact foundIn_kvS t l 1 0 0 (by omega)
 rw[h2] at h
 exact h
theorem numIn_codeIn (t:List UInt8):∀ (l:List (List UInt8)) (k:Nat),numIn l k t=Rl.codeIn l k t
 | [],_=>rfl
 | x :: r,k=>by
  rw[numIn,Rl.codeIn,numIn_codeIn t r (k+1)]
theorem zero_int (w:World):(zeroValue 3).run Tryz.prog w = .ok (.int .i64 0) w:=by kernel_rfl
theorem look_marks {w:World} {b ck:Nat} (hb:MapB w b (entsFrom [] 0 (kvS Pn.marksL 1)) ck) (t:Bytes):(Instr.lookup 138 (.map (some b)) (.string ⟨t.toArray⟩) true).run Tryz.prog w = .ok (.tuple #[.int .i64 (Rl.codeIn Pn.marksL 1 t:Nat),.bool (decide (Rl.codeIn Pn.marksL 1 t≠0))]) w:=by
 have:=run_look2_kvS (P:=Tryz.prog) Tryz.underlying138 Tryz.underlying9 (zero_int w) hb t
 rw[numIn_codeIn] at this
 exact this
end Go.Proofs.YtglepipfdmphhaaGreatDoor
namespace Go.Proofs.YtglepipfdmphhaaGreatDoor
set_option linter.unusedVariables false
set_option linter.unusedSimpArgs false
open Go Go.RowKit Go.Shelf
open Lx (Tk)
theorem results_row_tmp {P:Program} {fn:Func} {p q:Tmp} {ty2:TypeId} (h:fn.results = #[.cell q ty2,.tmp p]) (tmps:Array Value) (v:Value) (hv:tmps.getD p undef=v) (w:World) (g2:Nat) (t2:TypeId) (cs2:Array Value) (fr2:Nat × Nat) (d2:TypeDesc)
 (hq:tmps.getD q undef = .pointer (some ⟨g2,0,none⟩)) (hg2:w.heap[g2]? = some (.cells cs2 t2 fr2))
 (hu2:P.underlying ty2=some d2) (hd2:(match d2 with | .struct _ | .array _ _=>true|_=>false)=true) (hi2:(P.info? ty2).map (·.size)=some cs2.size) :
 (results fn tmps).run P w = .ok (.tuple #[.agg cs2,v]) w:=by
 have hv':tmps[p]?.getD undef=v:=by simpa using hv
 have hq':tmps[q]?.getD undef = .pointer (some ⟨g2,0,none⟩):=by simpa using hq
 simp[results,h,hv',hq',asAddr,Sem.run_bind,Result.andThen,run_loadVar_row w g2 t2 ty2 cs2 fr2 d2 hg2 hu2 hd2 hi2]
theorem mkc_cons (t:Tk) (r:List Tk) (h:t.kind=1):Pn.mkc (t :: r)=Rl.codeIn Pn.marksL 1 t.text:=by
 unfold Pn.mkc
 rw[if_pos (by simp[Rl.is,h])]
 rfl
theorem mkc_other (t:Tk) (r:List Tk) (h:t.kind≠1):Pn.mkc (t :: r)=0:=by
 unfold Pn.mkc
 rw[if_neg (by simp[Rl.is,h])]
theorem mark_two {w:World} {b en:Nat} {l:List Tk} (HP:Hid (Pp w b l en)) {R:Ending→World→Prop}
 (hno:∀ (w':World),Hid (Pn.mkc l=0)→Hid (Chg [] w w')→R (.returned (.tuple #[.agg #[.int .i64 0,.int .i64 0,.int .i64 0],.bool false])) w')
 (hok:∀ (m:Pn.Mk) (r:List Tk) (w':World),Hid (Pn.mkc l≠0)→Hid (Pn.mark l = .ok m r)→Hid (Pp w' b r en)→Hid (Chg [b] w w')→R (.returned (.tuple #[.agg #[.int .i64 (m.kind:Nat),.int .i64 (m.seat:Nat),.int .i64 (m.w:Nat)],.bool true])) w')
 (hbad:∀ (c:Nat) (r:List Tk) (w':World),Hid (Pn.mkc l≠0)→Hid (Pn.mark l = .bad c r)→Hid (Chg [b] w w')→R (.panicked [{ v:=flt c r en,recovered:=false }]) w') :
 Calls Tryz.prog 113 #[.pointer (some ⟨b,0,none⟩)] w R:=by
 refine (show Calls Tryz.prog 113 #[.pointer (some ⟨b,0,none⟩)] w (fun e w'=>(e = .returned (.tuple #[.agg #[.int .i64 0,.int .i64 0,.int .i64 0],.bool false])∧Hid (Pn.mkc l=0)∧Hid (Chg [] w w'))∨(∃ m r,e = .returned (.tuple #[.agg #[.int .i64 (m.kind:Nat),.int .i64 (m.seat:Nat),.int .i64 (m.w:Nat)],.bool true])∧Hid (Pn.mkc l≠0)∧Hid (Pn.mark l = .ok m r)∧Hid (Pp w' b r en)∧Hid (Chg [b] w w'))∨(∃ c r,e = .panicked [{ v:=flt c r en,recovered:=false }]∧Hid (Pn.mkc l≠0)∧Hid (Pn.mark l = .bad c r)∧Hid (Chg [b] w w'))) from ?_).mono (fun e w' hx=>by
  rcases hx with ⟨rfl,h1,h2⟩|⟨m,r,rfl,h1,h2,h3,h4⟩|⟨c,r,rfl,h1,h2,h3⟩
  · exact hno w' h1 h2
  · exact hok m r w' h1 h2 h3 h4
  exact hbad c r w' h1 h2 h3)
 clear hno hok hbad
 have HBW:Hid (b < w.heap.size):=hd HP.out.lt
 go_enter Tryz.func113,Tryz.ntmps113
 go_upto_region 1 with fail
 obtain ⟨W1,hW⟩:∃ W,W=(w.alloc (.cells #[.int .i64 0,.int .i64 0,.int .i64 0] 45)):=⟨_,rfl⟩
 rw[← hW]
 obtain ⟨X2,hX2⟩:∃ T,T=w.heap.size:=⟨_,rfl⟩
 try rw[← hX2]
 have OX2:Hid (w.heap.size≤X2):=hd (by rw[hX2];exact Nat.le_refl _)
 have HX2_1:Hid (Blk W1 X2 [.int .i64 0,.int .i64 0,.int .i64 0] 45):=hd (by
  have h1:=Blk.new w [.int .i64 0,.int .i64 0,.int .i64 0] 45
  have h2:w.heap.size=X2:=by simp[hX2]
  rw[h2] at h1
  rw[hW]
  exact h1)
 have BX2:Hid (b < X2):=hd (by have h1:=HBW.out;have OX2_:=OX2.out;omega)
 have KE_1:Hid (Chg [] w W1):=hd (by rw[hW];exact ((Chg.refl [] w).alloc _))
 have KP_1:Hid (Chg [] w W1):=hd (by rw[hW];exact ((Chg.refl [] w).alloc _))
 clear hW hX2
 have hmm:=@run_makeMap Tryz.prog
 go_upto_region 2 with (refine wpList_inserts 138 (.tmp 5) 9 3 .string Tryz.underlying138 Tryz.underlying9 _ rfl [_,_,_,_] (kvS Pn.marksL 1) _ [] 0 rfl (MapB.new _) (by intro kv h;simp[kvS,Pn.marksL] at h;rcases h with rfl|rfl|rfl|rfl <;> trivial) (by kernel_rfl) ?_;intro w3 hb3 hc3 hs3)
 obtain ⟨M,hM⟩:∃ M,M=W1.heap.size:=⟨_,rfl⟩
 rw[← hM] at hb3 hc3
 try rw[← hM]
 have HM:Hid (MapB w3 M (entsFrom [] 0 (kvS Pn.marksL 1)) 4):=hd hb3
 have HXM:Hid (X2 < M):=hd (by rw[hM];exact HX2_1.out.lt)
 have HCM:Hid (Chg [] W1 w3):=hd (((Chg.refl _ _).alloc _).trans hc3 (fun k hk=>.inr (by simp only[List.mem_cons,List.not_mem_nil,or_false] at hk;rw[hk,hM];exact Nat.le_refl _)))
 clear hb3 hc3 hs3 hM hmm
 have HX2_2:Hid (Blk w3 X2 [.int .i64 0,.int .i64 0,.int .i64 0] 45):=hd (HCM.out.blk HX2_1.out (by simp))
 have KE_2:=hd (KE_1.out.trans HCM.out (by simp))
 have KP_2:=hd (KP_1.out.trans HCM.out (by simp))
 have HP3:Hid (Pp w3 b l en):=hd (HP.out.keep KP_2.out (by simp))
 have HCN:=KE_2
 cases l with
 | nil =>
  obtain ⟨n,ao,cap,hb⟩:=HP3.out.nil
  have c0:=hb.cell (i:=0) rfl
  have c1:=hb.cell (i:=1) rfl
  have n0:((n:Int) == (n:Int))=true:=beq_self_eq_true _
  clear hb
  go_quiet (fail)
  obtain ⟨cX2_0,cX2_1,cX2_2⟩:=HX2_2.out.c3
  obtain ⟨cX2_f0,cX2_f1,cX2_f2⟩:=HX2_2.out.f3
  go_wp2_with fail
  clear cX2_0 cX2_1 cX2_2 cX2_f0 cX2_f1 cX2_f2
  obtain ⟨W4,hW⟩:∃ W,W=((((w3.drewN nq).setCell ⟨X2,0,none⟩ (.int .i64 0)).setCell ⟨X2,1,none⟩ (.int .i64 0)).setCell ⟨X2,2,none⟩ (.int .i64 0)):=⟨_,rfl⟩
  rw[← hW]
  have HB4:Hid (Blk W4 X2 [.int .i64 0,.int .i64 0,.int .i64 0] 45):=hd (by rw[hW];exact ((((chg_drewNP w3 nq).blk HX2_2.out (by simp)).set 0 _).set 1 _).set 2 _)
  have HC4:Hid (Chg [] w W4):=hd (by rw[hW];exact ((((HCN.out.trans (chg_drewNP w3 nq) (by simp)).setCell _ _ (.inr OX2.out)).setCell _ _ (.inr OX2.out)).setCell _ _ (.inr OX2.out)))
  clear hW
  (try simp only[Exit.inBlock,Exit.then])
  refine bodyPost_ret (results_row_tmp rfl _ (.bool false) rfl _ X2 45 #[.int .i64 0,.int .i64 0,.int .i64 0] (0,0) _ rfl HB4.out Tryz.underlying45 rfl (by kernel_rfl)) rfl ?_
  exact .inl ⟨rfl,hd (rfl),HC4⟩
 | cons t r =>
  obtain ⟨n,i,g,off,cap,hi,hn,hb,hcap,hgb,⟨k0,k1,k2,k3⟩,hstep⟩:=HP3.out.cons
  have HB:=hd hb
  have HST:=hd hstep
  have HIN:=hd (And.intro hi hn)
  have HGB:=hd hgb
  have c0:=hb.cell (i:=0) rfl
  have c1:=hb.cell (i:=1) rfl
  have n0:((i:Int) == (n:Int))=false:=beq_eq_false_iff_ne.2 (by omega)
  have n1:(0:Int)≤(i:Int):=by omega
  have n2:(i:Int) < (n:Int):=by omega
  have n3:((i:Int)).toNat=i:=by omega
  have HK1:=hd k1
  clear hb hstep hgb
  by_cases hk:t.kind=1
  · skip
    have m0:((t.kind:Int) != 1)=false:=by rw[hk];rfl
    obtain ⟨q,hq⟩:∃ q,Rl.codeIn Pn.marksL 1 t.text=q:=⟨_,rfl⟩
    have HMQ:Hid (Pn.mkc (t :: r)=q):=hd ((mkc_cons t r hk).trans hq)
    have HQE:=hd hq
    clear hk hq
    go_quiet (fail)
    go_upto_region 4 with fail
    clear c0 c1 k0 k1 k2 k3 m0
    obtain ⟨W4,hW⟩:∃ W,W=w3.drewN nq:=⟨_,rfl⟩
    rw[← hW]
    have HCQ:Hid (Chg [] w3 W4):=hd (by rw[hW];exact chg_drewNP _ _)
    clear hW
    have NX2_b:X2≠b:=by have h1:=HBW.out;have OX2_:=OX2.out;omega
    have Nb_X2:b≠X2:=NX2_b.symm
    have HX2_3:=hd (HCQ.out.blk HX2_2.out (by simp))
    have KP_3:=hd ((Chg.refl [X2] w3).trans HCQ.out (by simp))
    have HB4:=hd (HCQ.out.blk HB.out (by simp))
    have Z0:=hd (HB4.out.cell (i:=0) rfl)
    have Z1:=hd (HB4.out.cell (i:=1) rfl)
    have HM4:=hd (HM.out.keep HCQ.out (by simp))
    have HK14:=hd (cell_quiet HCQ.out HK1.out (by simp))
    have NgX:g≠X2:=by have h1:=HGB.out;have h2:=BX2.out;omega
    have NMX:M≠X2:=by have h1:=HXM.out;omega
    have HLK:Hid (∀ W,Chg [X2] W4 W→(Instr.lookup 138 (.map (some M)) (.string ⟨t.text.toArray⟩) true).run Tryz.prog W = .ok (.tuple #[.int .i64 (q:Nat),.bool (decide (q≠0))]) W):=hd (fun W h=>by rw[← HQE.out];exact look_marks (HM4.out.keep h (by simp[NMX])) t.text)
    refine wp_region_held_drew (S:=fun W'=>Chg [X2] W4 W') (by kernel_rfl) (Chg.refl _ _).drew (fun hHeld=>?_)
    refine tq 0 ?_
    refine tq 1 ?_
    refine tq 2 ?_
    refine tq 3 ?_
    refine tq1 4 (fun w9 hSw=>cell_quiet hSw Z0.out (by simp[NX2_b,NX2_b.symm])) ?_
    refine tq 5 ?_
    refine tq 6 ?_
    refine tq 7 ?_
    refine tq1 8 (fun w9 hSw=>cell_quiet hSw Z1.out (by simp[NX2_b,NX2_b.symm])) ?_
    refine tq 9 ?_
    refine tq 10 ?_
    refine tq1 11 (fun w9 hSw=>cell_quiet hSw HK14.out (by simp[NgX])) ?_
    refine tq1 12 (fun w9 hSw=>HLK.out w9 hSw) ?_
    refine tq 13 ?_
    refine tq 14 ?_
    refine tq 15 ?_
    refine tq 16 ?_
    obtain ⟨Z,hZ⟩:∃ Z,Z=W4.drew:=⟨_,rfl⟩
    rw[← hZ] at hHeld ⊢
    have HQ:Hid (Blk Z X2 [.int .i64 0,.int .i64 0,.int .i64 0] 45):=hd (by rw[hZ];exact HX2_3.out.drew)
    clear hZ
    refine rd1 17 (fun K hK=>?_)
    have x0:=HQ.out.cell (i:=0) rfl
    have xf0:=HQ.out.free 0
    go_simp
    refine kq hK (hHeld.setCell _ _ (.inl (by simp))) (fun hHeld=>?_)
    clear x0 xf0
    obtain ⟨Z1',hZ⟩:∃ W,W=Z.setCell ⟨X2,0,none⟩ (.int .i64 (q:Nat)):=⟨_,rfl⟩
    rw[← hZ] at hHeld ⊢
    have HQ1:Hid (Blk Z1' X2 [.int .i64 (q:Nat),.int .i64 0,.int .i64 0] 45):=hd (by rw[hZ];exact HQ.out.set 0 _)
    clear hZ
    refine tq 18 ?_
    refine dq ?_
    have HH:=hd hHeld
    clear hHeld
    have HPZ:Hid (Pp Z1' b (t :: r) en):=hd (((HP3.out.keep KP_3.out (al1 BX2.out))).keep HH.out (fun k hk=>by simp only[List.mem_cons,List.not_mem_nil,or_false] at hk;rw[hk];exact BX2.out))
    have HBZ:=hd (HH.out.blk HB4.out (by simp[NX2_b,NX2_b.symm]))
    have HCZ:Hid (Chg [] w Z1'):=hd ((HCN.out.trans HCQ.out (by simp)).trans HH.out (fun k hk=>.inr (by simp only[List.mem_cons,List.not_mem_nil,or_false] at hk;rw[hk];exact OX2.out)))
    have HCZb:Hid (Chg [b] w Z1'):=hd (HCZ.out.mono (by simp))
    by_cases hq:q=0
    · skip
      subst hq
      skip
      obtain ⟨cX2_0,cX2_1,cX2_2⟩:=HQ1.out.c3
      obtain ⟨cX2_f0,cX2_f1,cX2_f2⟩:=HQ1.out.f3
      go_wp2_with fail
      clear cX2_0 cX2_1 cX2_2 cX2_f0 cX2_f1 cX2_f2
      obtain ⟨W6,hW⟩:∃ W,W=(((Z1'.setCell ⟨X2,0,none⟩ (.int .i64 0)).setCell ⟨X2,1,none⟩ (.int .i64 0)).setCell ⟨X2,2,none⟩ (.int .i64 0)):=⟨_,rfl⟩
      rw[← hW]
      have HB6:Hid (Blk W6 X2 [.int .i64 0,.int .i64 0,.int .i64 0] 45):=hd (by rw[hW];exact ((HQ1.out.set 0 (.int .i64 0)).set 1 (.int .i64 0)).set 2 (.int .i64 0))
      have HC6:=hd (HCZ.out.s3 hW (.inr OX2.out))
      clear hW
      (try simp only[Exit.inBlock,Exit.then])
      refine bodyPost_ret (results_row_tmp rfl _ (.bool false) rfl _ X2 45 #[.int .i64 0,.int .i64 0,.int .i64 0] (0,0) _ rfl HB6.out Tryz.underlying45 rfl (by kernel_rfl)) rfl ?_
      exact .inl ⟨rfl,HMQ,HC6⟩
    have HQN:=hd hq
    have qd:decide (q≠0)=true:=decide_eq_true hq
    have hmk:Pn.mkc (t :: r)≠0:=by rw[HMQ.out];exact hq
    have HMN:=hd hmk
    clear hmk hq
    have HO:Hid (Pn.mark (t :: r)=(Pn.num r).bind fun n l1=>if q=4 then (Pn.must Pn.wOf l1).bind fun _ l2=>(Pn.num l2).bind fun w l3=>.ok ⟨q,n,w⟩ l3 else .ok ⟨q,n,0⟩ l1):=hd (by unfold Pn.mark;rw[HMQ.out];rfl)
    obtain ⟨n2,i2,g2,o2,cap2,hi2,hn2,hb2,hcap2,hgb2,-,hstep2⟩:=HPZ.out.cons
    have HB2':=hd hb2
    have HST2:=hd hstep2
    have z1:=hb2.cell (i:=1) rfl
    have zf1:=hb2.free 1
    clear hb2 hstep2 hcap2 hgb2
    go_upto_region 8 with fail
    clear z1 zf1 qd
    obtain ⟨W7,hW⟩:∃ W,W=Z1'.setCell ⟨b,1,none⟩ (.int .i64 ((i2:Int)+1)):=⟨_,rfl⟩
    rw[← hW]
    have HC7:Hid (Chg [b] Z1' W7):=hd (by rw[hW];exact (Chg.refl _ _).setCell _ _ (.inl (by simp)))
    have HP7:Hid (Pp W7 b r en):=hd (HST2.out _ HC7.out (by rw[hW];exact HB2'.out.set 1 _))
    clear hW
    have HX2_4:Hid (Blk W7 X2 [.int .i64 (q:Nat),.int .i64 0,.int .i64 0] 45):=hd (HC7.out.blk HQ1.out (by simp[NX2_b]))
    have C4:=hd (HCZb.out.trans HC7.out (al1 (.inl (by simp))))
    go_wp2_with fail
    obtain ⟨W5,hW⟩:∃ W,W=(W7.alloc (.cells #[.pointer (some ⟨X2,1,none⟩)] 96)):=⟨_,rfl⟩
    rw[← hW]
    obtain ⟨Q8,hQ8⟩:∃ T,T=W7.heap.size:=⟨_,rfl⟩
    try rw[← hQ8]
    have OQ8:Hid (X2 < Q8):=hd (by rw[hQ8];exact HX2_4.out.lt)
    have HX2_5:=hd (HX2_4.out.alE hW)
    have HQ8_5:Hid (Blk W5 Q8 [.pointer (some ⟨X2,1,none⟩)] 96):=hd (by
     have h1:=Blk.new W7 [.pointer (some ⟨X2,1,none⟩)] 96
     have h2:W7.heap.size=Q8:=by simp[hQ8]
     rw[h2] at h1
     rw[hW]
     exact h1)
    have BQ8:Hid (b < Q8):=hd (by have h1:=HBW.out;have OX2_:=OX2.out;have OQ8_:=OQ8.out;omega)
    have C5:=hd (C4.out.alE hW)
    have KP_5:Hid (Chg [X2] W7 W5):=hd (by rw[hW];exact ((Chg.refl [X2] W7).alloc _))
    clear hW hQ8
    have NQ8_b:Q8≠b:=by have h1:=HBW.out;have OX2_:=OX2.out;have OQ8_:=OQ8.out;omega
    have Nb_Q8:b≠Q8:=NQ8_b.symm
    have NQ8_X2:Q8≠X2:=by have OQ8_:=OQ8.out;omega
    refine num1_two (o:=1) (hd (HP7.out.keep KP_5.out (al1 BX2.out))) HQ8_5 HX2_5 (by simp) (hd ⟨BX2.out,NQ8_b,NQ8_X2⟩) (fun x8 r8 w8 HM8 HP8 HD8 HC8=>?_) (fun c r w9 HMb HCb=>?_)
    · skip
      have HQ8_6:Hid (Blk w8 Q8 [.pointer (some ⟨X2,1,none⟩)] 96):=hd (HC8.out.blk HQ8_5.out (by simp[NQ8_b,NQ8_X2]))
      have C6:=hd (C5.out.trans HC8.out (al2 (.inl (by simp)) (.inr (by have OX2_:=OX2.out;show w.heap.size≤X2;omega))))
      have HO1:=hd (good5 HO.out HM8.out)
      by_cases h4:q=4
      · have q4:((q:Int) == 4)=true:=by rw[h4];rfl
        have HO2:Hid (Pn.mark (t :: r)=(Pn.must Pn.wOf r8).bind fun _ l2=>(Pn.num l2).bind fun w l3=>.ok ⟨q,x8,w⟩ l3):=hd (by rw[HO1.out];(try simp only);rw[if_pos h4])
        clear h4
        obtain ⟨cX2_0,cX2_1,cX2_2⟩:=HD8.out.c3
        go_wp2_with fail
        clear q4 cX2_0 cX2_1 cX2_2
        refine must_two (hd HP8.out) [111,102] (fun r10 w10 HM10 HP10 HC10=>?_) (fun c r w9 HMb HCb=>?_)
        · skip
          have HX2_7:Hid (Blk w10 X2 [.int .i64 (q:Nat),.int .i64 (x8:Nat),.int .i64 0] 45):=hd (HC10.out.blk HD8.out (by simp[NX2_b]))
          have HQ8_7:=hd (HC10.out.blk HQ8_6.out (by simp[NQ8_b]))
          have C7:=hd (C6.out.trans HC10.out (al1 (.inl (by simp))))
          have HO3:=hd (good5 HO2.out HM10.out)
          go_wp2_with fail
          obtain ⟨W8,hW⟩:∃ W,W=(w10.alloc (.cells #[.pointer (some ⟨X2,2,none⟩)] 96)):=⟨_,rfl⟩
          rw[← hW]
          obtain ⟨Q11,hQ11⟩:∃ T,T=w10.heap.size:=⟨_,rfl⟩
          try rw[← hQ11]
          have OQ11:Hid (Q8 < Q11):=hd (by rw[hQ11];exact HQ8_7.out.lt)
          have HX2_8:=hd (HX2_7.out.alE hW)
          have HQ11_8:Hid (Blk W8 Q11 [.pointer (some ⟨X2,2,none⟩)] 96):=hd (by
           have h1:=Blk.new w10 [.pointer (some ⟨X2,2,none⟩)] 96
           have h2:w10.heap.size=Q11:=by simp[hQ11]
           rw[h2] at h1
           rw[hW]
           exact h1)
          have BQ11:Hid (b < Q11):=hd (by have h1:=HBW.out;have OX2_:=OX2.out;have OQ8_:=OQ8.out;have OQ11_:=OQ11.out;omega)
          have C8:=hd (C7.out.alE hW)
          have KP_8:Hid (Chg [X2,Q8] w10 W8):=hd (by rw[hW];exact ((Chg.refl [X2,Q8] w10).alloc _))
          clear hW hQ11
          have NQ11_b:Q11≠b:=by have h1:=HBW.out;have OX2_:=OX2.out;have OQ8_:=OQ8.out;have OQ11_:=OQ11.out;omega
          have Nb_Q11:b≠Q11:=NQ11_b.symm
          have NQ11_X2:Q11≠X2:=by have OQ8_:=OQ8.out;have OQ11_:=OQ11.out;omega
          refine num1_two (o:=2) (hd (HP10.out.keep KP_8.out (al2 BX2.out BQ8.out))) HQ11_8 HX2_8 (by simp) (hd ⟨BX2.out,NQ11_b,NQ11_X2⟩) (fun x11 r11 w11 HM11 HP11 HD11 HC11=>?_) (fun c r w9 HMb HCb=>?_)
          · skip
            have C9:=hd (C8.out.trans HC11.out (al2 (.inl (by simp)) (.inr (by have OX2_:=OX2.out;show w.heap.size≤X2;omega))))
            have HO4:=hd (good5 HO3.out HM11.out)
            obtain ⟨cX2_0,cX2_1,cX2_2⟩:=HD11.out.c3
            obtain ⟨cX2_f0,cX2_f1,cX2_f2⟩:=HD11.out.f3
            go_wp2_with fail
            clear cX2_0 cX2_1 cX2_2 cX2_f0 cX2_f1 cX2_f2
            obtain ⟨W10,hW⟩:∃ W,W=(((w11.setCell ⟨X2,0,none⟩ (.int .i64 (q:Nat))).setCell ⟨X2,1,none⟩ (.int .i64 (x8:Nat))).setCell ⟨X2,2,none⟩ (.int .i64 (x11:Nat))):=⟨_,rfl⟩
            rw[← hW]
            have HX2_10:Hid (Blk W10 X2 [.int .i64 (q:Nat),.int .i64 (x8:Nat),.int .i64 (x11:Nat)] 45):=hd (by rw[hW];exact (((HD11.out.set 0 (.int .i64 (q:Nat))).set 1 (.int .i64 (x8:Nat))).set 2 (.int .i64 (x11:Nat))))
            have C10:=hd (C9.out.s3 hW (.inr (by have OX2_:=OX2.out;show w.heap.size≤X2;omega)))
            have KP_10:=hd ((Chg.refl [X2,Q8,Q11] w11).s3 hW (.inl (by simp)))
            clear hW
            (try simp only[Exit.inBlock,Exit.then])
            refine bodyPost_ret (results_row_tmp rfl _ (.bool true) rfl _ X2 45 #[.int .i64 (q:Nat),.int .i64 (x8:Nat),.int .i64 (x11:Nat)] (0,0) _ rfl HX2_10.out Tryz.underlying45 rfl (by kernel_rfl)) rfl ?_
            exact .inr (.inl ⟨⟨q,x8,x11⟩,_,rfl,HMN,HO4,hd (HP11.out.keep KP_10.out (al3 BX2.out BQ8.out BQ11.out)),C10⟩)
          go_wp2_with fail
          exact ⟨rfl,.inr (.inr ⟨c,r,rfl,HMN,hd (bad5 HO3.out HMb.out),hd (C8.out.trans HCb.out (al2 (.inl (by simp)) (.inr (by have OX2_:=OX2.out;show w.heap.size≤X2;omega))))⟩)⟩
        go_wp2_with fail
        exact ⟨rfl,.inr (.inr ⟨c,r,rfl,HMN,hd (bad5 HO2.out HMb.out),hd (C6.out.trans HCb.out (al1 (.inl (by simp))))⟩)⟩
      have q4:((q:Int) == 4)=false:=beq_eq_false_iff_ne.2 (by omega)
      have HO2:Hid (Pn.mark (t :: r) = .ok ⟨q,x8,0⟩ r8):=hd (by rw[HO1.out];(try simp only);rw[if_neg h4])
      clear h4
      obtain ⟨cX2_0,cX2_1,cX2_2⟩:=HD8.out.c3
      go_upto_region 12 with fail
      clear q4 cX2_0 cX2_1 cX2_2
      obtain ⟨cX2_0,cX2_1,cX2_2⟩:=HD8.out.c3
      obtain ⟨cX2_f0,cX2_f1,cX2_f2⟩:=HD8.out.f3
      go_wp2_with fail
      clear cX2_0 cX2_1 cX2_2 cX2_f0 cX2_f1 cX2_f2
      obtain ⟨W7,hW⟩:∃ W,W=(((w8.setCell ⟨X2,0,none⟩ (.int .i64 (q:Nat))).setCell ⟨X2,1,none⟩ (.int .i64 (x8:Nat))).setCell ⟨X2,2,none⟩ (.int .i64 0)):=⟨_,rfl⟩
      rw[← hW]
      have HX2_7:Hid (Blk W7 X2 [.int .i64 (q:Nat),.int .i64 (x8:Nat),.int .i64 0] 45):=hd (by rw[hW];exact (((HD8.out.set 0 (.int .i64 (q:Nat))).set 1 (.int .i64 (x8:Nat))).set 2 (.int .i64 0)))
      have C7:=hd (C6.out.s3 hW (.inr (by have OX2_:=OX2.out;show w.heap.size≤X2;omega)))
      have KP_7:=hd ((Chg.refl [X2,Q8] w8).s3 hW (.inl (by simp)))
      clear hW
      (try simp only[Exit.inBlock,Exit.then])
      refine bodyPost_ret (results_row_tmp rfl _ (.bool true) rfl _ X2 45 #[.int .i64 (q:Nat),.int .i64 (x8:Nat),.int .i64 0] (0,0) _ rfl HX2_7.out Tryz.underlying45 rfl (by kernel_rfl)) rfl ?_
      exact .inr (.inl ⟨⟨q,x8,0⟩,_,rfl,HMN,HO2,hd (HP8.out.keep KP_7.out (al2 BX2.out BQ8.out)),C7⟩)
    go_wp2_with fail
    exact ⟨rfl,.inr (.inr ⟨c,r,rfl,HMN,hd (bad5 HO.out HMb.out),hd (C5.out.trans HCb.out (al2 (.inl (by simp)) (.inr (by have OX2_:=OX2.out;show w.heap.size≤X2;omega))))⟩)⟩
  have m0:((t.kind:Int) != 1)=true:=bne_iff_ne.2 (by omega)
  have hmk:Pn.mkc (t :: r)=0:=mkc_other t r hk
  have HMK:=hd hmk
  clear hk hmk
  go_quiet (fail)
  obtain ⟨cX2_0,cX2_1,cX2_2⟩:=HX2_2.out.c3
  obtain ⟨cX2_f0,cX2_f1,cX2_f2⟩:=HX2_2.out.f3
  go_wp2_with fail
  clear cX2_0 cX2_1 cX2_2 cX2_f0 cX2_f1 cX2_f2
  obtain ⟨W4,hW⟩:∃ W,W=((((w3.drewN nq).setCell ⟨X2,0,none⟩ (.int .i64 0)).setCell ⟨X2,1,none⟩ (.int .i64 0)).setCell ⟨X2,2,none⟩ (.int .i64 0)):=⟨_,rfl⟩
  rw[← hW]
  have HB4:Hid (Blk W4 X2 [.int .i64 0,.int .i64 0,.int .i64 0] 45):=hd (by rw[hW];exact ((((chg_drewNP w3 nq).blk HX2_2.out (by simp)).set 0 _).set 1 _).set 2 _)
  have HC4:Hid (Chg [] w W4):=hd (by rw[hW];exact ((((HCN.out.trans (chg_drewNP w3 nq) (by simp)).setCell _ _ (.inr OX2.out)).setCell _ _ (.inr OX2.out)).setCell _ _ (.inr OX2.out)))
  clear hW
  (try simp only[Exit.inBlock,Exit.then])
  refine bodyPost_ret (results_row_tmp rfl _ (.bool false) rfl _ X2 45 #[.int .i64 0,.int .i64 0,.int .i64 0] (0,0) _ rfl HB4.out Tryz.underlying45 rfl (by kernel_rfl)) rfl ?_
  exact .inl ⟨rfl,hd (HMK.out),HC4⟩
end Go.Proofs.YtglepipfdmphhaaGreatDoor
namespace Go.Proofs.YtglepipfdmphhaaGreatDoor
set_option linter.unusedVariables false
set_option linter.unusedSimpArgs false
open Go Go.RowKit Go.Shelf
open Lx (Tk)
theorem name_ok {l:List Tk} {t:Tk} {r:List Tk} (h:Rl.nxt 1 none l = .ok t r):Pn.name l = .ok t.text r:=by
 unfold Pn.name
 rw[h]
 rfl
theorem name_bad {l:List Tk} {c:Nat} {r:List Tk} (h:Rl.nxt 1 none l = .bad c r):Pn.name l = .bad c r:=by
 unfold Pn.name
 rw[h]
 rfl
def mkv (m:Pn.Mk):List Value:=[.int .i64 (m.kind:Nat),.int .i64 (m.seat:Nat),.int .i64 (m.w:Nat)]
def mk0:Pn.Mk:=⟨0,0,0⟩
def Cm (m:Pn.Mk) (cs:List Value) (w:World):Prop:=cs=mkv m
theorem kp_m (B:Nat):Kp B [] Cm:=fun own w w' a cs hc ho h=>h
theorem mono_m {B B':Nat} (h:B≤B'):∀ (a:Pn.Mk) (cs:List Value) (w:World),Cm a cs w→Cm a cs w:=fun _ _ _ h=>h
def Crw (B:Nat) (x:Pn.Rw) (cs:List Value) (w:World):Prop:=∃ u,cs=[.string ⟨x.name.toArray⟩,.int .i64 (x.x:Nat),.int .i64 (x.y:Nat),.int .i64 (x.f:Nat),.int .i64 (x.t:Nat),.int .i64 (x.step:Nat),u,.int .i64 (x.at_:Nat)]∧ListS B 45 3 Cm x.marks u w
theorem kp_rw (B:Nat):Kp B [45] (Crw B):=fun own w w' a cs hc ho ⟨u,h1,h2⟩=>⟨u,h1,h2.keep (kp_m B) hc ho⟩
def RowV (B:Nat) (x:Pn.Rw) (v:Value) (w:World):Prop:=∃ u,v = .agg #[.string ⟨x.name.toArray⟩,.int .i64 (x.x:Nat),.int .i64 (x.y:Nat),.int .i64 (x.f:Nat),.int .i64 (x.t:Nat),.int .i64 (x.step:Nat),u,.int .i64 (x.at_:Nat)]∧ListS B 45 3 Cm x.marks u w
def leftP (b:Nat) (w:World):Nat:=match w.cell? ⟨b,0,none⟩,w.cell? ⟨b,1,none⟩ with
 | some (.slice _ n _),some (.int _ i)=>n - i.toNat
 | _,_=>0
theorem left_pp {w:World} {b en:Nat} {l:List Tk} (h:Pp w b l en):leftP b w=l.length:=by
 obtain ⟨L,i,ao,cap,e1,e2,e3,h1,_⟩:=h
 unfold leftP
 rw[h1.cell (i:=0) rfl,h1.cell (i:=1) rfl,e1,List.length_drop]
 simp
def boolOf:Value→Nat
 | .bool true=>1
 | _=>0
theorem nxt_len {k:Nat} {x:Option Bytes} {l:List Tk} {t:Tk} {r:List Tk} (h:Rl.nxt k x l = .ok t r):l.length=r.length+1:=by
 cases l with
 | nil=>cases h
 | cons a q =>
  have h':(if Rl.is k x (a :: q)=true then Rl.Out.ok a q else Rl.Out.bad 4 (a :: q)) = .ok t r:=h
  split at h'
  · simp only[Rl.Out.ok.injEq] at h'
    rw[← h'.2]
    rfl
  cases h'
theorem num_len {l:List Tk} {x:Nat} {r:List Tk} (h:Pn.num l = .ok x r):l.length=r.length+1:=by
 unfold Pn.num at h
 cases h1:Rl.nxt 2 none l with
 | bad c q=>rw[h1] at h;cases h
 | ok t q =>
  rw[h1] at h
  simp only[Rl.Out.bind,Rl.Out.ok.injEq] at h
  rw[← h.2]
  exact nxt_len h1
theorem must_len {x:Bytes} {l:List Tk} {u:Unit} {r:List Tk} (h:Pn.must x l = .ok u r):r.length≤l.length:=by
 unfold Pn.must at h
 split at h
 · simp only[Rl.Out.ok.injEq] at h
   rw[← h.2,List.length_tail]
   omega
 cases h
theorem mark_len {l:List Tk} {m:Pn.Mk} {r:List Tk} (h:Pn.mark l = .ok m r):r.length+1≤l.length:=by
 unfold Pn.mark at h
 cases h1:Pn.num l.tail with
 | bad c q=>rw[h1] at h;cases h
 | ok n q =>
  rw[h1] at h
  have h2:=num_len h1
  rw[List.length_tail] at h2
  simp only[Rl.Out.bind] at h
  split at h
  · cases h3:Pn.must Pn.wOf q with
    | bad c q2=>rw[h3] at h;cases h
    | ok u q2 =>
     rw[h3] at h
     simp only at h
     have h4:=must_len h3
     cases h5:Pn.num q2 with
     | bad c q3=>rw[h5] at h;cases h
     | ok v q3 =>
      rw[h5] at h
      simp only[Rl.Out.ok.injEq] at h
      have h6:=num_len h5
      rw[← h.2]
      omega
  simp only[Rl.Out.ok.injEq] at h
  rw[← h.2]
  omega
theorem loopG_stop {α:Type} {stop:List Tk→Bool} {one:List Tk→Rl.Out α} {k:Nat} {acc:List α} {l:List Tk} (h:stop l=true):Pn.loopG stop one k acc l = .ok acc l:=by
 cases k with
 | zero=>rfl
 | succ k =>
  unfold Pn.loopG
  rw[if_pos h]
theorem loopG_ok {α:Type} {stop:List Tk→Bool} {one:List Tk→Rl.Out α} {k:Nat} {acc:List α} {l:List Tk} {a:α} {r:List Tk} (h:stop l=false) (ho:one l = .ok a r):Pn.loopG stop one (k+1) acc l=Pn.loopG stop one k (acc++[a]) r:=by
 rw[Pn.loopG,if_neg (by rw[h];simp),ho]
 rfl
theorem loopG_bad {α:Type} {stop:List Tk→Bool} {one:List Tk→Rl.Out α} {k:Nat} {acc:List α} {l:List Tk} {c:Nat} {r:List Tk} (h:stop l=false) (ho:one l = .bad c r):Pn.loopG stop one (k+1) acc l = .bad c r:=by
 rw[Pn.loopG,if_neg (by rw[h];simp),ho]
 rfl
theorem Pp.small {w:World} {b en:Nat} {l:List Tk} (h:Pp w b l en):l.length≤1000000:=by
 obtain ⟨L,i,ao,cap,e1,e2,e3,_⟩:=h
 rw[e1,List.length_drop]
 omega
theorem Pp.via {W wo v:World} {b en:Nat} {l:List Tk} {own:List Nat} (h:Pp wo b l en) (h1:Chg own W wo) (h2:Chg own W v) (hB:∀ ds S,Blk wo b ds S→Blk v b ds S) (ho:∀ k ∈ own,b≤k) (hb:b < W.heap.size):Pp v b l en:=by
 obtain ⟨L,i,ao,cap,e1,e2,e3,k1,k2,k3⟩:=h
 refine ⟨L,i,ao,cap,e1,e2,e3,hB _ _ k1,?_,k3⟩
 obtain ⟨ao',cap',j1,j2,j3⟩:=k2
 cases j1
 refine ⟨ao,cap,rfl,j2,fun j t ht=>?_⟩
 obtain ⟨g,off,j4,j5,j6,j7,j8⟩:=j3 j t ht
 have hgb:g < b:=k3 (by rintro rfl;simp at ht) _ j4
 have hn:g ∉ own:=fun hm=>by have:=ho g hm;omega
 have hg:v.heap[g]? = wo.heap[g]?:=(h2.block g (by omega) hn).trans (h1.block g (by omega) hn).symm
 exact ⟨g,off,j4,(World.cell?_of_block (a:=⟨g,off+4*j,none⟩) hg).trans j5,(World.cell?_of_block (a:=⟨g,off+4*j+1,none⟩) hg).trans j6,(World.cell?_of_block (a:=⟨g,off+4*j+2,none⟩) hg).trans j7,(World.cell?_of_block (a:=⟨g,off+4*j+3,none⟩) hg).trans j8⟩
theorem ListS.below {α:Type} {w:World} {B:Nat} {E:TypeId} {size:Nat} {C:α→List Value→World→Prop} {l:List α} {v:Value} (h:ListS B E size C l v w):∀ k,v.ownBlock=some k→k < w.heap.size:=by
 obtain ⟨css,_,_,h3⟩:=h
 intro k hk
 rcases h3.2 with ⟨rfl,_⟩|⟨g,cap,cur,rfl,_,hg,_⟩
 · simp[Value.ownBlock] at hk
 simp only[Value.ownBlock,Option.some.injEq] at hk
 rw[← hk]
 exact (Array.getElem?_eq_some_iff.1 hg).1
def optN {α:Type}:Option α→Nat
 | none=>0
 | some _=>1
def MRes (l:List Tk) (om:Option Pn.Mk) (q:List Tk):Prop:=match om with
 | none=>Pn.mkc l=0∧q=l
 | some m=>Pn.mkc l≠0∧Pn.mark l = .ok m q
def MInv (O:Rl.Out (List Pn.Mk)) (ms:List Pn.Mk) (om:Option Pn.Mk) (q:List Tk) (k:Nat):Prop:=match om with
 | none=>O = .ok ms q
 | some m=>O=Pn.loopG (fun l=>decide (Pn.mkc l=0)) Pn.mark k (ms++[m]) q∧q.length < k
theorem minv_step {O:Rl.Out (List Pn.Mk)} {ms:List Pn.Mk} {q q':List Tk} {k:Nat} {om:Option Pn.Mk} (h:O=Pn.loopG (fun l=>decide (Pn.mkc l=0)) Pn.mark (k+1) ms q) (hk:q.length < k+1) (hm:MRes q om q'):MInv O ms om q' k:=by
 cases om with
 | none =>
  obtain ⟨h1,rfl⟩:=hm
  rw[loopG_stop (by simp[h1])] at h
  exact h
 | some m =>
  obtain ⟨h1,h2⟩:=hm
  rw[loopG_ok (by simp[h1]) h2] at h
  have:=mark_len h2
  exact ⟨h,by omega⟩
theorem mres_len {q q':List Tk} {om:Option Pn.Mk} (hm:MRes q om q'):optN om+q'.length≤q.length:=by
 cases om with
 | none =>
  obtain ⟨h1,rfl⟩:=hm
  simp[optN]
 | some m =>
  have:=mark_len hm.2
  show 1+_≤_
  omega
theorem marks_bad {O:Rl.Out (List Pn.Mk)} {ms:List Pn.Mk} {q:List Tk} {k c:Nat} {r:List Tk} (h:O=Pn.loopG (fun l=>decide (Pn.mkc l=0)) Pn.mark k ms q) (hk:q.length < k) (hn:Pn.mkc q≠0) (hb:Pn.mark q = .bad c r):O = .bad c r:=by
 obtain ⟨k',rfl⟩:∃ k',k=k'+1:=⟨k - 1,by omega⟩
 rw[h,loopG_bad (by simp[hn]) hb]
theorem mark_any {w:World} {b en:Nat} {l:List Tk} (HP:Hid (Pp w b l en)) {R:Ending→World→Prop}
 (hok:∀ (om:Option Pn.Mk) (r:List Tk) (w':World),Hid (MRes l om r)→Hid (Pp w' b r en)→Hid (Chg [b] w w')→R (.returned (.tuple #[.agg #[.int .i64 ((om.getD mk0).kind:Nat),.int .i64 ((om.getD mk0).seat:Nat),.int .i64 ((om.getD mk0).w:Nat)],.bool om.isSome])) w')
 (hbad:∀ (c:Nat) (r:List Tk) (w':World),Hid (Pn.mkc l≠0)→Hid (Pn.mark l = .bad c r)→Hid (Chg [b] w w')→R (.panicked [{ v:=flt c r en,recovered:=false }]) w') :
 Calls Tryz.prog 113 #[.pointer (some ⟨b,0,none⟩)] w R :=
 mark_two HP (fun w' h1 h2=>hok none l w' (hd ⟨h1.out,rfl⟩) (hd (HP.out.quiet h2.out)) (hd (h2.out.mono (by simp)))) (fun m r w' h1 h2 h3 h4=>hok (some m) r w' (hd ⟨h1.out,h2.out⟩) h3 h4) hbad
theorem own_geP {w:World} {base:Nat} {e:TypeId} {size:Nat} {v:Value} {n:Nat} {xs:List Value} (h:w.ownsRow base e size v n xs):∀ k,v.ownBlock=some k→base≤k:=by
 intro k hk
 rcases h.2 with ⟨rfl,_⟩|⟨g,cap,cur,rfl,hb,_⟩
 · simp[Value.ownBlock] at hk
 simp only[Value.ownBlock,Option.some.injEq] at hk
 omega
theorem grown_blk {w w':World} {b:Nat} {cs:List Value} {T E:TypeId} {base size n:Nat} {v:Value} {xs:List Value} (hb:Blk w b cs T) (hg:w.grownBy w' v.ownBlock) (ho:w.ownsRow base E size v n xs) (hne:T≠E):Blk w' b cs T:=by
 refine (hg.block b hb.lt (fun e=>?_)).trans hb
 rcases ho.2 with ⟨rfl,_⟩|⟨g,cap,cur,rfl,_,hgg,_⟩
 · simp[Value.ownBlock] at e
 simp only[Value.ownBlock,Option.some.injEq] at e
 subst e
 unfold Blk at hb
 rw[hgg] at hb
 simp only[Option.some.injEq,Obj.cells.injEq] at hb
 exact hne hb.2.1.symm
theorem mPnJL1 {G:Prop} (h:G:=by
  obtain ⟨ao,cap,rfl⟩:=owns_form h4
  refine h ao cap w' (ListS.snoc h1 h2 (by rw[hln];exact h3) hK hE hlen hC h5 (by rw[hln];exact h4)) (fun own w0 hc hb'=>hc.grown h5 (fun k hk=>.inr (Nat.le_trans hb' (own_geP h3 k hk)))) (fun b ds T hbb hor=>?_)
  rcases hor with hor|hor|hor
  · refine (h5.block b hbb.lt (fun e=>?_)).trans hbb
    have:=own_geP h3 b e.symm
    omega
  · exact grown_blk hbb h5 h3 hor
  exact (h5.block b hbb.lt (fun e=>hor e)).trans hbb):G:=h
theorem wpList_snoc {P:Program} {w:World} {ops:Array Oper} {rest:List Oper} {o:Oper} {a:Act} {Q:Exit→Act→World→Prop} (hgd:o.guard=none) (s x:Operand) (t:TypeId)
 (ho:o.op = .call { callee:=.builtin .append,args:=#[s,x],argTypes:=#[t,t] })
 (e:TypeId) (i:TypeInfo) (z:Value) (size bytes:Nat) (ht:P.underlying t=some (.slice e)) (hi:P.info? e=some i) (hz:i.zero=some z)
 (hsize:i.size=size) (hby:i.bytes=bytes) (hzs:z.cells.size=size) (hsz:0 < size)
 {α:Type} {C:α→List Value→World→Prop} {B:Nat} {Es:List TypeId} {l:List α} (v:Value) (n:Nat) (hs:a.eval s=v) (HL:ListS B e size C l v w) (hln:l.length=n) (hK:Kp B Es C) (hE:e ∉ Es)
 (el:α) (cs:List Value) (hC:C el cs w) (hlen:cs.length=size) (hone:∀ u ∈ cs,u.oneCell'=true) (g:Nat) (hx:a.eval x = .slice (some ⟨g,0,none⟩) 1 1) (hb:Blk w g cs e)
 (h63:n+1≤maxLen) (hbytes:(n+1)*bytes≤140737488355328) (hbase:B≤w.heap.size)
 (h:∀ ao cap w',ListS B e size C (l++[el]) (.slice ao (n+1) cap) w'→(∀ own w0,Chg own w0 w→w0.heap.size≤B→Chg own w0 w')→(∀ b ds T,Blk w b ds T→(b < B∨T≠e∨some b≠v.ownBlock)→Blk w' b ds T)→wpList P ops Q rest (a.put o.dst (.slice ao (n+1) cap)) w') :
 wpList P ops Q (o :: rest) a w:=by
 obtain ⟨css,h1,h2,h3⟩:=HL
 rw[hln] at h3
 refine wpList_append_own w hgd s x t ho B e i z size bytes ht hi hz hsize hby hzs hsz v n css.flatten hs h3 ⟨g,0,none⟩ 1 1 cs hx (by rw[hlen,Nat.one_mul]) (fun j u hj=>by rw[addr_add,Nat.zero_add];exact hb.cell hj) hone h63 hbytes hbase fun v' w' h4 h5 _=>?_
 exact mPnJL1
theorem take_snoc {α:Type} {l:List α} {j:Nat} {a:α} (h:l[j]? = some a):l.take (j+1)=l.take j++[a]:=by
 rw[List.take_add_one,h]
 rfl
theorem ListS.mono {α:Type} {w:World} {B B':Nat} {E:TypeId} {size:Nat} {C C':α→List Value→World→Prop} {l:List α} {v:Value} (h:ListS B' E size C l v w) (hB:B≤B') (hC:∀ a cs w,C a cs w→C' a cs w):ListS B E size C' l v w:=by
 obtain ⟨css,h1,h2,h3⟩:=h
 refine ⟨css,h1,fun i a cs ha hcs=>⟨(h2 i a cs ha hcs).1,hC _ _ _ (h2 i a cs ha hcs).2⟩,h3.1,?_⟩
 rcases h3.2 with h0|⟨g,cap,cur,hv,hb,rest⟩
 · exact .inl h0
 exact .inr ⟨g,cap,cur,hv,Nat.le_trans hB hb,rest⟩
def lenOf:Value→Nat
 | .slice _ n _=>n
 | _=>0
theorem info_parts {P:Program} {t:TypeId} {z:Value} {s b:Nat} (h:(P.info? t).map (fun i=>(i.zero,i.size,i.bytes))=some (some z,s,b)):∃ i,P.info? t=some i∧i.zero=some z∧i.size=s∧i.bytes=b:=by
 cases hi:P.info? t with
 | none=>rw[hi] at h;cases h
 | some i =>
  rw[hi] at h
  simp only[Option.map_some,Option.some.injEq,Prod.mk.injEq] at h
  exact ⟨i,rfl,h.1,h.2.1,h.2.2⟩
theorem info_mark:(Tryz.prog.info? 45).map (fun i=>(i.zero,i.size,i.bytes))=some (some (.agg #[.int .i64 0,.int .i64 0,.int .i64 0]),3,24):=by kernel_rfl
theorem row_spec (w:World) (b en:Nat) (l:List Tk) (HP:Hid (Pp w b l en)):Calls Tryz.prog 95 #[.pointer (some ⟨b,0,none⟩)] w fun e w'=>PRes w b en (RowV w.heap.size) (Pn.row l) e w':=by
 obtain ⟨im,him,mz0,mz1,mz2⟩:=info_parts info_mark
 have HBW:Hid (b < w.heap.size):=hd HP.out.lt
 have HO:Hid (Pn.row l=_):=hd (Pn.row.eq_1 l)
 go_enter Tryz.func95,Tryz.ntmps95
 go_upto_region 1 with fail
 obtain ⟨W1,hW⟩:∃ W,W=(w.alloc (.cells #[.string ⟨#[]⟩,.int .i64 0,.int .i64 0,.int .i64 0,.int .i64 0,.int .i64 0,.slice none 0 0,.int .i64 0] 48)):=⟨_,rfl⟩
 rw[← hW]
 obtain ⟨X2,hX2⟩:∃ T,T=w.heap.size:=⟨_,rfl⟩
 try rw[← hX2]
 have OX2:Hid (w.heap.size≤X2):=hd (by rw[hX2];exact Nat.le_refl _)
 have HX2_1:Hid (Blk W1 X2 [.string ⟨#[]⟩,.int .i64 0,.int .i64 0,.int .i64 0,.int .i64 0,.int .i64 0,.slice none 0 0,.int .i64 0] 48):=hd (by
  have h1:=Blk.new w [.string ⟨#[]⟩,.int .i64 0,.int .i64 0,.int .i64 0,.int .i64 0,.int .i64 0,.slice none 0 0,.int .i64 0] 48
  have h2:w.heap.size=X2:=by simp[hX2]
  rw[h2] at h1
  rw[hW]
  exact h1)
 have BX2:Hid (b < X2):=hd (by have h1:=HBW.out;have OX2_:=OX2.out;omega)
 have C1:Hid (Chg [b] w W1):=hd (by rw[hW];exact ((Chg.refl [b] w).alloc _))
 have KP_1:Hid (Chg [] w W1):=hd (by rw[hW];exact ((Chg.refl [] w).alloc _))
 clear hW hX2
 go_wp2_with fail
 refine at_two (hd (HP.out.keep KP_1.out (by simp))) (fun a1 r1 w1 HM1 HP1 HC1=>?_) (fun c r w9 HMb HCb=>?_)
 · skip
   have NX2_b:X2≠b:=by have h1:=HBW.out;have OX2_:=OX2.out;omega
   have Nb_X2:b≠X2:=NX2_b.symm
   have HX2_2:Hid (Blk w1 X2 [.string ⟨#[]⟩,.int .i64 0,.int .i64 0,.int .i64 0,.int .i64 0,.int .i64 0,.slice none 0 0,.int .i64 0] 48):=hd (HC1.out.blk HX2_1.out (by simp[NX2_b]))
   have C2:=hd (C1.out.trans HC1.out (al1 (.inl (by simp))))
   have HO1:=hd (good5 HO.out HM1.out)
   go_upto_region 2 with fail
   obtain ⟨W3,hW⟩:∃ W,W=(w1.alloc (.cells #[.string ⟨#[]⟩,.int .i64 0,.int .i64 0,.int .i64 0,.int .i64 0,.int .i64 0,.slice none 0 0,.int .i64 (a1:Nat)] 48)):=⟨_,rfl⟩
   rw[← hW]
   obtain ⟨X3,hX3⟩:∃ T,T=w1.heap.size:=⟨_,rfl⟩
   try rw[← hX3]
   have OX3:Hid (X2 < X3):=hd (by rw[hX3];exact HX2_2.out.lt)
   have HX2_3:=hd (HX2_2.out.alE hW)
   have HX3_3:Hid (Blk W3 X3 [.string ⟨#[]⟩,.int .i64 0,.int .i64 0,.int .i64 0,.int .i64 0,.int .i64 0,.slice none 0 0,.int .i64 (a1:Nat)] 48):=hd (by
    have h1:=Blk.new w1 [.string ⟨#[]⟩,.int .i64 0,.int .i64 0,.int .i64 0,.int .i64 0,.int .i64 0,.slice none 0 0,.int .i64 (a1:Nat)] 48
    have h2:w1.heap.size=X3:=by simp[hX3]
    rw[h2] at h1
    rw[hW]
    exact h1)
   have BX3:Hid (b < X3):=hd (by have h1:=HBW.out;have OX2_:=OX2.out;have OX3_:=OX3.out;omega)
   have C3:=hd (C2.out.alE hW)
   have KP_3:Hid (Chg [X2] w1 W3):=hd (by rw[hW];exact ((Chg.refl [X2] w1).alloc _))
   clear hW hX3
   go_wp2_with fail
   refine must_two (hd (HP1.out.keep KP_3.out (al1 BX2.out))) [114,111,119] (fun r2 w2 HM2 HP2 HC2=>?_) (fun c r w9 HMb HCb=>?_)
   · skip
     have NX3_b:X3≠b:=by have h1:=HBW.out;have OX2_:=OX2.out;have OX3_:=OX3.out;omega
     have Nb_X3:b≠X3:=NX3_b.symm
     have HX2_4:=hd (HC2.out.blk HX2_3.out (by simp[NX2_b]))
     have HX3_4:Hid (Blk w2 X3 [.string ⟨#[]⟩,.int .i64 0,.int .i64 0,.int .i64 0,.int .i64 0,.int .i64 0,.slice none 0 0,.int .i64 (a1:Nat)] 48):=hd (HC2.out.blk HX3_3.out (by simp[NX3_b]))
     have C4:=hd (C3.out.trans HC2.out (al1 (.inl (by simp))))
     have HO2:=hd (good5 HO1.out HM2.out)
     go_wp2_with fail
     refine take_two (hd HP2.out) 1 (fun t3 r3 w3 HM3 HP3 HC3=>?_) (fun c r w9 HMb HCb=>?_)
     · skip
       have HX2_5:=hd (HC3.out.blk HX2_4.out (by simp[NX2_b]))
       have HX3_5:=hd (HC3.out.blk HX3_4.out (by simp[NX3_b]))
       have C5:=hd (C4.out.trans HC3.out (al1 (.inl (by simp))))
       have HO3:=hd (good5 HO2.out (name_ok HM3.out))
       have hf3:=fun W=>field_text (.int .i64 (t3.kind:Nat)) (.string ⟨t3.text.toArray⟩) (.int .i64 (t3.n:Nat)) (.int .i64 (t3.at_:Nat)) W
       obtain ⟨cX3_0,cX3_1,cX3_2,cX3_3,cX3_4,cX3_5,cX3_6,cX3_7⟩:=HX3_5.out.c8
       obtain ⟨cX3_f0,cX3_f1,cX3_f2,cX3_f3,cX3_f4,cX3_f5,cX3_f6,cX3_f7⟩:=HX3_5.out.f8
       go_upto_region 4 with fail
       clear cX3_0 cX3_1 cX3_2 cX3_3 cX3_4 cX3_5 cX3_6 cX3_7 cX3_f0 cX3_f1 cX3_f2 cX3_f3 cX3_f4 cX3_f5 cX3_f6 cX3_f7 hf3
       have NX2_X3:X2≠X3:=by have OX3_:=OX3.out;omega
       have NX3_X2:X3≠X2:=NX2_X3.symm
       obtain ⟨W6,hW⟩:∃ W,W=(w3.setCell ⟨X3,0,none⟩ (.string ⟨t3.text.toArray⟩)):=⟨_,rfl⟩
       rw[← hW]
       have HX2_6:=hd (HX2_5.out.o1 hW NX2_X3)
       have HX3_6:Hid (Blk W6 X3 [.string ⟨t3.text.toArray⟩,.int .i64 0,.int .i64 0,.int .i64 0,.int .i64 0,.int .i64 0,.slice none 0 0,.int .i64 (a1:Nat)] 48):=hd (by rw[hW];exact (HX3_5.out.set 0 (.string ⟨t3.text.toArray⟩)))
       have C6:=hd (C5.out.s1 hW (.inr (by have OX2_:=OX2.out;have OX3_:=OX3.out;show w.heap.size≤X3;omega)))
       have KP_6:=hd ((Chg.refl [X2,X3] w3).s1 hW (.inl (by simp)))
       clear hW
       go_wp2_with fail
       refine must_two (hd (HP3.out.keep KP_6.out (al2 BX2.out BX3.out))) [97,116] (fun r4 w4 HM4 HP4 HC4=>?_) (fun c r w9 HMb HCb=>?_)
       · skip
         have HX2_7:=hd (HC4.out.blk HX2_6.out (by simp[NX2_b]))
         have HX3_7:=hd (HC4.out.blk HX3_6.out (by simp[NX3_b]))
         have C7:=hd (C6.out.trans HC4.out (al1 (.inl (by simp))))
         have HO4:=hd (good5 HO3.out HM4.out)
         go_wp2_with fail
         obtain ⟨W8,hW⟩:∃ W,W=(w4.alloc (.cells #[.pointer (some ⟨X3,1,none⟩),.pointer (some ⟨X3,2,none⟩)] 96)):=⟨_,rfl⟩
         rw[← hW]
         obtain ⟨Q5,hQ5⟩:∃ T,T=w4.heap.size:=⟨_,rfl⟩
         try rw[← hQ5]
         have OQ5:Hid (X3 < Q5):=hd (by rw[hQ5];exact HX3_7.out.lt)
         have HX2_8:=hd (HX2_7.out.alE hW)
         have HX3_8:=hd (HX3_7.out.alE hW)
         have HQ5_8:Hid (Blk W8 Q5 [.pointer (some ⟨X3,1,none⟩),.pointer (some ⟨X3,2,none⟩)] 96):=hd (by
          have h1:=Blk.new w4 [.pointer (some ⟨X3,1,none⟩),.pointer (some ⟨X3,2,none⟩)] 96
          have h2:w4.heap.size=Q5:=by simp[hQ5]
          rw[h2] at h1
          rw[hW]
          exact h1)
         have C8:=hd (C7.out.alE hW)
         have KP_8:Hid (Chg [X2,X3] w4 W8):=hd (by rw[hW];exact ((Chg.refl [X2,X3] w4).alloc _))
         clear hW hQ5
         have NQ5_b:Q5≠b:=by have h1:=HBW.out;have OX2_:=OX2.out;have OX3_:=OX3.out;have OQ5_:=OQ5.out;omega
         have Nb_Q5:b≠Q5:=NQ5_b.symm
         have NQ5_X3:Q5≠X3:=by have OQ5_:=OQ5.out;omega
         refine num2_two (o:=1) (p:=2) (hd (HP4.out.keep KP_8.out (al2 BX2.out BX3.out))) HQ5_8 HX3_8 (by simp) (by simp) (hd ⟨BX3.out,NQ5_b,NQ5_X3⟩) (fun x5 y5 r5 w5 HM5 HP5 HD5 HC5=>?_) (fun c r w9 HMb HCb=>?_)
         · skip
           have HX2_9:=hd (HC5.out.blk HX2_8.out (by simp[NX2_b,NX2_X3]))
           have HQ5_9:Hid (Blk w5 Q5 [.pointer (some ⟨X3,1,none⟩),.pointer (some ⟨X3,2,none⟩)] 96):=hd (HC5.out.blk HQ5_8.out (by simp[NQ5_b,NQ5_X3]))
           have C9:=hd (C8.out.trans HC5.out (al2 (.inl (by simp)) (.inr (by have OX2_:=OX2.out;have OX3_:=OX3.out;show w.heap.size≤X3;omega))))
           clear HQ5_9
           have HO5:=hd (good5 HO4.out HM5.out)
           go_wp2_with fail
           refine must_two (hd HP5.out) [115,101,97,116,115] (fun r6 w6 HM6 HP6 HC6=>?_) (fun c r w9 HMb HCb=>?_)
           · skip
             have HX2_10:=hd (HC6.out.blk HX2_9.out (by simp[NX2_b]))
             have HX3_10:Hid (Blk w6 X3 [.string ⟨t3.text.toArray⟩,.int .i64 (x5:Nat),.int .i64 (y5:Nat),.int .i64 0,.int .i64 0,.int .i64 0,.slice none 0 0,.int .i64 (a1:Nat)] 48):=hd (HC6.out.blk HD5.out (by simp[NX3_b]))
             have C10:=hd (C9.out.trans HC6.out (al1 (.inl (by simp))))
             have HO6:=hd (good5 HO5.out HM6.out)
             go_wp2_with fail
             obtain ⟨W11,hW⟩:∃ W,W=(w6.alloc (.cells #[.pointer (some ⟨X3,3,none⟩)] 96)):=⟨_,rfl⟩
             rw[← hW]
             obtain ⟨Q7,hQ7⟩:∃ T,T=w6.heap.size:=⟨_,rfl⟩
             try rw[← hQ7]
             have OQ7:Hid (X3 < Q7):=hd (by rw[hQ7];exact HX3_10.out.lt)
             have HX2_11:=hd (HX2_10.out.alE hW)
             have HX3_11:=hd (HX3_10.out.alE hW)
             have HQ7_11:Hid (Blk W11 Q7 [.pointer (some ⟨X3,3,none⟩)] 96):=hd (by
              have h1:=Blk.new w6 [.pointer (some ⟨X3,3,none⟩)] 96
              have h2:w6.heap.size=Q7:=by simp[hQ7]
              rw[h2] at h1
              rw[hW]
              exact h1)
             have C11:=hd (C10.out.alE hW)
             have KP_11:Hid (Chg [X2,X3] w6 W11):=hd (by rw[hW];exact ((Chg.refl [X2,X3] w6).alloc _))
             clear hW hQ7
             have NQ7_b:Q7≠b:=by have h1:=HBW.out;have OX2_:=OX2.out;have OX3_:=OX3.out;have OQ5_:=OQ5.out;have OQ7_:=OQ7.out;omega
             have Nb_Q7:b≠Q7:=NQ7_b.symm
             have NQ7_X3:Q7≠X3:=by have OQ5_:=OQ5.out;have OQ7_:=OQ7.out;omega
             refine num1_two (o:=3) (hd (HP6.out.keep KP_11.out (al2 BX2.out BX3.out))) HQ7_11 HX3_11 (by simp) (hd ⟨BX3.out,NQ7_b,NQ7_X3⟩) (fun x7 r7 w7 HM7 HP7 HD7 HC7=>?_) (fun c r w9 HMb HCb=>?_)
             · skip
               have HX2_12:=hd (HC7.out.blk HX2_11.out (by simp[NX2_b,NX2_X3]))
               have HQ7_12:Hid (Blk w7 Q7 [.pointer (some ⟨X3,3,none⟩)] 96):=hd (HC7.out.blk HQ7_11.out (by simp[NQ7_b,NQ7_X3]))
               have C12:=hd (C11.out.trans HC7.out (al2 (.inl (by simp)) (.inr (by have OX2_:=OX2.out;have OX3_:=OX3.out;show w.heap.size≤X3;omega))))
               clear HQ7_12
               have HO7:=hd (good5 HO6.out HM7.out)
               go_wp2_with fail
               refine must_two (hd HP7.out) [116,111] (fun r8 w8 HM8 HP8 HC8=>?_) (fun c r w9 HMb HCb=>?_)
               · skip
                 have HX2_13:=hd (HC8.out.blk HX2_12.out (by simp[NX2_b]))
                 have HX3_13:Hid (Blk w8 X3 [.string ⟨t3.text.toArray⟩,.int .i64 (x5:Nat),.int .i64 (y5:Nat),.int .i64 (x7:Nat),.int .i64 0,.int .i64 0,.slice none 0 0,.int .i64 (a1:Nat)] 48):=hd (HC8.out.blk HD7.out (by simp[NX3_b]))
                 have C13:=hd (C12.out.trans HC8.out (al1 (.inl (by simp))))
                 have HO8:=hd (good5 HO7.out HM8.out)
                 go_wp2_with fail
                 obtain ⟨W14,hW⟩:∃ W,W=(w8.alloc (.cells #[.pointer (some ⟨X3,4,none⟩)] 96)):=⟨_,rfl⟩
                 rw[← hW]
                 obtain ⟨Q9,hQ9⟩:∃ T,T=w8.heap.size:=⟨_,rfl⟩
                 try rw[← hQ9]
                 have OQ9:Hid (X3 < Q9):=hd (by rw[hQ9];exact HX3_13.out.lt)
                 have HX2_14:=hd (HX2_13.out.alE hW)
                 have HX3_14:=hd (HX3_13.out.alE hW)
                 have HQ9_14:Hid (Blk W14 Q9 [.pointer (some ⟨X3,4,none⟩)] 96):=hd (by
                  have h1:=Blk.new w8 [.pointer (some ⟨X3,4,none⟩)] 96
                  have h2:w8.heap.size=Q9:=by simp[hQ9]
                  rw[h2] at h1
                  rw[hW]
                  exact h1)
                 have C14:=hd (C13.out.alE hW)
                 have KP_14:Hid (Chg [X2,X3] w8 W14):=hd (by rw[hW];exact ((Chg.refl [X2,X3] w8).alloc _))
                 clear hW hQ9
                 have NQ9_b:Q9≠b:=by have h1:=HBW.out;have OX2_:=OX2.out;have OX3_:=OX3.out;have OQ5_:=OQ5.out;have OQ7_:=OQ7.out;have OQ9_:=OQ9.out;omega
                 have Nb_Q9:b≠Q9:=NQ9_b.symm
                 have NQ9_X3:Q9≠X3:=by have OQ5_:=OQ5.out;have OQ7_:=OQ7.out;have OQ9_:=OQ9.out;omega
                 refine num1_two (o:=4) (hd (HP8.out.keep KP_14.out (al2 BX2.out BX3.out))) HQ9_14 HX3_14 (by simp) (hd ⟨BX3.out,NQ9_b,NQ9_X3⟩) (fun x9 r9 w9 HM9 HP9 HD9 HC9=>?_) (fun c r w9 HMb HCb=>?_)
                 · skip
                   have HX2_15:=hd (HC9.out.blk HX2_14.out (by simp[NX2_b,NX2_X3]))
                   have HQ9_15:Hid (Blk w9 Q9 [.pointer (some ⟨X3,4,none⟩)] 96):=hd (HC9.out.blk HQ9_14.out (by simp[NQ9_b,NQ9_X3]))
                   have C15:=hd (C14.out.trans HC9.out (al2 (.inl (by simp)) (.inr (by have OX2_:=OX2.out;have OX3_:=OX3.out;show w.heap.size≤X3;omega))))
                   clear HQ9_15
                   have HO9:=hd (good5 HO8.out HM9.out)
                   go_wp2_with fail
                   refine must_two (hd HP9.out) [115,116,101,112] (fun r10 w10 HM10 HP10 HC10=>?_) (fun c r w9 HMb HCb=>?_)
                   · skip
                     have HX2_16:=hd (HC10.out.blk HX2_15.out (by simp[NX2_b]))
                     have HX3_16:Hid (Blk w10 X3 [.string ⟨t3.text.toArray⟩,.int .i64 (x5:Nat),.int .i64 (y5:Nat),.int .i64 (x7:Nat),.int .i64 (x9:Nat),.int .i64 0,.slice none 0 0,.int .i64 (a1:Nat)] 48):=hd (HC10.out.blk HD9.out (by simp[NX3_b]))
                     have C16:=hd (C15.out.trans HC10.out (al1 (.inl (by simp))))
                     have HO10:=hd (good5 HO9.out HM10.out)
                     go_wp2_with fail
                     obtain ⟨W17,hW⟩:∃ W,W=(w10.alloc (.cells #[.pointer (some ⟨X3,5,none⟩)] 96)):=⟨_,rfl⟩
                     rw[← hW]
                     obtain ⟨Q11,hQ11⟩:∃ T,T=w10.heap.size:=⟨_,rfl⟩
                     try rw[← hQ11]
                     have OQ11:Hid (X3 < Q11):=hd (by rw[hQ11];exact HX3_16.out.lt)
                     have HX2_17:=hd (HX2_16.out.alE hW)
                     have HX3_17:=hd (HX3_16.out.alE hW)
                     have HQ11_17:Hid (Blk W17 Q11 [.pointer (some ⟨X3,5,none⟩)] 96):=hd (by
                      have h1:=Blk.new w10 [.pointer (some ⟨X3,5,none⟩)] 96
                      have h2:w10.heap.size=Q11:=by simp[hQ11]
                      rw[h2] at h1
                      rw[hW]
                      exact h1)
                     have C17:=hd (C16.out.alE hW)
                     have KP_17:Hid (Chg [X2,X3] w10 W17):=hd (by rw[hW];exact ((Chg.refl [X2,X3] w10).alloc _))
                     clear hW hQ11
                     have NQ11_b:Q11≠b:=by have h1:=HBW.out;have OX2_:=OX2.out;have OX3_:=OX3.out;have OQ5_:=OQ5.out;have OQ7_:=OQ7.out;have OQ9_:=OQ9.out;have OQ11_:=OQ11.out;omega
                     have Nb_Q11:b≠Q11:=NQ11_b.symm
                     have NQ11_X3:Q11≠X3:=by have OQ5_:=OQ5.out;have OQ7_:=OQ7.out;have OQ9_:=OQ9.out;have OQ11_:=OQ11.out;omega
                     refine num1_two (o:=5) (hd (HP10.out.keep KP_17.out (al2 BX2.out BX3.out))) HQ11_17 HX3_17 (by simp) (hd ⟨BX3.out,NQ11_b,NQ11_X3⟩) (fun x11 r11 w11 HM11 HP11 HD11 HC11=>?_) (fun c r w9 HMb HCb=>?_)
                     · skip
                       have HX2_18:=hd (HC11.out.blk HX2_17.out (by simp[NX2_b,NX2_X3]))
                       have HQ11_18:Hid (Blk w11 Q11 [.pointer (some ⟨X3,5,none⟩)] 96):=hd (HC11.out.blk HQ11_17.out (by simp[NQ11_b,NQ11_X3]))
                       have C18:=hd (C17.out.trans HC11.out (al2 (.inl (by simp)) (.inr (by have OX2_:=OX2.out;have OX3_:=OX3.out;show w.heap.size≤X3;omega))))
                       clear HQ11_18
                       have HO11:=hd (good5 HO10.out HM11.out)
                       go_wp2_with fail
                       obtain ⟨O,hO⟩:∃ O,O=Pn.marks r11:=⟨_,rfl⟩
                       have HOM:Hid (O=Pn.marks r11):=hd hO
                       have HOL:Hid (O=Pn.loopG (fun l=>decide (Pn.mkc l=0)) Pn.mark (r11.length+1) [] r11):=hd hO
                       clear hO
                       have HRL:=hd HP11.out.small
                       refine mark_any (hd HP11.out) (fun om12 r12 w12 HM12 HP12 HC12=>?_) (fun c r w9 HMN HMb HCb=>?_)
                       · skip
                         have HX2_19:=hd (HC12.out.blk HX2_18.out (by simp[NX2_b]))
                         have HX3_19:Hid (Blk w12 X3 [.string ⟨t3.text.toArray⟩,.int .i64 (x5:Nat),.int .i64 (y5:Nat),.int .i64 (x7:Nat),.int .i64 (x9:Nat),.int .i64 (x11:Nat),.slice none 0 0,.int .i64 (a1:Nat)] 48):=hd (HC12.out.blk HD11.out (by simp[NX3_b]))
                         have C19:=hd (C18.out.trans HC12.out (al1 (.inl (by simp))))
                         go_upto_block 0 with fail
                         obtain ⟨W20,hW⟩:∃ W,W=(w12.alloc (.cells #[.int .i64 ((om12.getD mk0).kind:Nat),.int .i64 ((om12.getD mk0).seat:Nat),.int .i64 ((om12.getD mk0).w:Nat)] 45)):=⟨_,rfl⟩
                         rw[← hW]
                         obtain ⟨T4,hT4⟩:∃ T,T=w12.heap.size:=⟨_,rfl⟩
                         try rw[← hT4]
                         have OT4:Hid (X3 < T4):=hd (by rw[hT4];exact HX3_19.out.lt)
                         have HX2_20:=hd (HX2_19.out.alE hW)
                         have HX3_20:=hd (HX3_19.out.alE hW)
                         have HT4_20:Hid (Blk W20 T4 [.int .i64 ((om12.getD mk0).kind:Nat),.int .i64 ((om12.getD mk0).seat:Nat),.int .i64 ((om12.getD mk0).w:Nat)] 45):=hd (by
                          have h1:=Blk.new w12 [.int .i64 ((om12.getD mk0).kind:Nat),.int .i64 ((om12.getD mk0).seat:Nat),.int .i64 ((om12.getD mk0).w:Nat)] 45
                          have h2:w12.heap.size=T4:=by simp[hT4]
                          rw[h2] at h1
                          rw[hW]
                          exact h1)
                         have C20:=hd (C19.out.alE hW)
                         have KP_20:Hid (Chg [X2,X3] w12 W20):=hd (by rw[hW];exact ((Chg.refl [X2,X3] w12).alloc _))
                         clear hW hT4
                         have HP0:Hid (Pp W20 b r12 en):=hd (HP12.out.keep KP_20.out (al2 BX2.out BX3.out))
                         have HXL:Hid (X3 < W20.heap.size):=hd HX3_20.out.lt
                         have HX2L:Hid (X2 < W20.heap.size):=hd HX2_20.out.lt
                         have HWL:Hid (w.heap.size≤W20.heap.size):=hd C20.out.size
                         have HbL:Hid (b < W20.heap.size):=hd (by have h1:=HBW.out;have h2:=HWL.out;omega)
                         go_wp2_with fail
                         go_loopw [4,5] (fun p4 b5 wr=>∃ (T:Nat) (ms:List Pn.Mk) (om:Option Pn.Mk) (q:List Tk) (k:Nat) (vo:Option Addr) (vc:Nat),p4 = .pointer (some ⟨T,0,none⟩)∧b5 = .bool om.isSome∧Hid (X3 < T)∧Hid (Blk wr T [.int .i64 ((om.getD mk0).kind:Nat),.int .i64 ((om.getD mk0).seat:Nat),.int .i64 ((om.getD mk0).w:Nat)] 45)∧Hid (Blk wr X3 [.string ⟨t3.text.toArray⟩,.int .i64 (x5:Nat),.int .i64 (y5:Nat),.int .i64 (x7:Nat),.int .i64 (x9:Nat),.int .i64 (x11:Nat),.slice vo ms.length vc,.int .i64 (a1:Nat)] 48)∧Hid (ListS W20.heap.size 45 3 Cm ms (.slice vo ms.length vc) wr)∧Hid (Pp wr b q en)∧Hid (MInv O ms om q k)∧Hid (∀ z,(Value.slice vo ms.length vc).ownBlock=some z→z < T)∧Hid (ms.length+optN om+q.length≤r11.length)∧Hid (Chg [b,X3] W20 wr)) (fun _ b5 wr=>leftP b wr+boolOf b5)
                         case atStart=>exact ⟨T4,[],om12,r12,r11.length,none,0,rfl,rfl,hd (by have OQ5_:=OQ5.out;have OQ7_:=OQ7.out;have OQ9_:=OQ9.out;have OQ11_:=OQ11.out;have OT4_:=OT4.out;omega),HT4_20,HX3_20,hd (ListS.nil _ _ _ _ _),HP0,hd (minv_step HOL.out (Nat.lt_succ_self _) HM12.out),hd (by intro z hz;simp[Value.ownBlock] at hz),hd (by have:=mres_len HM12.out;simpa using this),hd (Chg.refl _ _)⟩
                         case round =>
                          obtain ⟨T,ms,om,q,k,vo,vc,rfl,rfl,OT,HT,HX3,HL,HPq,HMI,HBT,HQ,HCL⟩:=hrel
                          obtain ⟨wo,hwn⟩:∃ x,x=wr:=⟨_,rfl⟩
                          subst hwn
                          clear HT4_20
                          have HX2_21:=hd (HCL.out.blk HX2_20.out (by simp[NX2_b,NX2_X3]))
                          have C21:=hd (C20.out.trans HCL.out (al2 (.inl (by simp)) (.inr (by have OX2_:=OX2.out;have OX3_:=OX3.out;show w.heap.size≤X3;omega))))
                          have BT:Hid (b < T):=hd (by have h1:=BX3.out;have h2:=OT.out;omega)
                          have hml:ms.length≤1000000:=by have h1:=HQ.out;have h2:=HRL.out;omega
                          cases om with
                          | none =>
                           clear HT
                           have HO12:=hd (good5 HO11.out (HOM.out.symm.trans HMI.out))
                           go_wp2_with fail
                           refine must_two (hd HPq.out) [59] (fun r18 w18 HM18 HP18 HC18=>?_) (fun c r w9 HMb HCb=>?_)
                           · skip
                             have HX2_22:=hd (HC18.out.blk HX2_21.out (by simp[NX2_b]))
                             have HX3_22:Hid (Blk w18 X3 [.string ⟨t3.text.toArray⟩,.int .i64 (x5:Nat),.int .i64 (y5:Nat),.int .i64 (x7:Nat),.int .i64 (x9:Nat),.int .i64 (x11:Nat),.slice vo ms.length vc,.int .i64 (a1:Nat)] 48):=hd (HC18.out.blk HX3.out (by simp[NX3_b]))
                             have C22:=hd (C21.out.trans HC18.out (al1 (.inl (by simp))))
                             have HO18:=hd (good5 HO12.out HM18.out)
                             obtain ⟨cX3_0,cX3_1,cX3_2,cX3_3,cX3_4,cX3_5,cX3_6,cX3_7⟩:=HX3_22.out.c8
                             obtain ⟨cX2_0,cX2_1,cX2_2,cX2_3,cX2_4,cX2_5,cX2_6,cX2_7⟩:=HX2_22.out.c8
                             obtain ⟨cX2_f0,cX2_f1,cX2_f2,cX2_f3,cX2_f4,cX2_f5,cX2_f6,cX2_f7⟩:=HX2_22.out.f8
                             go_wp2_with fail
                             clear cX3_0 cX3_1 cX3_2 cX3_3 cX3_4 cX3_5 cX3_6 cX3_7 cX2_0 cX2_1 cX2_2 cX2_3 cX2_4 cX2_5 cX2_6 cX2_7 cX2_f0 cX2_f1 cX2_f2 cX2_f3 cX2_f4 cX2_f5 cX2_f6 cX2_f7
                             obtain ⟨W23,hW⟩:∃ W,W=((((((((w18.setCell ⟨X2,0,none⟩ (.string ⟨t3.text.toArray⟩)).setCell ⟨X2,1,none⟩ (.int .i64 (x5:Nat))).setCell ⟨X2,2,none⟩ (.int .i64 (y5:Nat))).setCell ⟨X2,3,none⟩ (.int .i64 (x7:Nat))).setCell ⟨X2,4,none⟩ (.int .i64 (x9:Nat))).setCell ⟨X2,5,none⟩ (.int .i64 (x11:Nat))).setCell ⟨X2,6,none⟩ (.slice vo ms.length vc)).setCell ⟨X2,7,none⟩ (.int .i64 (a1:Nat))):=⟨_,rfl⟩
                             rw[← hW]
                             have HX2_23:Hid (Blk W23 X2 [.string ⟨t3.text.toArray⟩,.int .i64 (x5:Nat),.int .i64 (y5:Nat),.int .i64 (x7:Nat),.int .i64 (x9:Nat),.int .i64 (x11:Nat),.slice vo ms.length vc,.int .i64 (a1:Nat)] 48):=hd (by rw[hW];exact ((((((((HX2_22.out.set 0 (.string ⟨t3.text.toArray⟩)).set 1 (.int .i64 (x5:Nat))).set 2 (.int .i64 (y5:Nat))).set 3 (.int .i64 (x7:Nat))).set 4 (.int .i64 (x9:Nat))).set 5 (.int .i64 (x11:Nat))).set 6 (.slice vo ms.length vc)).set 7 (.int .i64 (a1:Nat))))
                             have C23:=hd (C22.out.s8 hW (.inr (by have OX2_:=OX2.out;show w.heap.size≤X2;omega)))
                             have Ko2_23:=hd ((Chg.refl [X2] w18).s8 hW (.inl (by simp)))
                             have KP_23:=hd ((Chg.refl [X2,X3] w18).s8 hW (.inl (by simp)))
                             clear hW
                             (try simp only[Exit.inBlock,Exit.then])
                             have HLF:Hid (ListS w.heap.size 45 3 Cm ms (.slice vo ms.length vc) W23):=hd (((HL.out.keep (kp_m _) HC18.out (TyB.lower (by intro z hz;simp only[List.mem_cons,List.not_mem_nil,or_false] at hz;rw[hz];exact HbL.out) _)).keep (kp_m _) Ko2_23.out (TyB.lower (by intro z hz;simp only[List.mem_cons,List.not_mem_nil,or_false] at hz;rw[hz];exact HX2L.out) _)).mono HWL.out (mono_m HWL.out))
                             refine bodyPost_ret (results_cell_row rfl _ _ X2 48 #[.string ⟨t3.text.toArray⟩,.int .i64 (x5:Nat),.int .i64 (y5:Nat),.int .i64 (x7:Nat),.int .i64 (x9:Nat),.int .i64 (x11:Nat),.slice vo ms.length vc,.int .i64 (a1:Nat)] (0,0) _ rfl HX2_23.out Tryz.underlying48 rfl (by kernel_rfl)) rfl (pgood C23.out HO18.out ⟨.slice vo ms.length vc,rfl,HLF.out⟩ (HP18.out.keep KP_23.out (al2 BX2.out BX3.out)))
                           go_wp2_with fail
                           exact ⟨rfl,(pbad (C21.out.trans HCb.out (al1 (.inl (by simp)))) (bad5 HO12.out HMb.out))⟩
                          | some m =>
                           have HTm:Hid (Blk wo T [.int .i64 (m.kind:Nat),.int .i64 (m.seat:Nat),.int .i64 (m.w:Nat)] 45):=HT
                           have HLk:Hid (ListS W20.heap.size 45 3 Cm ms (.slice vo ms.length vc) (wo.alloc (.cells #[.int .i64 (m.kind:Nat),.int .i64 (m.seat:Nat),.int .i64 (m.w:Nat)] 45))):=hd (HL.out.keep (kp_m _) ((Chg.refl [] _).alloc _) (TyB.nil _ _ _))
                           have hcb:Hid (Chg [b,X3] W20 (wo.alloc (.cells #[.int .i64 (m.kind:Nat),.int .i64 (m.seat:Nat),.int .i64 (m.w:Nat)] 45))):=hd (HCL.out.alloc _)
                           obtain ⟨cT_0,cT_1,cT_2⟩:=HTm.out.c3
                           obtain ⟨cX3_0,cX3_1,cX3_2,cX3_3,cX3_4,cX3_5,cX3_6,cX3_7⟩:=HX3.out.c8
                           go_wp2_with (at_builtin;refine wpList_snoc rfl (.tmp 52) (.tmp 54) 46 rfl 45 im (.agg #[.int .i64 0,.int .i64 0,.int .i64 0]) 3 24 Tryz.underlying46 him mz0 mz1 mz2 rfl (by decide) (C:=Cm) (Es:=[]) (.slice vo ms.length vc) ms.length rfl HLk.out rfl (kp_m _) (by simp) m [.int .i64 (m.kind:Nat),.int .i64 (m.seat:Nat),.int .i64 (m.w:Nat)] rfl rfl (by intro u hu;simp at hu;rcases hu with rfl|rfl|rfl <;> rfl) wo.heap.size rfl (Blk.new wo [.int .i64 (m.kind:Nat),.int .i64 (m.seat:Nat),.int .i64 (m.w:Nat)] 45) (by unfold maxLen;omega) (by omega) hcb.out.size ?kk)
                           case kk =>
                            intro lo8 lc8 v8 hl8 hc8 hb8
                            have HL8:=hd hl8
                            have HC8:=hd hc8
                            have HB8:=hd hb8
                            have HCv:Hid (Chg [b,X3] W20 v8):=hd (hc8 _ _ hcb.out (Nat.le_refl _))
                            have HP8:Hid (Pp v8 b q en):=hd (HPq.out.via HCL.out HCv.out (fun ds S h=>hb8 _ _ _ (h.alloc _) (.inl HbL.out)) (fun z hz=>by simp only[List.mem_cons,List.not_mem_nil,or_false] at hz;rcases hz with h9|h9;(rw[h9];exact Nat.le_refl _);(rw[h9];exact Nat.le_of_lt BX3.out)) HbL.out)
                            clear hl8 hc8 hb8 cT_0 cT_1 cT_2 cX3_0 cX3_1 cX3_2 cX3_3 cX3_4 cX3_5 cX3_6 cX3_7
                            have HX3_22:Hid (Blk v8 X3 [.string ⟨t3.text.toArray⟩,.int .i64 (x5:Nat),.int .i64 (y5:Nat),.int .i64 (x7:Nat),.int .i64 (x9:Nat),.int .i64 (x11:Nat),.slice vo ms.length vc,.int .i64 (a1:Nat)] 48):=hd (HB8.out _ _ _ (HX3.out.alloc _) (.inr (.inl (by decide))))
                            have HT_22:Hid (Blk v8 T [.int .i64 (m.kind:Nat),.int .i64 (m.seat:Nat),.int .i64 (m.w:Nat)] 45):=hd (HB8.out _ _ _ (HTm.out.alloc _) (.inr (.inr (fun h=>Nat.lt_irrefl _ (HBT.out _ h.symm)))))
                            have C22:=hd (C20.out.trans HCv.out (al2 (.inl (by simp)) (.inr (by have OX2_:=OX2.out;have OX3_:=OX3.out;show w.heap.size≤X3;omega))))
                            obtain ⟨cX3_0,cX3_1,cX3_2,cX3_3,cX3_4,cX3_5,cX3_6,cX3_7⟩:=HX3_22.out.c8
                            obtain ⟨cX3_f0,cX3_f1,cX3_f2,cX3_f3,cX3_f4,cX3_f5,cX3_f6,cX3_f7⟩:=HX3_22.out.f8
                            go_upto_region 16 with fail
                            clear cX3_0 cX3_1 cX3_2 cX3_3 cX3_4 cX3_5 cX3_6 cX3_7 cX3_f0 cX3_f1 cX3_f2 cX3_f3 cX3_f4 cX3_f5 cX3_f6 cX3_f7
                            have NT_X3:T≠X3:=by have OQ5_:=OQ5.out;have OQ7_:=OQ7.out;have OQ9_:=OQ9.out;have OQ11_:=OQ11.out;have OT4_:=OT4.out;have OT_:=OT.out;omega
                            have NX3_T:X3≠T:=NT_X3.symm
                            obtain ⟨W23,hW⟩:∃ W,W=(v8.setCell ⟨X3,6,none⟩ (.slice lo8 (ms.length+1) lc8)):=⟨_,rfl⟩
                            rw[← hW]
                            have HX3_23:Hid (Blk W23 X3 [.string ⟨t3.text.toArray⟩,.int .i64 (x5:Nat),.int .i64 (y5:Nat),.int .i64 (x7:Nat),.int .i64 (x9:Nat),.int .i64 (x11:Nat),.slice lo8 (ms.length+1) lc8,.int .i64 (a1:Nat)] 48):=hd (by rw[hW];exact (HX3_22.out.set 6 (.slice lo8 (ms.length+1) lc8)))
                            have HT_23:=hd (HT_22.out.o1 hW NT_X3)
                            have C23:=hd (C22.out.s1 hW (.inr (by have OX2_:=OX2.out;have OX3_:=OX3.out;show w.heap.size≤X3;omega)))
                            have KL_23:=hd (HCv.out.s1 hW (.inl (by simp)))
                            have KP_23:=hd ((Chg.refl [X2,X3,T] v8).s1 hW (.inl (by simp)))
                            have Kv_23:=hd ((Chg.refl [b,X3] v8).s1 hW (.inl (by simp)))
                            clear hW
                            obtain ⟨cT_0,cT_1,cT_2⟩:=HT_23.out.c3
                            go_upto_region 14 with fail
                            clear cT_0 cT_1 cT_2
                            obtain ⟨W24,hW⟩:∃ W,W=(W23.alloc (.cells #[.int .i64 (m.kind:Nat),.int .i64 (m.seat:Nat),.int .i64 (m.w:Nat)] 45)):=⟨_,rfl⟩
                            rw[← hW]
                            obtain ⟨T9,hT9⟩:∃ T,T=W23.heap.size:=⟨_,rfl⟩
                            try rw[← hT9]
                            have OT9:Hid (T < T9):=hd (by rw[hT9];exact HT_23.out.lt)
                            have HX3_24:=hd (HX3_23.out.alE hW)
                            have HT_24:=hd (HT_23.out.alE hW)
                            have HT9_24:Hid (Blk W24 T9 [.int .i64 (m.kind:Nat),.int .i64 (m.seat:Nat),.int .i64 (m.w:Nat)] 45):=hd (by
                             have h1:=Blk.new W23 [.int .i64 (m.kind:Nat),.int .i64 (m.seat:Nat),.int .i64 (m.w:Nat)] 45
                             have h2:W23.heap.size=T9:=by simp[hT9]
                             rw[h2] at h1
                             rw[hW]
                             exact h1)
                            have BT9:Hid (b < T9):=hd (by have h1:=HBW.out;have OX2_:=OX2.out;have OX3_:=OX3.out;have OQ5_:=OQ5.out;have OQ7_:=OQ7.out;have OQ9_:=OQ9.out;have OQ11_:=OQ11.out;have OT4_:=OT4.out;have OT_:=OT.out;have OT9_:=OT9.out;omega)
                            have C24:=hd (C23.out.alE hW)
                            have KL_24:=hd (KL_23.out.alE hW)
                            have KP_24:=hd (KP_23.out.alE hW)
                            have Kv_24:=hd (Kv_23.out.alE hW)
                            have ML_T9:Hid (W20.heap.size≤T9):=hd (by rw[hT9];have h1:=KL_23.out.size;omega)
                            have Mv_T9:Hid (v8.heap.size≤T9):=hd (by rw[hT9];have h1:=Kv_23.out.size;omega)
                            clear hW hT9
                            clear HT_24
                            have HOM3:Hid (O=Pn.loopG (fun l=>decide (Pn.mkc l=0)) Pn.mark k (ms++[m]) q∧q.length < k):=hd HMI.out
                            obtain ⟨k',hk'⟩:∃ k',k=k'+1:=⟨k - 1,by have:=HOM3.out.2;omega⟩
                            have HOM4:Hid (O=Pn.loopG (fun l=>decide (Pn.mkc l=0)) Pn.mark (k'+1) (ms++[m]) q∧q.length < k'+1):=hd (by rw[← hk'];exact HOM3.out)
                            clear hk'
                            go_wp2_with fail
                            refine mark_any (hd (HP8.out.keep KP_24.out (al3 BX2.out BX3.out BT.out))) (fun om9 q9 w19 HM19 HP19 HC19=>?_) (fun c r w9 HMN HMb HCb=>?_)
                            · skip
                              have NT9_b:T9≠b:=by have h1:=HBW.out;have OX2_:=OX2.out;have OX3_:=OX3.out;have OQ5_:=OQ5.out;have OQ7_:=OQ7.out;have OQ9_:=OQ9.out;have OQ11_:=OQ11.out;have OT4_:=OT4.out;have OT_:=OT.out;have OT9_:=OT9.out;omega
                              have Nb_T9:b≠T9:=NT9_b.symm
                              have HX3_25:=hd (HC19.out.blk HX3_24.out (by simp[NX3_b]))
                              have HT9_25:Hid (Blk w19 T9 [.int .i64 (m.kind:Nat),.int .i64 (m.seat:Nat),.int .i64 (m.w:Nat)] 45):=hd (HC19.out.blk HT9_24.out (by simp[NT9_b]))
                              have KL_25:=hd (KL_24.out.trans HC19.out (al1 (.inl (by simp))))
                              have Kv_25:=hd (Kv_24.out.trans HC19.out (al1 (.inl (by simp))))
                              obtain ⟨cT9_0,cT9_1,cT9_2⟩:=HT9_25.out.c3
                              obtain ⟨cT9_f0,cT9_f1,cT9_f2⟩:=HT9_25.out.f3
                              go_wp2_with fail
                              clear cT9_0 cT9_1 cT9_2 cT9_f0 cT9_f1 cT9_f2
                              have NX2_T9:X2≠T9:=by have OX3_:=OX3.out;have OQ5_:=OQ5.out;have OQ7_:=OQ7.out;have OQ9_:=OQ9.out;have OQ11_:=OQ11.out;have OT4_:=OT4.out;have OT_:=OT.out;have OT9_:=OT9.out;omega
                              have NT9_X2:T9≠X2:=NX2_T9.symm
                              have NX3_T9:X3≠T9:=by have OQ5_:=OQ5.out;have OQ7_:=OQ7.out;have OQ9_:=OQ9.out;have OQ11_:=OQ11.out;have OT4_:=OT4.out;have OT_:=OT.out;have OT9_:=OT9.out;omega
                              have NT9_X3:T9≠X3:=NX3_T9.symm
                              obtain ⟨W26,hW⟩:∃ W,W=(((w19.setCell ⟨T9,0,none⟩ (.int .i64 ((om9.getD mk0).kind:Nat))).setCell ⟨T9,1,none⟩ (.int .i64 ((om9.getD mk0).seat:Nat))).setCell ⟨T9,2,none⟩ (.int .i64 ((om9.getD mk0).w:Nat))):=⟨_,rfl⟩
                              rw[← hW]
                              have HX3_26:=hd (HX3_25.out.o3 hW NX3_T9)
                              have HT9_26:Hid (Blk W26 T9 [.int .i64 ((om9.getD mk0).kind:Nat),.int .i64 ((om9.getD mk0).seat:Nat),.int .i64 ((om9.getD mk0).w:Nat)] 45):=hd (by rw[hW];exact (((HT9_25.out.set 0 (.int .i64 ((om9.getD mk0).kind:Nat))).set 1 (.int .i64 ((om9.getD mk0).seat:Nat))).set 2 (.int .i64 ((om9.getD mk0).w:Nat))))
                              have KL_26:=hd (KL_25.out.s3 hW (.inr (by have:=ML_T9.out;omega)))
                              have Kv_26:=hd (Kv_25.out.s3 hW (.inr (by have:=Mv_T9.out;omega)))
                              have KP_26:=hd ((Chg.refl [X2,X3,T9] w19).s3 hW (.inl (by simp)))
                              clear hW
                              have HPz:Hid (Pp W26 b q9 en):=hd (HP19.out.keep KP_26.out (al3 BX2.out BX3.out BT9.out))
                              have HLz:=Kv_26
                              have HL9:Hid (ListS W20.heap.size 45 3 Cm (ms++[m]) (.slice lo8 (ms++[m]).length lc8) W26):=hd (by rw[List.length_append];exact HL8.out.keep (kp_m _) HLz.out (TyB.lower (by intro z hz;simp only[List.mem_cons,List.not_mem_nil,or_false] at hz;rcases hz with h9|h9;(rw[h9];exact HbL.out);(rw[h9];exact HXL.out)) _))
                              have HX9:Hid (Blk W26 X3 [.string ⟨t3.text.toArray⟩,.int .i64 (x5:Nat),.int .i64 (y5:Nat),.int .i64 (x7:Nat),.int .i64 (x9:Nat),.int .i64 (x11:Nat),.slice lo8 (ms++[m]).length lc8,.int .i64 (a1:Nat)] 48):=hd (by rw[List.length_append];exact HX3_26.out)
                              have HBT9:Hid (∀ z,(Value.slice lo8 (ms++[m]).length lc8).ownBlock=some z→z < T9):=hd (fun z hz=>by have h1:=HL8.out.below z (by rw[← hz,List.length_append];rfl);have h2:=Mv_T9.out;omega)
                              have HMU:Hid (leftP b W26+boolOf (.bool om9.isSome) < leftP b wo+boolOf (.bool (some m).isSome)):=hd (by rw[left_pp HPz.out,left_pp HPq.out];have h1:=mres_len HM19.out;have h2:boolOf (.bool om9.isSome)=optN om9:=(by cases om9 <;> rfl);rw[h2];show _ < _+1;omega)
                              have HQ9:Hid ((ms++[m]).length+optN om9+q9.length≤r11.length):=hd (by have h1:=mres_len HM19.out;have h2:ms.length+1+q.length≤r11.length:=HQ.out;simp only[List.length_append,List.length_singleton];omega)
                              have OT9':Hid (X3 < T9):=hd (by have OQ5_:=OQ5.out;have OQ7_:=OQ7.out;have OQ9_:=OQ9.out;have OQ11_:=OQ11.out;have OT4_:=OT4.out;have OT_:=OT.out;have OT9_:=OT9.out;omega)
                              refine ⟨?_,HMU.out⟩
                              first|exact ⟨T9,ms++[m],om9,q9,k',lo8,lc8,rfl,rfl,OT9',HT9_26,HX9,HL9,HPz,hd (minv_step HOM4.out.1 HOM4.out.2 HM19.out),HBT9,HQ9,KL_26⟩|((repeat apply Exists.intro);exact ⟨⟨T9,ms++[m],om9,q9,k',lo8,lc8,rfl,rfl,OT9',HT9_26,HX9,HL9,HPz,hd (minv_step HOM4.out.1 HOM4.out.2 HM19.out),HBT9,HQ9,KL_26⟩,rfl⟩)
                            go_wp2_with fail
                            exact ⟨rfl,(pbad (C24.out.trans HCb.out (al1 (.inl (by simp)))) (bad5 HO11.out (HOM.out.symm.trans (marks_bad HOM4.out.1 HOM4.out.2 HMN.out HMb.out))))⟩
                       go_wp2_with fail
                       exact ⟨rfl,(pbad (C18.out.trans HCb.out (al1 (.inl (by simp)))) (bad5 HO11.out (HOM.out.symm.trans (marks_bad HOL.out (Nat.lt_succ_self _) HMN.out HMb.out))))⟩
                     go_wp2_with fail
                     exact ⟨rfl,(pbad (C17.out.trans HCb.out (al2 (.inl (by simp)) (.inr (by have OX2_:=OX2.out;have OX3_:=OX3.out;show w.heap.size≤X3;omega)))) (bad5 HO10.out HMb.out))⟩
                   go_wp2_with fail
                   exact ⟨rfl,(pbad (C15.out.trans HCb.out (al1 (.inl (by simp)))) (bad5 HO9.out HMb.out))⟩
                 go_wp2_with fail
                 exact ⟨rfl,(pbad (C14.out.trans HCb.out (al2 (.inl (by simp)) (.inr (by have OX2_:=OX2.out;have OX3_:=OX3.out;show w.heap.size≤X3;omega)))) (bad5 HO8.out HMb.out))⟩
               go_wp2_with fail
               exact ⟨rfl,(pbad (C12.out.trans HCb.out (al1 (.inl (by simp)))) (bad5 HO7.out HMb.out))⟩
             go_wp2_with fail
             exact ⟨rfl,(pbad (C11.out.trans HCb.out (al2 (.inl (by simp)) (.inr (by have OX2_:=OX2.out;have OX3_:=OX3.out;show w.heap.size≤X3;omega)))) (bad5 HO6.out HMb.out))⟩
           go_wp2_with fail
           exact ⟨rfl,(pbad (C9.out.trans HCb.out (al1 (.inl (by simp)))) (bad5 HO5.out HMb.out))⟩
         go_wp2_with fail
         exact ⟨rfl,(pbad (C8.out.trans HCb.out (al2 (.inl (by simp)) (.inr (by have OX2_:=OX2.out;have OX3_:=OX3.out;show w.heap.size≤X3;omega)))) (bad5 HO4.out HMb.out))⟩
       go_wp2_with fail
       exact ⟨rfl,(pbad (C6.out.trans HCb.out (al1 (.inl (by simp)))) (bad5 HO3.out HMb.out))⟩
     go_wp2_with fail
     exact ⟨rfl,(pbad (C4.out.trans HCb.out (al1 (.inl (by simp)))) (bad5 HO2.out (name_bad HMb.out)))⟩
   go_wp2_with fail
   exact ⟨rfl,(pbad (C3.out.trans HCb.out (al1 (.inl (by simp)))) (bad5 HO1.out HMb.out))⟩
 go_wp2_with fail
 exact ⟨rfl,(pbad (C1.out.trans HCb.out (al1 (.inl (by simp)))) (bad5 HO.out HMb.out))⟩
theorem row_two {w:World} {b en:Nat} {l:List Tk} (HP:Hid (Pp w b l en)) (B:Nat) (hB:B≤w.heap.size) {R:Ending→World→Prop}
 (hok:∀ (x:Pn.Rw) (uo:Option Addr) (uc:Nat) (r:List Tk) (w':World),Hid (Pn.row l = .ok x r)→Hid (Pp w' b r en)→Hid (Chg [b] w w')→Hid (ListS B 45 3 Cm x.marks (.slice uo x.marks.length uc) w')→R (.returned (.agg #[.string ⟨x.name.toArray⟩,.int .i64 (x.x:Nat),.int .i64 (x.y:Nat),.int .i64 (x.f:Nat),.int .i64 (x.t:Nat),.int .i64 (x.step:Nat),.slice uo x.marks.length uc,.int .i64 (x.at_:Nat)])) w')
 (hbad:∀ (c:Nat) (r:List Tk) (w':World),Hid (Pn.row l = .bad c r)→Hid (Chg [b] w w')→R (.panicked [{ v:=flt c r en,recovered:=false }]) w') :
 Calls Tryz.prog 95 #[.pointer (some ⟨b,0,none⟩)] w R :=
 (row_spec w b en l HP).mono fun e w' h=>pres_two h (fun a r v h1 h2 h3 h4=>by
  obtain ⟨u,rfl,h5⟩:=h4
  obtain ⟨uo,uc,rfl⟩:=h5.form
  exact hok a uo uc r w' h1 h2 h3 (hd (h5.mono hB (mono_m hB)))) (fun c r h1 h2=>hbad c r w' h1 h2)
end Go.Proofs.YtglepipfdmphhaaGreatDoor
namespace Go.Proofs.YtglepipfdmphhaaGreatDoor
set_option linter.unusedVariables false
set_option linter.unusedSimpArgs false
open Go Go.RowKit Go.Shelf
open Lx (Tk)
namespace Pn
open Rl (Out nxt)
def Shr {α:Type} (f:List Tk→Out α):Prop:=∀ l a r,f l = .ok a r→r.length≤l.length
def Eat {α:Type} (f:List Tk→Out α):Prop:=∀ l a r,f l = .ok a r→r.length+1≤l.length
theorem Eat.shr {α:Type} {f:List Tk→Out α} (h:Eat f):Shr f:=fun l a r e=>by have:=h l a r e;omega
theorem Shr.pure {α:Type} (a:α):Shr (fun l=>Out.ok a l):=fun l b r h=>by
 simp only[Out.ok.injEq] at h
 rw[h.2]
 exact Nat.le_refl _
theorem Shr.bad {α:Type} (e:Nat):Shr (fun l=>(Out.bad e l:Out α)):=fun l b r h=>by cases h
theorem Shr.bind {α β:Type} {f:List Tk→Out α} {g:α→List Tk→Out β} (hf:Shr f) (hg:∀ a,Shr (g a)):Shr (fun l=>(f l).bind (g · ·)):=fun l b r h=>by
 cases h1:f l with
 | bad c q=>simp only[h1] at h;cases h
 | ok a q =>
  simp only[h1] at h
  exact Nat.le_trans (hg a q b r h) (hf l a q h1)
theorem Eat.bind {α β:Type} {f:List Tk→Out α} {g:α→List Tk→Out β} (hf:Eat f) (hg:∀ a,Shr (g a)):Eat (fun l=>(f l).bind (g · ·)):=fun l b r h=>by
 cases h1:f l with
 | bad c q=>simp only[h1] at h;cases h
 | ok a q =>
  simp only[h1] at h
  have:=hg a q b r h
  have:=hf l a q h1
  omega
theorem Eat.after {α β:Type} {f:List Tk→Out α} {g:α→List Tk→Out β} (hf:Shr f) (hg:∀ a,Eat (g a)):Eat (fun l=>(f l).bind (g · ·)):=fun l b r h=>by
 cases h1:f l with
 | bad c q=>simp only[h1] at h;cases h
 | ok a q =>
  simp only[h1] at h
  have:=hg a q b r h
  have:=hf l a q h1
  omega
theorem Shr.ite {α:Type} {p:List Tk→Prop} [DecidablePred p] {f g:List Tk→Out α} (hf:Shr f) (hg:Shr g):Shr (fun l=>if p l then f l else g l):=fun l a r h=>by
 by_cases hp:p l
 · simp only[hp,if_true] at h
   exact hf l a r h
 simp only[hp,if_false] at h
 exact hg l a r h
theorem eat_nxt (k:Nat) (x:Option Bytes):Eat (nxt k x):=fun l a r h=>by have:=nxt_len h;omega
theorem eat_must (x:Bytes):Eat (must x):=fun l a r h=>by
 unfold must at h
 cases l with
 | nil=>simp[isw] at h
 | cons t q =>
  split at h
  · simp only[Out.ok.injEq] at h
    rw[← h.2]
    simp
  cases h
theorem eat_num:Eat num:=Eat.bind (eat_nxt 2 none) (fun t=>Shr.pure _)
theorem eat_name:Eat name:=Eat.bind (eat_nxt 1 none) (fun t=>Shr.pure _)
theorem shr_atO:Shr atO:=fun l a r h=>by
 cases l with
 | nil=>cases h
 | cons t q =>
  simp only[atO,Out.ok.injEq] at h
  rw[← h.2]
  exact Nat.le_refl _
theorem eat_num2:Eat num2:=Eat.bind eat_num (fun x=>(Eat.bind eat_num (fun y=>Shr.pure _)).shr)
theorem eat_box:Eat box:=Eat.bind eat_num (fun x=>(Eat.bind eat_num (fun y=>(Eat.bind eat_num (fun z=>(Eat.bind eat_num (fun u=>Shr.pure _)).shr)).shr)).shr)
theorem shr_loopG {α:Type} {stop:List Tk→Bool} {one:List Tk→Out α} (h:Shr one):∀ (k:Nat) (acc:List α),Shr (loopG stop one k acc)
 | 0,acc=>Shr.pure acc
 | k+1,acc=>fun l a r e=>by
  unfold loopG at e
  split at e
  · simp only[Out.ok.injEq] at e
    rw[e.2]
    exact Nat.le_refl _
  cases h1:one l with
  | bad c q=>rw[h1] at e;cases e
  | ok b q =>
   rw[h1] at e
   exact Nat.le_trans (shr_loopG h k _ q a r e) (h l b q h1)
theorem shr_loop {α:Type} {stop:List Tk→Bool} {one:List Tk→Out α} (h:Shr one):Shr (loop stop one):=fun l a r e=>shr_loopG h _ _ l a r e
theorem shr_mark:Shr mark:=fun l a r h=>by have:=mark_len h;omega
theorem shr_marks:Shr marks:=shr_loop shr_mark
theorem eat_row:Eat row:=Eat.after shr_atO (fun at_=>Eat.bind (eat_must wRow) (fun _=>eat_name.shr.bind (fun nm=>(eat_must wAt).shr.bind (fun _=>eat_num2.shr.bind (fun xy=>(eat_must wSeats).shr.bind (fun _=>eat_num.shr.bind (fun f=>(eat_must wTo).shr.bind (fun _=>eat_num.shr.bind (fun t=>(eat_must wStep).shr.bind (fun _=>eat_num.shr.bind (fun st=>shr_marks.bind (fun ms=>(eat_must cSemi).shr.bind (fun _=>Shr.pure _)))))))))))))
theorem shr_braced {α:Type} {one:List Tk→Out α} (h:Shr one):Shr (braced one):=(shr_loop h).bind (fun bs l a r e=>by
 simp only[Out.ok.injEq] at e
 rw[← e.2,List.length_tail]
 omega)
theorem eat_block (at_:Nat):Eat (block at_):=Eat.bind eat_name (fun nm=>(eat_must cOpen).shr.bind (fun _=>(shr_braced eat_row.shr).bind (fun rs=>Shr.pure _)))
end Pn
def LInv {α:Type} (stop:List Tk→Bool) (one:List Tk→Rl.Out α) (O:Rl.Out (List α)) (acc:List α) (q:List Tk) (k:Nat):Prop:=O=Pn.loopG stop one k acc q∧q.length < k
theorem linv_start {α:Type} (stop:List Tk→Bool) (one:List Tk→Rl.Out α) (l:List Tk):LInv stop one (Pn.loop stop one l) [] l (l.length+1):=⟨rfl,Nat.lt_succ_self _⟩
theorem linv_stop {α:Type} {stop:List Tk→Bool} {one:List Tk→Rl.Out α} {O:Rl.Out (List α)} {acc:List α} {q:List Tk} {k:Nat} (h:LInv stop one O acc q k) (hs:stop q=true):O = .ok acc q:=by
 rw[h.1,loopG_stop hs]
theorem linv_step {α:Type} {stop:List Tk→Bool} {one:List Tk→Rl.Out α} {O:Rl.Out (List α)} {acc:List α} {q:List Tk} {k:Nat} (h:LInv stop one O acc q k) (hs:stop q=false) (he:Pn.Eat one) {a:α} {r:List Tk} (ho:one q = .ok a r):LInv stop one O (acc++[a]) r (k - 1):=by
 obtain ⟨k',rfl⟩:∃ k',k=k'+1:=⟨k - 1,by have:=h.2;omega⟩
 refine ⟨by rw[h.1,loopG_ok hs ho];rfl,?_⟩
 have h1:=he q a r ho
 have h2:=h.2
 show r.length < k'
 omega
theorem linv_bad {α:Type} {stop:List Tk→Bool} {one:List Tk→Rl.Out α} {O:Rl.Out (List α)} {acc:List α} {q:List Tk} {k:Nat} (h:LInv stop one O acc q k) (hs:stop q=false) {c:Nat} {r:List Tk} (ho:one q = .bad c r):O = .bad c r:=by
 obtain ⟨k',rfl⟩:∃ k',k=k'+1:=⟨k - 1,by have:=h.2;omega⟩
 rw[h.1,loopG_bad hs ho]
theorem step_snoc {P:Program} {w:World} {ops:Array Oper} {o:Oper} {a:Act} {K:Act→World→Prop} {Q:Exit→Act→World→Prop} {E:Prop} (hgd:o.guard=none) (s x:Operand) (t:TypeId)
 (ho:o.op = .call { callee:=.builtin .append,args:=#[s,x],argTypes:=#[t,t] })
 (e:TypeId) (i:TypeInfo) (z:Value) (size bytes:Nat) (ht:P.underlying t=some (.slice e)) (hi:P.info? e=some i) (hz:i.zero=some z)
 (hsize:i.size=size) (hby:i.bytes=bytes) (hzs:z.cells.size=size) (hsz:0 < size)
 {α:Type} {C:α→List Value→World→Prop} {B:Nat} {Es:List TypeId} {l:List α} (v:Value) (n:Nat) (hs:a.eval s=v) (HL:ListS B e size C l v w) (hln:l.length=n) (hK:Kp B Es C) (hE:e ∉ Es)
 (el:α) (cs:List Value) (hC:C el cs w) (hlen:cs.length=size) (hone:∀ u ∈ cs,u.oneCell'=true) (g:Nat) (hx:a.eval x = .slice (some ⟨g,0,none⟩) 1 1) (hb:Blk w g cs e)
 (h63:n+1≤maxLen) (hbytes:(n+1)*bytes≤140737488355328) (hbase:B≤w.heap.size)
 (h:∀ ao cap w',ListS B e size C (l++[el]) (.slice ao (n+1) cap) w'→(∀ own w0,Chg own w0 w→w0.heap.size≤B→Chg own w0 w')→(∀ b ds T,Blk w b ds T→(b < B∨T≠e∨some b≠v.ownBlock)→Blk w' b ds T)→K (a.put o.dst (.slice ao (n+1) cap)) w') :
 if Region.wanted o (yielded ops a.tmps)=true then Oper.wp P o a w K Q else E:=by
 have hwd:Region.wanted o (yielded ops a.tmps)=true:=by simp[Region.wanted,hgd]
 rw[if_pos hwd]
 obtain ⟨css,h1,h2,h3⟩:=HL
 rw[hln] at h3
 refine wp_append_own w s x t ho B e i z size bytes ht hi hz hsize hby hzs hsz v n css.flatten hs h3 ⟨g,0,none⟩ 1 1 cs hx (by rw[hlen,Nat.one_mul]) (fun j u hj=>by rw[addr_add,Nat.zero_add];exact hb.cell hj) hone h63 hbytes hbase fun v' w' h4 h5 _=>?_
 exact mPnJL1
end Go.Proofs.YtglepipfdmphhaaGreatDoor
namespace Go.Proofs.YtglepipfdmphhaaGreatDoor
set_option linter.unusedVariables false
set_option linter.unusedSimpArgs false
open Go Go.RowKit Go.Shelf
open Lx (Tk)
theorem info_row:(Tryz.prog.info? 48).map (fun i=>(i.zero,i.size,i.bytes))=some (some (.agg #[.string ⟨#[]⟩,.int .i64 0,.int .i64 0,.int .i64 0,.int .i64 0,.int .i64 0,.slice none 0 0,.int .i64 0]),8,88):=by kernel_rfl
theorem mono_rw {B B':Nat} (h:B≤B'):∀ (a:Pn.Rw) (cs:List Value) (w:World),Crw B' a cs w→Crw B a cs w:=fun a cs w ⟨u,h1,h2⟩=>⟨u,h1,h2.mono h (mono_m h)⟩
def Cbk (B:Nat) (x:Pn.Bl) (cs:List Value) (w:World):Prop:=∃ u,cs=[.string ⟨x.name.toArray⟩,u,.int .i64 (x.at_:Nat)]∧ListS B 48 8 (Crw B) x.rows u w
theorem kp_bk (B:Nat):Kp B [48,45] (Cbk B):=fun own w w' a cs hc ho ⟨u,h1,h2⟩=>⟨u,h1,h2.keep (kp_rw B) hc ho⟩
theorem mono_bk {B B':Nat} (h:B≤B'):∀ (a:Pn.Bl) (cs:List Value) (w:World),Cbk B' a cs w→Cbk B a cs w:=fun a cs w ⟨u,h1,h2⟩=>⟨u,h1,h2.mono h (mono_rw h)⟩
def BlockV (B:Nat) (x:Pn.Bl) (v:Value) (w:World):Prop:=∃ u,v = .agg #[.string ⟨x.name.toArray⟩,u,.int .i64 (x.at_:Nat)]∧ListS B 48 8 (Crw B) x.rows u w
theorem mPnJL0 {G:Prop} (h:G:=by
  refine rd1 5 (fun K hK=>?_)
  have HLk:Hid (ListS w2.heap.size 48 8 (Crw w2.heap.size) rs (.slice vo rs.length vc) (wx.alloc (.cells #[.string ⟨x.name.toArray⟩,.int .i64 (x.x:Nat),.int .i64 (x.y:Nat),.int .i64 (x.f:Nat),.int .i64 (x.t:Nat),.int .i64 (x.step:Nat),.slice uo x.marks.length uc,.int .i64 (x.at_:Nat)] 48))):=hd ((HL3.out.keep (kp_rw _) HCx.out (TyB.lower (by intro z hz;simp only[List.mem_cons,List.not_mem_nil,or_false] at hz;rw[hz];exact HbL.out) _)).keep (kp_rw _) ((Chg.refl [] _).alloc _) (TyB.nil _ _ _))
  have hcb:Hid (Chg [b,X5] w2 (wx.alloc (.cells #[.string ⟨x.name.toArray⟩,.int .i64 (x.x:Nat),.int .i64 (x.y:Nat),.int .i64 (x.f:Nat),.int .i64 (x.t:Nat),.int .i64 (x.step:Nat),.slice uo x.marks.length uc,.int .i64 (x.at_:Nat)] 48))):=hd ((KL_6.out.trans HCx.out (fun k hk=>.inl (by simp at hk;simp[hk]))).alloc _)
  refine step_snoc rfl (.tmp 17) (.tmp 20) 49 rfl 48 ir (.agg #[.string ⟨#[]⟩,.int .i64 0,.int .i64 0,.int .i64 0,.int .i64 0,.int .i64 0,.slice none 0 0,.int .i64 0]) 8 88 Tryz.underlying49 hir rz0 rz1 rz2 rfl (by decide) (C:=Crw w2.heap.size) (Es:=[45]) (.slice vo rs.length vc) rs.length rfl HLk.out rfl (kp_rw _) (by decide) x [.string ⟨x.name.toArray⟩,.int .i64 (x.x:Nat),.int .i64 (x.y:Nat),.int .i64 (x.f:Nat),.int .i64 (x.t:Nat),.int .i64 (x.step:Nat),.slice uo x.marks.length uc,.int .i64 (x.at_:Nat)] ⟨_,rfl,HUx.out.keep (kp_m _) ((Chg.refl [] _).alloc _) (TyB.nil _ _ _)⟩ rfl (by intro u hu;simp at hu;rcases hu with rfl|rfl|rfl|rfl|rfl|rfl|rfl|rfl <;> rfl) wx.heap.size rfl (Blk.new wx [.string ⟨x.name.toArray⟩,.int .i64 (x.x:Nat),.int .i64 (x.y:Nat),.int .i64 (x.f:Nat),.int .i64 (x.t:Nat),.int .i64 (x.step:Nat),.slice uo x.marks.length uc,.int .i64 (x.at_:Nat)] 48) (by unfold maxLen;omega) (by omega) hcb.out.size ?kk
  case kk =>
   intro lo8 lc8 v8 hl8 hc8 hb8
   have HL8:=hd hl8
   have HC8:=hd hc8
   have HB8:=hd hb8
   have HCv:Hid (Chg [b,X5] w2 v8):=hd (hc8 _ _ hcb.out (Nat.le_refl _))
   have HP8:Hid (Pp v8 b r5 en):=hd (HPx.out.via (W:=w2) (own:=[b,X5]) (KL_6.out.trans HCx.out (fun k hk=>.inl (by simp at hk;simp[hk]))) HCv.out (fun ds S h=>hb8 _ _ _ (h.alloc _) (.inl HbL.out)) (fun z hz=>by simp only[List.mem_cons,List.not_mem_nil,or_false] at hz;rcases hz with h9|h9;(rw[h9];exact Nat.le_refl _);(rw[h9];exact Nat.le_of_lt BX5.out)) HbL.out)
   clear hl8 hc8 hb8
   have HX5_8:=hd (HB8.out _ _ _ (HX5_7.out.alloc _) (.inr (.inl (by decide))))
   refine hK.out _ _ trivial (fun _=>?_)
   clear hK K
   try simp only[qq]
   refine tq 6 ?_
   refine rd1 7 (fun K hK=>?_)
   obtain ⟨cX5_0,cX5_1,cX5_2⟩:=HX5_8.out.c3
   obtain ⟨cX5_f0,cX5_f1,cX5_f2⟩:=HX5_8.out.f3
   go_simp
   refine hK.out _ _ trivial (fun _=>?_)
   clear hK K
   try simp only[qq]
   clear cX5_0 cX5_1 cX5_2 cX5_f0 cX5_f1 cX5_f2
   obtain ⟨W9,hW⟩:∃ W,W=(v8.setCell ⟨X5,1,none⟩ (.slice lo8 (rs.length+1) lc8)):=⟨_,rfl⟩
   rw[← hW]
   have HX5_9:Hid (Blk W9 X5 [.string ⟨t1.text.toArray⟩,.slice lo8 (rs.length+1) lc8,.int .i64 (at_:Nat)] 51):=hd (by rw[hW];exact (HX5_8.out.set 1 (.slice lo8 (rs.length+1) lc8)))
   have KL_9:=hd (HCv.out.s1 hW (.inl (by simp)))
   have KP_9:=hd ((Chg.refl [X4,X5] v8).s1 hW (.inl (by simp)))
   have Kv_9:=hd ((Chg.refl [b,X5] v8).s1 hW (.inl (by simp)))
   clear hW
   refine dq ?_
   have HPz:Hid (Pp W9 b r5 en):=hd (HP8.out.keep KP_9.out (al2 BX4.out BX5.out))
   have HLz:=Kv_9
   have HL9:Hid (ListS w2.heap.size 48 8 (Crw w2.heap.size) (rs++[x]) (.slice lo8 (rs++[x]).length lc8) W9):=hd (by rw[List.length_append];exact HL8.out.keep (kp_rw _) HLz.out (TyB.lower (by intro z hz;simp only[List.mem_cons,List.not_mem_nil,or_false] at hz;rcases hz with h9|h9;(rw[h9];exact HbL.out);(rw[h9];exact HXL.out)) _))
   have HX9:Hid (Blk W9 X5 [.string ⟨t1.text.toArray⟩,.slice lo8 (rs++[x]).length lc8,.int .i64 (at_:Nat)] 51):=hd (by rw[List.length_append];exact HX5_9.out)
   have hel:=Pn.eat_row _ _ _ HMx.out
   have HMU:Hid (leftP b W9 < leftP b wo):=hd (by rw[left_pp HPz.out,left_pp HPq.out];omega)
   have HQ9:Hid ((rs++[x]).length+r5.length≤r2.length):=hd (by have h2:=HQ.out;simp only[List.length_append,List.length_singleton];omega)
   clear hel
   go_wp2_with fail
   refine ⟨?_,HMU.out⟩
   first|exact ⟨rs++[x],r5,k - 1,lo8,lc8,HX9,HL9,HPz,hd (linv_step HLI.out HSF.out Pn.eat_row HMx.out),HQ9,KL_9⟩|((repeat apply Exists.intro);exact ⟨⟨rs++[x],r5,k - 1,lo8,lc8,HX9,HL9,HPz,hd (linv_step HLI.out HSF.out Pn.eat_row HMx.out),HQ9,KL_9⟩,rfl⟩)):G:=h
theorem block_spec (w:World) (b en:Nat) (l:List Tk) (HP:Hid (Pp w b l en)) (at_:Nat):Calls Tryz.prog 73 #[.pointer (some ⟨b,0,none⟩),.int .i64 (at_:Nat)] w fun e w'=>PRes w b en (BlockV w.heap.size) (Pn.block at_ l) e w':=by
 obtain ⟨ir,hir,rz0,rz1,rz2⟩:=info_parts info_row
 have HBW:Hid (b < w.heap.size):=hd HP.out.lt
 have HO:Hid (Pn.block at_ l=_):=hd (Pn.block.eq_1 at_ l)
 go_enter Tryz.func73,Tryz.ntmps73
 go_upto_region 1 with fail
 obtain ⟨W1,hW⟩:∃ W,W=(w.alloc (.cells #[.string ⟨#[]⟩,.slice none 0 0,.int .i64 0] 51)):=⟨_,rfl⟩
 rw[← hW]
 obtain ⟨X4,hX4⟩:∃ T,T=w.heap.size:=⟨_,rfl⟩
 try rw[← hX4]
 have OX4:Hid (w.heap.size≤X4):=hd (by rw[hX4];exact Nat.le_refl _)
 have HX4_1:Hid (Blk W1 X4 [.string ⟨#[]⟩,.slice none 0 0,.int .i64 0] 51):=hd (by
  have h1:=Blk.new w [.string ⟨#[]⟩,.slice none 0 0,.int .i64 0] 51
  have h2:w.heap.size=X4:=by simp[hX4]
  rw[h2] at h1
  rw[hW]
  exact h1)
 have BX4:Hid (b < X4):=hd (by have h1:=HBW.out;have OX4_:=OX4.out;omega)
 have C1:Hid (Chg [b] w W1):=hd (by rw[hW];exact ((Chg.refl [b] w).alloc _))
 have KP_1:Hid (Chg [] w W1):=hd (by rw[hW];exact ((Chg.refl [] w).alloc _))
 clear hW hX4
 go_wp2_with fail
 refine take_two (hd (HP.out.keep KP_1.out (by simp))) 1 (fun t1 r1 w1 HM1 HP1 HC1=>?_) (fun c r w9 HMb HCb=>?_)
 · skip
   have NX4_b:X4≠b:=by have h1:=HBW.out;have OX4_:=OX4.out;omega
   have Nb_X4:b≠X4:=NX4_b.symm
   have HX4_2:Hid (Blk w1 X4 [.string ⟨#[]⟩,.slice none 0 0,.int .i64 0] 51):=hd (HC1.out.blk HX4_1.out (by simp[NX4_b]))
   have C2:=hd (C1.out.trans HC1.out (al1 (.inl (by simp))))
   have HO1:=hd (good5 HO.out (name_ok HM1.out))
   have hf1:=fun W=>field_text (.int .i64 (t1.kind:Nat)) (.string ⟨t1.text.toArray⟩) (.int .i64 (t1.n:Nat)) (.int .i64 (t1.at_:Nat)) W
   go_upto_region 2 with fail
   clear hf1
   obtain ⟨W3,hW⟩:∃ W,W=(w1.alloc (.cells #[.string ⟨t1.text.toArray⟩,.slice none 0 0,.int .i64 (at_:Nat)] 51)):=⟨_,rfl⟩
   rw[← hW]
   obtain ⟨X5,hX5⟩:∃ T,T=w1.heap.size:=⟨_,rfl⟩
   try rw[← hX5]
   have OX5:Hid (X4 < X5):=hd (by rw[hX5];exact HX4_2.out.lt)
   have HX4_3:=hd (HX4_2.out.alE hW)
   have HX5_3:Hid (Blk W3 X5 [.string ⟨t1.text.toArray⟩,.slice none 0 0,.int .i64 (at_:Nat)] 51):=hd (by
    have h1:=Blk.new w1 [.string ⟨t1.text.toArray⟩,.slice none 0 0,.int .i64 (at_:Nat)] 51
    have h2:w1.heap.size=X5:=by simp[hX5]
    rw[h2] at h1
    rw[hW]
    exact h1)
   have BX5:Hid (b < X5):=hd (by have h1:=HBW.out;have OX4_:=OX4.out;have OX5_:=OX5.out;omega)
   have C3:=hd (C2.out.alE hW)
   have KP_3:Hid (Chg [X4] w1 W3):=hd (by rw[hW];exact ((Chg.refl [X4] w1).alloc _))
   clear hW hX5
   go_wp2_with fail
   refine must_two (hd (HP1.out.keep KP_3.out (al1 BX4.out))) [123] (fun r2 w2 HM2 HP2 HC2=>?_) (fun c r w9 HMb HCb=>?_)
   · skip
     have NX5_b:X5≠b:=by have h1:=HBW.out;have OX4_:=OX4.out;have OX5_:=OX5.out;omega
     have Nb_X5:b≠X5:=NX5_b.symm
     have HX4_4:=hd (HC2.out.blk HX4_3.out (by simp[NX4_b]))
     have HX5_4:Hid (Blk w2 X5 [.string ⟨t1.text.toArray⟩,.slice none 0 0,.int .i64 (at_:Nat)] 51):=hd (HC2.out.blk HX5_3.out (by simp[NX5_b]))
     have C4:=hd (C3.out.trans HC2.out (al1 (.inl (by simp))))
     have HO2:=hd (good5 HO1.out HM2.out)
     obtain ⟨O,hO⟩:∃ O,O=Pn.loop (Pn.isw Pn.cClose) Pn.row r2:=⟨_,rfl⟩
     have HLI0:Hid (LInv (Pn.isw Pn.cClose) Pn.row O [] r2 (r2.length+1)):=hd (by rw[hO];exact linv_start _ _ _)
     have HOB:Hid (Pn.braced Pn.row r2=O.bind fun z r=>.ok z r.tail):=hd (by rw[hO];rfl)
     clear hO
     have HRL:=hd HP2.out.small
     have HXL:Hid (X5 < w2.heap.size):=hd HX5_4.out.lt
     have HX4L:Hid (X4 < w2.heap.size):=hd HX4_4.out.lt
     have HWL:Hid (w.heap.size≤w2.heap.size):=hd C4.out.size
     have HbL:Hid (b < w2.heap.size):=hd (by have h1:=HBW.out;have h2:=HWL.out;omega)
     go_wp2_with fail
     go_loopw [] (fun wr=>∃ (rs:List Pn.Rw) (q:List Tk) (k:Nat) (vo:Option Addr) (vc:Nat),Hid (Blk wr X5 [.string ⟨t1.text.toArray⟩,.slice vo rs.length vc,.int .i64 (at_:Nat)] 51)∧Hid (ListS w2.heap.size 48 8 (Crw w2.heap.size) rs (.slice vo rs.length vc) wr)∧Hid (Pp wr b q en)∧Hid (LInv (Pn.isw Pn.cClose) Pn.row O rs q k)∧Hid (rs.length+q.length≤r2.length)∧Hid (Chg [b,X5] w2 wr)) (fun wr=>leftP b wr)
     case atStart=>exact ⟨[],r2,r2.length+1,none,0,HX5_4,hd (ListS.nil _ _ _ _ _),HP2,HLI0,hd (by simp),hd (Chg.refl _ _)⟩
     case round =>
      obtain ⟨rs,q,k,vo,vc,HX5,HL,HPq,HLI,HQ,HCL⟩:=hrel
      obtain ⟨wo,hwn⟩:∃ x,x=wr:=⟨_,rfl⟩
      subst hwn
      have NX4_X5:X4≠X5:=by have OX5_:=OX5.out;omega
      have NX5_X4:X5≠X4:=NX4_X5.symm
      have HX4_5:=hd (HCL.out.blk HX4_4.out (by simp[NX4_b,NX4_X5]))
      have C5:=hd (C4.out.trans HCL.out (al2 (.inl (by simp)) (.inr (by have OX4_:=OX4.out;have OX5_:=OX5.out;show w.heap.size≤X5;omega))))
      have KL_5:=hd ((Chg.refl [b,X5] w2).trans HCL.out (al2 (.inl (by simp)) (.inl (by simp))))
      have hml:rs.length≤1000000:=by have h1:=HQ.out;have h2:=HRL.out;omega
      go_wp2_with fail
      refine is_r (hd HPq.out) [125] (fun b3 r3 w3 HM3 HP3 HC3=>?_)
      have HX4_6:=hd (HC3.out.blk HX4_5.out (by simp[NX4_b]))
      have HX5_6:Hid (Blk w3 X5 [.string ⟨t1.text.toArray⟩,.slice vo rs.length vc,.int .i64 (at_:Nat)] 51):=hd (HC3.out.blk HX5.out (by simp[NX5_b]))
      have C6:=hd (C5.out.trans HC3.out (al1 (.inl (by simp))))
      have KL_6:=hd (KL_5.out.trans HC3.out (al1 (.inl (by simp))))
      cases b3 with
      | true =>
       have HOK:Hid (O = .ok rs q):=hd (linv_stop HLI.out HM3.out.1)
       have HRT:Hid (q.tail=r3):=hd HM3.out.2
       have HO3:Hid (Pn.block at_ l = .ok ⟨t1.text,rs,at_⟩ r3):=hd (by rw[HO2.out,HOB.out,HOK.out,← HRT.out];rfl)
       obtain ⟨cX5_0,cX5_1,cX5_2⟩:=HX5_6.out.c3
       obtain ⟨cX4_0,cX4_1,cX4_2⟩:=HX4_6.out.c3
       obtain ⟨cX4_f0,cX4_f1,cX4_f2⟩:=HX4_6.out.f3
       go_wp2_with fail
       clear cX5_0 cX5_1 cX5_2 cX4_0 cX4_1 cX4_2 cX4_f0 cX4_f1 cX4_f2
       obtain ⟨W7,hW⟩:∃ W,W=(((w3.setCell ⟨X4,0,none⟩ (.string ⟨t1.text.toArray⟩)).setCell ⟨X4,1,none⟩ (.slice vo rs.length vc)).setCell ⟨X4,2,none⟩ (.int .i64 (at_:Nat))):=⟨_,rfl⟩
       rw[← hW]
       have HX4_7:Hid (Blk W7 X4 [.string ⟨t1.text.toArray⟩,.slice vo rs.length vc,.int .i64 (at_:Nat)] 51):=hd (by rw[hW];exact (((HX4_6.out.set 0 (.string ⟨t1.text.toArray⟩)).set 1 (.slice vo rs.length vc)).set 2 (.int .i64 (at_:Nat))))
       have C7:=hd (C6.out.s3 hW (.inr (by have OX4_:=OX4.out;show w.heap.size≤X4;omega)))
       have Ko2_7:=hd ((Chg.refl [X4] w3).s3 hW (.inl (by simp)))
       have KP_7:=hd ((Chg.refl [X4,X5] w3).s3 hW (.inl (by simp)))
       clear hW
       (try simp only[Exit.inBlock,Exit.then])
       have HLF:Hid (ListS w.heap.size 48 8 (Crw w.heap.size) rs (.slice vo rs.length vc) W7):=hd (((HL.out.keep (kp_rw _) HC3.out (TyB.lower (by intro z hz;simp only[List.mem_cons,List.not_mem_nil,or_false] at hz;rw[hz];exact HbL.out) _)).keep (kp_rw _) Ko2_7.out (TyB.lower (by intro z hz;simp only[List.mem_cons,List.not_mem_nil,or_false] at hz;rw[hz];exact HX4L.out) _)).mono HWL.out (mono_rw HWL.out))
       refine bodyPost_ret (results_cell_row rfl _ _ X4 51 #[.string ⟨t1.text.toArray⟩,.slice vo rs.length vc,.int .i64 (at_:Nat)] (0,0) _ rfl HX4_7.out Tryz.underlying51 rfl (by kernel_rfl)) rfl (pgood C7.out HO3.out ⟨.slice vo rs.length vc,rfl,HLF.out⟩ (HP3.out.keep KP_7.out (al2 BX4.out BX5.out)))
      | false =>
       have HRQ:Hid (r3=q):=hd HM3.out.2.symm
       have HP3q:Hid (Pp w3 b q en):=hd (by rw[← HRQ.out];exact HP3.out)
       have HSF:Hid (Pn.isw Pn.cClose q=false):=hd HM3.out.1
       have HL3:Hid (ListS w2.heap.size 48 8 (Crw w2.heap.size) rs (.slice vo rs.length vc) w3):=hd (HL.out.keep (kp_rw _) HC3.out (TyB.lower (by intro z hz;simp only[List.mem_cons,List.not_mem_nil,or_false] at hz;rw[hz];exact HbL.out) _))
       go_upto_region 4 with fail
       refine wp_region_held_drew (S:=fun W'=>True) (by kernel_rfl) trivial (fun hHeld=>?_)
       refine tq 0 ?_
       refine tq 2 ?_
       refine rd2 1 3 (fun K hK=>?_) (fun K hK=>?_)
       · have x0:=(HX5_6.out.drew).cell (i:=1) rfl
         go_simp
         refine hK.out _ _ trivial (fun _=>?_)
         clear hK K
         try simp only[qq]
         clear x0
         refine rd1 3 (fun K hK=>?_)
         go_simp
         refine row_two (hd (Pp.quiet HP3q.out (Chg.refl _ _).drew)) w2.heap.size (Nat.le_trans KL_6.out.size (Nat.le_refl _)) (fun x uo uc r5 wx HMx HPx HCd HUx=>?_) (fun c r w9 HMb HCd=>?_)
         · have HCx:Hid (Chg [b] w3 wx):=hd (Chg.ofDrew HCd.out)
           have HX5_7:=hd (HCx.out.blk HX5_6.out (by simp[NX5_b]))
           refine hK.out _ _ trivial (fun _=>?_)
           clear hK K
           try simp only[qq]
           refine rd1 4 (fun K hK=>?_)
           go_simp
           refine hK.out _ _ trivial (fun _=>?_)
           clear hK K
           try simp only[qq]
           exact mPnJL0
         have HCb:Hid (Chg [b] w3 w9):=hd (Chg.ofDrew HCd.out)
         exact ⟨rfl,(pbad (C6.out.trans HCb.out (al1 (.inl (by simp)))) (bad5 HO2.out (by rw[HOB.out,linv_bad HLI.out HSF.out HMb.out];rfl)))⟩
       go_simp
       refine row_two (hd (Pp.quiet HP3q.out (Chg.refl _ _).drew)) w2.heap.size (Nat.le_trans KL_6.out.size (Nat.le_refl _)) (fun x uo uc r5 wx HMx HPx HCd HUx=>?_) (fun c r w9 HMb HCd=>?_)
       · have HCx:Hid (Chg [b] w3 wx):=hd (Chg.ofDrew HCd.out)
         have HX5_7:=hd (HCx.out.blk HX5_6.out (by simp[NX5_b]))
         refine hK.out _ _ trivial (fun _=>?_)
         clear hK K
         try simp only[qq]
         refine rd2 1 4 (fun K hK=>?_) (fun K hK=>?_)
         · have x0:=HX5_7.out.cell (i:=1) rfl
           go_simp
           refine hK.out _ _ trivial (fun _=>?_)
           clear hK K
           try simp only[qq]
           clear x0
           refine rd1 4 (fun K hK=>?_)
           go_simp
           refine hK.out _ _ trivial (fun _=>?_)
           clear hK K
           try simp only[qq]
           exact mPnJL0
         go_simp
         refine hK.out _ _ trivial (fun _=>?_)
         clear hK K
         try simp only[qq]
         have x0:=(HX5_7.out.alloc (.cells #[.string ⟨x.name.toArray⟩,.int .i64 (x.x:Nat),.int .i64 (x.y:Nat),.int .i64 (x.f:Nat),.int .i64 (x.t:Nat),.int .i64 (x.step:Nat),.slice uo x.marks.length uc,.int .i64 (x.at_:Nat)] 48)).cell (i:=1) rfl
         refine rd1 1 (fun K hK=>?_)
         go_simp
         refine hK.out _ _ trivial (fun _=>?_)
         clear hK K
         try simp only[qq]
         clear x0
         exact mPnJL0
       have HCb:Hid (Chg [b] w3 w9):=hd (Chg.ofDrew HCd.out)
       exact ⟨rfl,(pbad (C6.out.trans HCb.out (al1 (.inl (by simp)))) (bad5 HO2.out (by rw[HOB.out,linv_bad HLI.out HSF.out HMb.out];rfl)))⟩
   go_wp2_with fail
   exact ⟨rfl,(pbad (C3.out.trans HCb.out (al1 (.inl (by simp)))) (bad5 HO1.out HMb.out))⟩
 go_wp2_with fail
 exact ⟨rfl,(pbad (C1.out.trans HCb.out (al1 (.inl (by simp)))) (bad5 HO.out (name_bad HMb.out)))⟩
theorem block_two {w:World} {b en:Nat} {l:List Tk} (HP:Hid (Pp w b l en)) (at_:Nat) (B:Nat) (hB:B≤w.heap.size) {R:Ending→World→Prop}
 (hok:∀ (x:Pn.Bl) (uo:Option Addr) (uc:Nat) (r:List Tk) (w':World),Hid (Pn.block at_ l = .ok x r)→Hid (Pp w' b r en)→Hid (Chg [b] w w')→Hid (ListS B 48 8 (Crw B) x.rows (.slice uo x.rows.length uc) w')→R (.returned (.agg #[.string ⟨x.name.toArray⟩,.slice uo x.rows.length uc,.int .i64 (x.at_:Nat)])) w')
 (hbad:∀ (c:Nat) (r:List Tk) (w':World),Hid (Pn.block at_ l = .bad c r)→Hid (Chg [b] w w')→R (.panicked [{ v:=flt c r en,recovered:=false }]) w') :
 Calls Tryz.prog 73 #[.pointer (some ⟨b,0,none⟩),.int .i64 (at_:Nat)] w R :=
 (block_spec w b en l HP at_).mono fun e w' h=>pres_two h (fun a r v h1 h2 h3 h4=>by
  obtain ⟨u,rfl,h5⟩:=h4
  obtain ⟨uo,uc,rfl⟩:=h5.form
  exact hok a uo uc r w' h1 h2 h3 (hd (h5.mono hB (mono_rw hB)))) (fun c r h1 h2=>hbad c r w' h1 h2)
end Go.Proofs.YtglepipfdmphhaaGreatDoor
