/-
  PnPR, PnSU in one text.
-/
import Derived.Test.YtglepipfdmphhaaGreatDoorPnMO
import Derived.Defers
import Derived.Recover
import Derived.Test.YtglepipfdmphhaaGreatDoorLxJ
set_option maxRecDepth 100000
set_option maxHeartbeats 40000000
namespace Go.Proofs.YtglepipfdmphhaaGreatDoor
set_option linter.unusedVariables false
set_option linter.unusedSimpArgs false
open Go Go.RowKit Go.Shelf Go.MapKept
open Lx (Tk)
def kvF:List (List UInt8)→List Value→List (Value × Value)
 | x :: r,v :: vs=>(.string ⟨x.toArray⟩,v) :: kvF r vs
 | _,_=>[]
def valIn:List (List UInt8)→List Value→List UInt8→Value→Value
 | x :: r,v :: vs,t,z=>if t=x then v else valIn r vs t z
 | _,_,_,z=>z
theorem lookIn_kvF (t:List UInt8) (z:Value):∀ (l:List (List UInt8)) (vs:List Value) (ck i:Nat),(match Instr.findNow .string (.string ⟨t.toArray⟩) (entsOf ck (kvF l vs)) i with
 | some (some r)=>r.2
 | _=>z)=valIn l vs t z
 | [],vs,ck,i=>by cases vs <;> rfl
 | x :: l,[],ck,i=>rfl
 | x :: l,v :: vs,ck,i=>by
  rw[kvF,entsOf,Instr.findNow,sameNow_str,valIn]
  by_cases h:t=x
  · rw[if_pos h,decide_eq_true h]
  rw[if_neg h,decide_eq_false h]
  exact lookIn_kvF t z l vs (ck+1) (i+1)
theorem entsOf_keyF:∀ (l:List (List UInt8)) (vs:List Value) (ck:Nat),∀ x ∈ entsOf ck (kvF l vs),IsKey .string x.key
 | [],vs,_,x,h=>by cases vs <;> simp[kvF,entsOf] at h
 | y :: r,[],_,x,h=>by simp[kvF,entsOf] at h
 | y :: r,v :: vs,c,x,h=>by
  rw[kvF,entsOf] at h
  rcases List.mem_cons.1 h with rfl|h
  · exact trivial
  exact entsOf_keyF r vs (c+1) x h
def itemFs (BL BP:Nat):List Value:=[.func (.func 72) #[] #[.pointer (some ⟨BL,0,none⟩),.pointer (some ⟨BP,0,none⟩)],.func (.func 74) #[] #[.pointer (some ⟨BP,0,none⟩),.pointer (some ⟨BL,0,none⟩)],.func (.func 76) #[] #[.pointer (some ⟨BL,0,none⟩),.pointer (some ⟨BP,0,none⟩)],.func (.func 77) #[] #[.pointer (some ⟨BL,0,none⟩),.pointer (some ⟨BP,0,none⟩)],.func (.func 78) #[] #[.pointer (some ⟨BP,0,none⟩),.pointer (some ⟨BL,0,none⟩)]]
def itemE (BL BP:Nat):List MapEntry:=entsOf 0 (kvF Pn.sortsL (itemFs BL BP))
def itemF (BL BP k:Nat):Value:=if k=1 then .func (.func 72) #[] #[.pointer (some ⟨BL,0,none⟩),.pointer (some ⟨BP,0,none⟩)] else if k=2 then .func (.func 74) #[] #[.pointer (some ⟨BP,0,none⟩),.pointer (some ⟨BL,0,none⟩)] else if k=3 then .func (.func 76) #[] #[.pointer (some ⟨BL,0,none⟩),.pointer (some ⟨BP,0,none⟩)] else if k=4 then .func (.func 77) #[] #[.pointer (some ⟨BL,0,none⟩),.pointer (some ⟨BP,0,none⟩)] else if k=5 then .func (.func 78) #[] #[.pointer (some ⟨BP,0,none⟩),.pointer (some ⟨BL,0,none⟩)] else .nilFunc
theorem zero_func (w:World):(zeroValue 135).run Tryz.prog w = .ok .nilFunc w:=by kernel_rfl
theorem look_items {w:World} {M ck BL BP:Nat} (hb:MapB w M (itemE BL BP) ck) (t:Bytes):(Instr.lookup 132 (.map (some M)) (.string ⟨t.toArray⟩) false).run Tryz.prog w = .ok (itemF BL BP (Rl.codeIn Pn.sortsL 1 t)) w:=by
 have h:=run_look (P:=Tryz.prog) Tryz.underlying132 Tryz.underlying9 (zero_func w) hb (d:=.string) (key:=.string ⟨t.toArray⟩) trivial (entsOf_keyF _ _ 0)
 rw[h]
 have h2:lookIn .string (.string ⟨t.toArray⟩) (itemE BL BP) .nilFunc=valIn Pn.sortsL (itemFs BL BP) t .nilFunc:=lookIn_kvF t .nilFunc Pn.sortsL (itemFs BL BP) 0 0
 rw[h2]
 suffices h3:valIn Pn.sortsL (itemFs BL BP) t .nilFunc=itemF BL BP (Rl.codeIn Pn.sortsL 1 t) by rw[h3]
 clear h h2
 unfold itemF
 simp only[valIn,Rl.codeIn,Pn.sortsL,itemFs]
 by_cases e1:t=[98,108,111,99,107]
 · simp[e1]
 by_cases e2:t=[97,114,101,97]
 · simp[e1,e2]
 by_cases e3:t=[97,105,115,108,101]
 · simp[e1,e2,e3]
 by_cases e4:t=[112,105,108,108,97,114]
 · simp[e1,e2,e3,e4]
 by_cases e5:t=[100,111,111,114]
 · simp[e1,e2,e3,e4,e5]
 simp[e1,e2,e3,e4,e5]
theorem items_r {w:World} {b D:Nat} {R:Ending→World→Prop}
 (h:∀ (M BP BL:Nat) (w':World),Hid (Blk w' BP [.pointer (some ⟨b,0,none⟩)] 88)→Hid (Blk w' BL [.pointer (some ⟨D,0,none⟩)] 134)→Hid (MapB w' M (itemE BL BP) 5)→Hid (w.heap.size≤BP∧BP < BL∧BL < M)→Hid (Chg [] w w')→R (.returned (.map (some M))) w') :
 Calls Tryz.prog 46 #[.pointer (some ⟨b,0,none⟩),.pointer (some ⟨D,0,none⟩)] w R:=by
 refine (show Calls Tryz.prog 46 #[.pointer (some ⟨b,0,none⟩),.pointer (some ⟨D,0,none⟩)] w (fun e w'=>∃ M BP BL:Nat,e = .returned (.map (some M))∧Hid (Blk w' BP [.pointer (some ⟨b,0,none⟩)] 88)∧Hid (Blk w' BL [.pointer (some ⟨D,0,none⟩)] 134)∧Hid (MapB w' M (itemE BL BP) 5)∧Hid (w.heap.size≤BP∧BP < BL∧BL < M)∧Hid (Chg [] w w')) from ?_).mono (fun e w' hx=>by obtain ⟨M,BP,BL,rfl,h1,h2,h3,h4,h5⟩:=hx;exact h M BP BL w' h1 h2 h3 h4 h5)
 clear h
 have hmm:=@run_makeMap Tryz.prog
 have hmf:∀ (fn:Fn) (first cap:Array Value) (w:World),(Instr.makeFunc fn first cap).run Tryz.prog w = .ok (.func fn first cap) w:=fun _ _ _ _=>rfl
 go_enter Tryz.func46,Tryz.ntmps46
 go_upto_region 1 with fail
 obtain ⟨W1,hW⟩:∃ W,W=((w.alloc (.cells #[.pointer (some ⟨b,0,none⟩)] 88)).alloc (.cells #[.pointer (some ⟨D,0,none⟩)] 134)):=⟨_,rfl⟩
 rw[← hW]
 obtain ⟨BL,hBL⟩:∃ T,T=w.heap.size+1:=⟨_,rfl⟩
 try rw[← hBL]
 obtain ⟨BP,hBP⟩:∃ T,T=w.heap.size:=⟨_,rfl⟩
 try rw[← hBP]
 have OBP:Hid (w.heap.size≤BP):=hd (by rw[hBP];exact Nat.le_refl _)
 have OBL:Hid (BP < BL):=hd (by rw[hBL,hBP];omega)
 have HBP_1:Hid (Blk W1 BP [.pointer (some ⟨b,0,none⟩)] 88):=hd (by
  have h1:=Blk.new w [.pointer (some ⟨b,0,none⟩)] 88
  have h2:w.heap.size=BP:=by simp[hBP]
  rw[h2] at h1
  rw[hW]
  exact (h1.alloc _))
 have HBL_1:Hid (Blk W1 BL [.pointer (some ⟨D,0,none⟩)] 134):=hd (by
  have h1:=Blk.new (w.alloc (.cells #[.pointer (some ⟨b,0,none⟩)] 88)) [.pointer (some ⟨D,0,none⟩)] 134
  have h2:(w.alloc (.cells #[.pointer (some ⟨b,0,none⟩)] 88)).heap.size=BL:=by simp[hBL]
  rw[h2] at h1
  rw[hW]
  exact h1)
 have C1:Hid (Chg [] w W1):=hd (by rw[hW];exact (((Chg.refl [] w).alloc _).alloc _))
 clear hW hBP hBL
 go_wp2_with (first
  | (refine wpList_insert_new rfl rfl (.tmp 5) (.const (.string ⟨#[98,108,111,99,107]⟩)) (.tmp 6) 132 rfl 9 135 .string Tryz.underlying132 Tryz.underlying9 W1.heap.size rfl _ _ rfl rfl trivial (MapB.new W1) (by rfl) ?_;intro wm1 hm1 hcm1 hsm1)
  | (refine wpList_insert_new rfl rfl (.tmp 5) (.const (.string ⟨#[97,114,101,97]⟩)) (.tmp 7) 132 rfl 9 135 .string Tryz.underlying132 Tryz.underlying9 W1.heap.size rfl _ _ rfl rfl trivial hm1 (by rfl) ?_;intro wm2 hm2 hcm2 hsm2)
  | (refine wpList_insert_new rfl rfl (.tmp 5) (.const (.string ⟨#[97,105,115,108,101]⟩)) (.tmp 8) 132 rfl 9 135 .string Tryz.underlying132 Tryz.underlying9 W1.heap.size rfl _ _ rfl rfl trivial hm2 (by rfl) ?_;intro wm3 hm3 hcm3 hsm3)
  | (refine wpList_insert_new rfl rfl (.tmp 5) (.const (.string ⟨#[112,105,108,108,97,114]⟩)) (.tmp 9) 132 rfl 9 135 .string Tryz.underlying132 Tryz.underlying9 W1.heap.size rfl _ _ rfl rfl trivial hm3 (by rfl) ?_;intro wm4 hm4 hcm4 hsm4)
  | (refine wpList_insert_new rfl rfl (.tmp 5) (.const (.string ⟨#[100,111,111,114]⟩)) (.tmp 10) 132 rfl 9 135 .string Tryz.underlying132 Tryz.underlying9 W1.heap.size rfl _ _ rfl rfl trivial hm4 (by rfl) ?_;intro wm5 hm5 hcm5 hsm5))
 obtain ⟨M,hM⟩:∃ M,M=W1.heap.size:=⟨_,rfl⟩
 rw[← hM] at hm5 hcm1 hcm2 hcm3 hcm4 hcm5
 try rw[← hM]
 have HC5:Hid (Chg [] W1 wm5):=hd (((Chg.refl [] W1).alloc (.map #[] 0)).trans ((((hcm1.trans hcm2 (by simp)).trans hcm3 (by simp)).trans hcm4 (by simp)).trans hcm5 (by simp)) (fun k hk=>.inr (by simp at hk;omega)))
 refine bodyPost_ret (v:=.map (some M)) (by simp[results,Tryz.results46,go_sem]) rfl ?_
 exact ⟨M,BP,BL,rfl,hd (HC5.out.blk HBP_1.out (by simp)),hd (HC5.out.blk HBL_1.out (by simp)),hd hm5,hd ⟨OBP.out,OBL.out,by rw[hM];exact HBL_1.out.lt⟩,hd (C1.out.trans HC5.out (by simp))⟩
end Go.Proofs.YtglepipfdmphhaaGreatDoor
namespace Go.Proofs.YtglepipfdmphhaaGreatDoor
set_option linter.unusedVariables false
set_option linter.unusedSimpArgs false
open Go Go.RowKit Go.Shelf
open Lx (Tk)
def LvL (B:Nat) (x:Pn.Lv) (u1 u2 u3 u4 u5:Value) (w:World):Prop:=ListS B 51 3 (Cbk B) x.blocks u1 w∧ListS B 56 7 Car x.areas u2 w∧ListS B 54 4 Cbx x.aisles u3 w∧ListS B 54 4 Cbx x.pillars u4 w∧ListS B 23 2 Cpt x.doors u5 w
def Clv (B:Nat) (x:Pn.Lv) (cs:List Value) (w:World):Prop:=∃ u1 u2 u3 u4 u5,cs=[.string ⟨x.name.toArray⟩,.int .i64 (x.height:Nat),u1,u2,u3,u4,u5,.int .i64 (x.at_:Nat)]∧LvL B x u1 u2 u3 u4 u5 w
def LevelV (B:Nat) (x:Pn.Lv) (v:Value) (w:World):Prop:=∃ u1 u2 u3 u4 u5,v = .agg #[.string ⟨x.name.toArray⟩,.int .i64 (x.height:Nat),u1,u2,u3,u4,u5,.int .i64 (x.at_:Nat)]∧LvL B x u1 u2 u3 u4 u5 w
theorem mono_ar {B B':Nat} (h:B≤B'):∀ (a:Pn.Ar) (cs:List Value) (w:World),Car a cs w→Car a cs w:=fun _ _ _ h=>h
theorem mono_bx {B B':Nat} (h:B≤B'):∀ (a:Pn.Bx) (cs:List Value) (w:World),Cbx a cs w→Cbx a cs w:=fun _ _ _ h=>h
theorem mono_pt {B B':Nat} (h:B≤B'):∀ (a:Nat × Nat) (cs:List Value) (w:World),Cpt a cs w→Cpt a cs w:=fun _ _ _ h=>h
theorem LvL.mono {B B':Nat} {x:Pn.Lv} {u1 u2 u3 u4 u5:Value} {w:World} (h:LvL B' x u1 u2 u3 u4 u5 w) (hb:B≤B'):LvL B x u1 u2 u3 u4 u5 w:=⟨h.1.mono hb (mono_bk hb),h.2.1.mono hb (mono_ar hb),h.2.2.1.mono hb (mono_bx hb),h.2.2.2.1.mono hb (mono_bx hb),h.2.2.2.2.mono hb (mono_pt hb)⟩
theorem LvL.keep {B:Nat} {x:Pn.Lv} {u1 u2 u3 u4 u5:Value} {own:List Nat} {w w':World} (h:LvL B x u1 u2 u3 u4 u5 w) (hc:Chg own w w') (ho:TyB own w B [51,48,45,56,54,23]):LvL B x u1 u2 u3 u4 u5 w' :=
 ⟨h.1.keep (kp_bk B) hc (ho.mono (by decide)),h.2.1.keep (kp_ar B) hc (ho.mono (by decide)),h.2.2.1.keep (kp_bx B) hc (ho.mono (by decide)),h.2.2.2.1.keep (kp_bx B) hc (ho.mono (by decide)),h.2.2.2.2.keep (kp_pt B) hc (ho.mono (by decide))⟩
theorem kp_lv (B:Nat):Kp B [51,48,45,56,54,23] (Clv B):=fun own w w' a cs hc ho ⟨u1,u2,u3,u4,u5,h1,h2⟩=>⟨u1,u2,u3,u4,u5,h1,h2.keep hc ho⟩
theorem mono_lv {B B':Nat} (h:B≤B'):∀ (a:Pn.Lv) (cs:List Value) (w:World),Clv B' a cs w→Clv B a cs w:=fun a cs w ⟨u1,u2,u3,u4,u5,h1,h2⟩=>⟨u1,u2,u3,u4,u5,h1,h2.mono h⟩
theorem LevAt.lists {B D:Nat} {L:Pn.Lv} {u1 u2 u3 u4 u5:Value} {w:World} (h:LevAt B D L u1 u2 u3 u4 u5 w):LvL B L u1 u2 u3 u4 u5 w:=⟨h.l1,h.l2,h.l3,h.l4,h.l5⟩
theorem func_eq (fn:Fn) (a c:Array Value) (w:World):(binOp .eql 135 (.func fn a c) .nilFunc).run Tryz.prog w = .ok (.bool false) w:=by kernel_rfl
theorem func_nil (w:World):(binOp .eql 135 .nilFunc .nilFunc).run Tryz.prog w = .ok (.bool true) w:=by kernel_rfl
theorem sorts_le (t:Bytes):Rl.codeIn Pn.sortsL 1 t≤5:=by
 simp only[Rl.codeIn,Pn.sortsL]
 repeat (split;omega)
 omega
namespace Pn
theorem lev_len (nm:Bytes) (h:Nat) (its:List It) (a:Nat):(lev nm h its a).blocks.length≤its.length∧(lev nm h its a).areas.length≤its.length∧(lev nm h its a).aisles.length≤its.length∧(lev nm h its a).pillars.length≤its.length∧(lev nm h its a).doors.length≤its.length :=
 ⟨List.length_filterMap_le _ _,List.length_filterMap_le _ _,List.length_filterMap_le _ _,List.length_filterMap_le _ _,List.length_filterMap_le _ _⟩
theorem lev_block (nm:Bytes) (h:Nat) (its:List It) (a:Nat) (x:Bl):lev nm h (its++[.block x]) a = { lev nm h its a with blocks:=(lev nm h its a).blocks++[x] }:=by simp[lev,It.block?,It.area?,It.aisle?,It.pillar?,It.door?]
theorem lev_area (nm:Bytes) (h:Nat) (its:List It) (a:Nat) (x:Ar):lev nm h (its++[.area x]) a = { lev nm h its a with areas:=(lev nm h its a).areas++[x] }:=by simp[lev,It.block?,It.area?,It.aisle?,It.pillar?,It.door?]
theorem lev_aisle (nm:Bytes) (h:Nat) (its:List It) (a:Nat) (x:Bx):lev nm h (its++[.aisle x]) a = { lev nm h its a with aisles:=(lev nm h its a).aisles++[x] }:=by simp[lev,It.block?,It.area?,It.aisle?,It.pillar?,It.door?]
theorem lev_pillar (nm:Bytes) (h:Nat) (its:List It) (a:Nat) (x:Bx):lev nm h (its++[.pillar x]) a = { lev nm h its a with pillars:=(lev nm h its a).pillars++[x] }:=by simp[lev,It.block?,It.area?,It.aisle?,It.pillar?,It.door?]
theorem lev_door (nm:Bytes) (h:Nat) (its:List It) (a:Nat) (x:Nat × Nat):lev nm h (its++[.door x]) a = { lev nm h its a with doors:=(lev nm h its a).doors++[x] }:=by simp[lev,It.block?,It.area?,It.aisle?,It.pillar?,It.door?]
theorem item_cons (t:Tk) (r:List Tk):item (t :: r)=if Rl.codeIn sortsL 1 t.text=0 then .bad 4 (t :: r) else itemK (Rl.codeIn sortsL 1 t.text) t.at_ r:=rfl
theorem eat_area (a:Nat):Eat (area a):=Eat.bind eat_name (fun nm=>eat_box.shr.bind (fun b=>(eat_must wHolds).shr.bind (fun _=>eat_num.shr.bind (fun h=>(eat_must cSemi).shr.bind (fun _=>Shr.pure _)))))
theorem eat_boxS:Eat boxS:=Eat.bind eat_box (fun b=>(eat_must cSemi).shr.bind (fun _=>Shr.pure _))
theorem eat_door:Eat door:=Eat.bind eat_num2 (fun b=>(eat_must cSemi).shr.bind (fun _=>Shr.pure _))
theorem shr_itemK (k a:Nat):Shr (itemK k a):=by
 intro l x r h
 unfold itemK at h
 split at h
 · exact (Eat.bind (eat_block a) (fun b=>Shr.pure (It.block b))).shr l x r h
 split at h
 · exact (Eat.bind (eat_area a) (fun b=>Shr.pure (It.area b))).shr l x r h
 split at h
 · exact (Eat.bind eat_boxS (fun b=>Shr.pure (It.aisle b))).shr l x r h
 split at h
 · exact (Eat.bind eat_boxS (fun b=>Shr.pure (It.pillar b))).shr l x r h
 exact (Eat.bind eat_door (fun b=>Shr.pure (It.door b))).shr l x r h
theorem eat_item:Eat item:=fun l x r h=>by
 cases l with
 | nil=>cases h
 | cons t q =>
  rw[item_cons] at h
  split at h
  · cases h
  have:=shr_itemK _ _ q x r h
  simp
  omega
end Pn
attribute [local irreducible] Go.wpStill
theorem mPnPR0 {G:Prop} (h:G:=by
  have HCb:=hd (h2 w7 (Nat.le_refl _) HCLn.out)
  clear h1 h2
  go_wp2_with fail
  exact ⟨rfl,pbad (C11.out.trans HCb.out (al2 (.inl (by simp)) (.inr (by have OX2_:=OX2.out;have OX3_:=OX3.out;show w.heap.size≤X3;omega)))) (bad5 HO6.out (by rw[HOB.out,linv_bad HLI.out HSF.out (show Pn.item (t :: rr) = .bad c r by rw[HITK.out,HX1.out];rfl)];rfl))⟩):G:=h
theorem level_spec (w:World) (b en:Nat) (l:List Tk) (HP:Hid (Pp w b l en)):Calls Tryz.prog 26 #[.pointer (some ⟨b,0,none⟩)] w fun e w'=>PRes w b en (LevelV w.heap.size) (Pn.level l) e w':=by
 have HBW:Hid (b < w.heap.size):=hd HP.out.lt
 have HO:Hid (Pn.level l=_):=hd (Pn.level.eq_1 l)
 go_enter Tryz.func26,Tryz.ntmps26
 go_upto_region 1 with fail
 obtain ⟨W1,hW⟩:∃ W,W=(w.alloc (.cells #[.string ⟨#[]⟩,.int .i64 0,.slice none 0 0,.slice none 0 0,.slice none 0 0,.slice none 0 0,.slice none 0 0,.int .i64 0] 61)):=⟨_,rfl⟩
 rw[← hW]
 obtain ⟨X2,hX2⟩:∃ T,T=w.heap.size:=⟨_,rfl⟩
 try rw[← hX2]
 have OX2:Hid (w.heap.size≤X2):=hd (by rw[hX2];exact Nat.le_refl _)
 have HX2_1:Hid (Blk W1 X2 [.string ⟨#[]⟩,.int .i64 0,.slice none 0 0,.slice none 0 0,.slice none 0 0,.slice none 0 0,.slice none 0 0,.int .i64 0] 61):=hd (by
  have h1:=Blk.new w [.string ⟨#[]⟩,.int .i64 0,.slice none 0 0,.slice none 0 0,.slice none 0 0,.slice none 0 0,.slice none 0 0,.int .i64 0] 61
  have h2:w.heap.size=X2:=by simp[hX2]
  rw[h2] at h1
  rw[hW]
  exact h1)
 have BX2:Hid (b < X2):=hd (by have h1:=HBW.out;have OX2_:=OX2.out;omega)
 have C1:Hid (Chg [b] w W1):=hd (by rw[hW];exact ((Chg.refl [b] w).alloc _))
 have KP_1:Hid (Chg [] w W1):=hd (by rw[hW];exact ((Chg.refl [] w).alloc _))
 clear hW hX2
 go_wp2_with fail
 refine at_two (hd (HP.out.keep KP_1.out (by simp))) (fun a1 r1 w1 HM1 HP1 HC1=>?_) (fun c r w9 HMb HCb=>?_)
 · skip
   have NX2_b:X2≠b:=by have h1:=HBW.out;have OX2_:=OX2.out;omega
   have Nb_X2:b≠X2:=NX2_b.symm
   have HX2_2:Hid (Blk w1 X2 [.string ⟨#[]⟩,.int .i64 0,.slice none 0 0,.slice none 0 0,.slice none 0 0,.slice none 0 0,.slice none 0 0,.int .i64 0] 61):=hd (HC1.out.blk HX2_1.out (by simp[NX2_b]))
   have C2:=hd (C1.out.trans HC1.out (al1 (.inl (by simp))))
   have HO1:=hd (good5 HO.out HM1.out)
   go_upto_region 2 with fail
   obtain ⟨W3,hW⟩:∃ W,W=(w1.alloc (.cells #[.string ⟨#[]⟩,.int .i64 0,.slice none 0 0,.slice none 0 0,.slice none 0 0,.slice none 0 0,.slice none 0 0,.int .i64 (a1:Nat)] 61)):=⟨_,rfl⟩
   rw[← hW]
   obtain ⟨X3,hX3⟩:∃ T,T=w1.heap.size:=⟨_,rfl⟩
   try rw[← hX3]
   have OX3:Hid (X2 < X3):=hd (by rw[hX3];exact HX2_2.out.lt)
   have HX2_3:=hd (HX2_2.out.alE hW)
   have HX3_3:Hid (Blk W3 X3 [.string ⟨#[]⟩,.int .i64 0,.slice none 0 0,.slice none 0 0,.slice none 0 0,.slice none 0 0,.slice none 0 0,.int .i64 (a1:Nat)] 61):=hd (by
    have h1:=Blk.new w1 [.string ⟨#[]⟩,.int .i64 0,.slice none 0 0,.slice none 0 0,.slice none 0 0,.slice none 0 0,.slice none 0 0,.int .i64 (a1:Nat)] 61
    have h2:w1.heap.size=X3:=by simp[hX3]
    rw[h2] at h1
    rw[hW]
    exact h1)
   have BX3:Hid (b < X3):=hd (by have h1:=HBW.out;have OX2_:=OX2.out;have OX3_:=OX3.out;omega)
   have C3:=hd (C2.out.alE hW)
   have KP_3:Hid (Chg [X2] w1 W3):=hd (by rw[hW];exact ((Chg.refl [X2] w1).alloc _))
   clear hW hX3
   go_wp2_with fail
   refine must_two (hd (HP1.out.keep KP_3.out (al1 BX2.out))) [108,101,118,101,108] (fun r2 w2 HM2 HP2 HC2=>?_) (fun c r w9 HMb HCb=>?_)
   · skip
     have NX3_b:X3≠b:=by have h1:=HBW.out;have OX2_:=OX2.out;have OX3_:=OX3.out;omega
     have Nb_X3:b≠X3:=NX3_b.symm
     have HX2_4:=hd (HC2.out.blk HX2_3.out (by simp[NX2_b]))
     have HX3_4:Hid (Blk w2 X3 [.string ⟨#[]⟩,.int .i64 0,.slice none 0 0,.slice none 0 0,.slice none 0 0,.slice none 0 0,.slice none 0 0,.int .i64 (a1:Nat)] 61):=hd (HC2.out.blk HX3_3.out (by simp[NX3_b]))
     have C4:=hd (C3.out.trans HC2.out (al1 (.inl (by simp))))
     have HO2:=hd (good5 HO1.out HM2.out)
     go_wp2_with fail
     refine take_two (hd HP2.out) 1 (fun t3 r3 w3 HM3 HP3 HC3=>?_) (fun c r w9 HMb HCb=>?_)
     · skip
       have HX2_5:=hd (HC3.out.blk HX2_4.out (by simp[NX2_b]))
       have HX3_5:=hd (HC3.out.blk HX3_4.out (by simp[NX3_b]))
       have C5:=hd (C4.out.trans HC3.out (al1 (.inl (by simp))))
       have HO3:=hd (good5 HO2.out (name_ok HM3.out))
       have hf3:=fun W=>field_text (.int .i64 (t3.kind:Nat)) (.string ⟨t3.text.toArray⟩) (.int .i64 (t3.n:Nat)) (.int .i64 (t3.at_:Nat)) W
       obtain ⟨cX3_0,cX3_1,cX3_2,cX3_3,cX3_4,cX3_5,cX3_6,cX3_7⟩:=HX3_5.out.c8
       obtain ⟨cX3_f0,cX3_f1,cX3_f2,cX3_f3,cX3_f4,cX3_f5,cX3_f6,cX3_f7⟩:=HX3_5.out.f8
       go_upto_region 4 with fail
       clear cX3_0 cX3_1 cX3_2 cX3_3 cX3_4 cX3_5 cX3_6 cX3_7 cX3_f0 cX3_f1 cX3_f2 cX3_f3 cX3_f4 cX3_f5 cX3_f6 cX3_f7 hf3
       have NX2_X3:X2≠X3:=by have OX3_:=OX3.out;omega
       have NX3_X2:X3≠X2:=NX2_X3.symm
       obtain ⟨W6,hW⟩:∃ W,W=(w3.setCell ⟨X3,0,none⟩ (.string ⟨t3.text.toArray⟩)):=⟨_,rfl⟩
       rw[← hW]
       have HX2_6:=hd (HX2_5.out.o1 hW NX2_X3)
       have HX3_6:Hid (Blk W6 X3 [.string ⟨t3.text.toArray⟩,.int .i64 0,.slice none 0 0,.slice none 0 0,.slice none 0 0,.slice none 0 0,.slice none 0 0,.int .i64 (a1:Nat)] 61):=hd (by rw[hW];exact (HX3_5.out.set 0 (.string ⟨t3.text.toArray⟩)))
       have C6:=hd (C5.out.s1 hW (.inr (by have OX2_:=OX2.out;have OX3_:=OX3.out;show w.heap.size≤X3;omega)))
       have KP_6:=hd ((Chg.refl [X2,X3] w3).s1 hW (.inl (by simp)))
       clear hW
       go_wp2_with fail
       refine must_two (hd (HP3.out.keep KP_6.out (al2 BX2.out BX3.out))) [104,101,105,103,104,116] (fun r4 w4 HM4 HP4 HC4=>?_) (fun c r w9 HMb HCb=>?_)
       · skip
         have HX2_7:=hd (HC4.out.blk HX2_6.out (by simp[NX2_b]))
         have HX3_7:=hd (HC4.out.blk HX3_6.out (by simp[NX3_b]))
         have C7:=hd (C6.out.trans HC4.out (al1 (.inl (by simp))))
         have HO4:=hd (good5 HO3.out HM4.out)
         go_wp2_with fail
         obtain ⟨W8,hW⟩:∃ W,W=(w4.alloc (.cells #[.pointer (some ⟨X3,1,none⟩)] 96)):=⟨_,rfl⟩
         rw[← hW]
         obtain ⟨Q5,hQ5⟩:∃ T,T=w4.heap.size:=⟨_,rfl⟩
         try rw[← hQ5]
         have OQ5:Hid (X3 < Q5):=hd (by rw[hQ5];exact HX3_7.out.lt)
         have HX2_8:=hd (HX2_7.out.alE hW)
         have HX3_8:=hd (HX3_7.out.alE hW)
         have HQ5_8:Hid (Blk W8 Q5 [.pointer (some ⟨X3,1,none⟩)] 96):=hd (by
          have h1:=Blk.new w4 [.pointer (some ⟨X3,1,none⟩)] 96
          have h2:w4.heap.size=Q5:=by simp[hQ5]
          rw[h2] at h1
          rw[hW]
          exact h1)
         have C8:=hd (C7.out.alE hW)
         have KP_8:Hid (Chg [X2,X3] w4 W8):=hd (by rw[hW];exact ((Chg.refl [X2,X3] w4).alloc _))
         clear hW hQ5
         have NQ5_b:Q5≠b:=by have h1:=HBW.out;have OX2_:=OX2.out;have OX3_:=OX3.out;have OQ5_:=OQ5.out;omega
         have Nb_Q5:b≠Q5:=NQ5_b.symm
         have NQ5_X3:Q5≠X3:=by have OQ5_:=OQ5.out;omega
         refine num1_two (o:=1) (hd (HP4.out.keep KP_8.out (al2 BX2.out BX3.out))) HQ5_8 HX3_8 (by simp) (hd ⟨BX3.out,NQ5_b,NQ5_X3⟩) (fun x5 r5 w5 HM5 HP5 HD5 HC5=>?_) (fun c r w9 HMb HCb=>?_)
         · skip
           have HX2_9:=hd (HC5.out.blk HX2_8.out (by simp[NX2_b,NX2_X3]))
           have HQ5_9:Hid (Blk w5 Q5 [.pointer (some ⟨X3,1,none⟩)] 96):=hd (HC5.out.blk HQ5_8.out (by simp[NQ5_b,NQ5_X3]))
           have C9:=hd (C8.out.trans HC5.out (al2 (.inl (by simp)) (.inr (by have OX2_:=OX2.out;have OX3_:=OX3.out;show w.heap.size≤X3;omega))))
           clear HQ5_9
           have HO5:=hd (good5 HO4.out HM5.out)
           go_wp2_with fail
           refine must_two (hd HP5.out) [123] (fun r6 w6 HM6 HP6 HC6=>?_) (fun c r w9 HMb HCb=>?_)
           · skip
             have HX2_10:=hd (HC6.out.blk HX2_9.out (by simp[NX2_b]))
             have HX3_10:Hid (Blk w6 X3 [.string ⟨t3.text.toArray⟩,.int .i64 (x5:Nat),.slice none 0 0,.slice none 0 0,.slice none 0 0,.slice none 0 0,.slice none 0 0,.int .i64 (a1:Nat)] 61):=hd (HC6.out.blk HD5.out (by simp[NX3_b]))
             have C10:=hd (C9.out.trans HC6.out (al1 (.inl (by simp))))
             have HO6:=hd (good5 HO5.out HM6.out)
             go_wp2_with fail
             refine items_r (fun M BP BL w7 HBP HBL HM HNM HC7=>?_)
             have HX2_11:=hd (HC7.out.blk HX2_10.out (by simp))
             have HX3_11:=hd (HC7.out.blk HX3_10.out (by simp))
             have C11:=hd (C10.out.trans HC7.out (by simp))
             have KP_11:=hd ((Chg.refl [X2,X3] w6).trans HC7.out (by simp))
             have HP7:Hid (Pp w7 b r6 en):=hd (HP6.out.keep KP_11.out (al2 BX2.out BX3.out))
             obtain ⟨O,hO⟩:∃ O,O=Pn.loop (Pn.isw Pn.cClose) Pn.item r6:=⟨_,rfl⟩
             have HLI0:Hid (LInv (Pn.isw Pn.cClose) Pn.item O [] r6 (r6.length+1)):=hd (by rw[hO];exact linv_start _ _ _)
             have HOB:Hid (Pn.braced Pn.item r6=O.bind fun z r=>.ok z r.tail):=hd (by rw[hO];rfl)
             clear hO
             have HRL:=hd HP6.out.small
             have HXL:Hid (X3 < w7.heap.size):=hd HX3_11.out.lt
             have HX2L:Hid (X2 < w7.heap.size):=hd HX2_11.out.lt
             have HWL:Hid (w.heap.size≤w7.heap.size):=hd C11.out.size
             have HbL:Hid (b < w7.heap.size):=hd (by have h1:=HBW.out;have h2:=HWL.out;omega)
             have HXP:Hid (X3 < BP):=hd (by have h1:=HNM.out.1;have h2:=HX3_10.out.lt;omega)
             go_wp2_with fail
             go_loopw [] (fun wr=>∃ (its:List Pn.It) (q:List Tk) (k:Nat) (u1 u2 u3 u4 u5:Value),Hid (LevAt w7.heap.size X3 (Pn.lev t3.text x5 its a1) u1 u2 u3 u4 u5 wr)∧Hid (Pp wr b q en)∧Hid (LInv (Pn.isw Pn.cClose) Pn.item O its q k)∧Hid (its.length+q.length≤r6.length)∧Hid (Chg [b,X3] w7 wr)) (fun wr=>leftP b wr)
             case atStart=>exact ⟨[],r6,r6.length+1,.slice none 0 0,.slice none 0 0,.slice none 0 0,.slice none 0 0,.slice none 0 0,hd ⟨HX3_11.out,ListS.nil _ _ _ _ _,ListS.nil _ _ _ _ _,ListS.nil _ _ _ _ _,ListS.nil _ _ _ _ _,ListS.nil _ _ _ _ _,fun k hk=>by simp[Value.ownBlock] at hk,HXL.out⟩,HP7,HLI0,hd (by simp),hd (Chg.refl _ _)⟩
             case round =>
              obtain ⟨its,q,k,u1,u2,u3,u4,u5,HLV,HPq,HLI,HQ,HCL⟩:=hrel
              obtain ⟨wo,hwn⟩:∃ x,x=wr:=⟨_,rfl⟩
              subst hwn
              obtain ⟨o1,m1,c1,rfl⟩:∃ o m c,u1 = .slice o m c:=by obtain ⟨a,c,e⟩:=HLV.out.l1.form;exact ⟨_,_,_,e⟩
              obtain ⟨o2,m2,c2,rfl⟩:∃ o m c,u2 = .slice o m c:=by obtain ⟨a,c,e⟩:=HLV.out.l2.form;exact ⟨_,_,_,e⟩
              obtain ⟨o3,m3,c3,rfl⟩:∃ o m c,u3 = .slice o m c:=by obtain ⟨a,c,e⟩:=HLV.out.l3.form;exact ⟨_,_,_,e⟩
              obtain ⟨o4,m4,c4,rfl⟩:∃ o m c,u4 = .slice o m c:=by obtain ⟨a,c,e⟩:=HLV.out.l4.form;exact ⟨_,_,_,e⟩
              obtain ⟨o5,m5,c5,rfl⟩:∃ o m c,u5 = .slice o m c:=by obtain ⟨a,c,e⟩:=HLV.out.l5.form;exact ⟨_,_,_,e⟩
              have HX3o:Hid (Blk wo X3 [.string ⟨t3.text.toArray⟩,.int .i64 (x5:Nat),.slice o1 m1 c1,.slice o2 m2 c2,.slice o3 m3 c3,.slice o4 m4 c4,.slice o5 m5 c5,.int .i64 (a1:Nat)] 61):=hd HLV.out.blk
              have HX2_12:=hd (HCL.out.blk HX2_11.out (by simp[NX2_b,NX2_X3]))
              have C12:=hd (C11.out.trans HCL.out (al2 (.inl (by simp)) (.inr (by have OX2_:=OX2.out;have OX3_:=OX3.out;show w.heap.size≤X3;omega))))
              go_wp2_with fail
              refine is_r (hd HPq.out) [125] (fun b8 r8 w8 HM8 HP8 HC8=>?_)
              have HX2_13:=hd (HC8.out.blk HX2_12.out (by simp[NX2_b]))
              have HX3_13:Hid (Blk w8 X3 [.string ⟨t3.text.toArray⟩,.int .i64 (x5:Nat),.slice o1 m1 c1,.slice o2 m2 c2,.slice o3 m3 c3,.slice o4 m4 c4,.slice o5 m5 c5,.int .i64 (a1:Nat)] 61):=hd (HC8.out.blk HX3o.out (by simp[NX3_b]))
              have C13:=hd (C12.out.trans HC8.out (al1 (.inl (by simp))))
              have HLV8:Hid (LevAt w7.heap.size X3 (Pn.lev t3.text x5 its a1) (.slice o1 m1 c1) (.slice o2 m2 c2) (.slice o3 m3 c3) (.slice o4 m4 c4) (.slice o5 m5 c5) w8):=hd (HLV.out.keep HC8.out (by have h1:=BX3.out;simp;omega) (fun z hz=>by simp at hz;rw[hz];exact HbL.out))
              cases b8 with
              | true =>
               have HOK:Hid (O = .ok its q):=hd (linv_stop HLI.out HM8.out.1)
               have HRT:Hid (q.tail=r8):=hd HM8.out.2
               have HO8:Hid (Pn.level l = .ok (Pn.lev t3.text x5 its a1) r8):=hd (by rw[HO6.out,HOB.out,HOK.out,← HRT.out];rfl)
               obtain ⟨cX3_0,cX3_1,cX3_2,cX3_3,cX3_4,cX3_5,cX3_6,cX3_7⟩:=HX3_13.out.c8
               obtain ⟨cX2_0,cX2_1,cX2_2,cX2_3,cX2_4,cX2_5,cX2_6,cX2_7⟩:=HX2_13.out.c8
               obtain ⟨cX2_f0,cX2_f1,cX2_f2,cX2_f3,cX2_f4,cX2_f5,cX2_f6,cX2_f7⟩:=HX2_13.out.f8
               go_wp2_with fail
               clear cX3_0 cX3_1 cX3_2 cX3_3 cX3_4 cX3_5 cX3_6 cX3_7 cX2_0 cX2_1 cX2_2 cX2_3 cX2_4 cX2_5 cX2_6 cX2_7 cX2_f0 cX2_f1 cX2_f2 cX2_f3 cX2_f4 cX2_f5 cX2_f6 cX2_f7
               obtain ⟨W14,hW⟩:∃ W,W=((((((((w8.setCell ⟨X2,0,none⟩ (.string ⟨t3.text.toArray⟩)).setCell ⟨X2,1,none⟩ (.int .i64 (x5:Nat))).setCell ⟨X2,2,none⟩ (.slice o1 m1 c1)).setCell ⟨X2,3,none⟩ (.slice o2 m2 c2)).setCell ⟨X2,4,none⟩ (.slice o3 m3 c3)).setCell ⟨X2,5,none⟩ (.slice o4 m4 c4)).setCell ⟨X2,6,none⟩ (.slice o5 m5 c5)).setCell ⟨X2,7,none⟩ (.int .i64 (a1:Nat))):=⟨_,rfl⟩
               rw[← hW]
               have HX2_14:Hid (Blk W14 X2 [.string ⟨t3.text.toArray⟩,.int .i64 (x5:Nat),.slice o1 m1 c1,.slice o2 m2 c2,.slice o3 m3 c3,.slice o4 m4 c4,.slice o5 m5 c5,.int .i64 (a1:Nat)] 61):=hd (by rw[hW];exact ((((((((HX2_13.out.set 0 (.string ⟨t3.text.toArray⟩)).set 1 (.int .i64 (x5:Nat))).set 2 (.slice o1 m1 c1)).set 3 (.slice o2 m2 c2)).set 4 (.slice o3 m3 c3)).set 5 (.slice o4 m4 c4)).set 6 (.slice o5 m5 c5)).set 7 (.int .i64 (a1:Nat))))
               have C14:=hd (C13.out.s8 hW (.inr (by have OX2_:=OX2.out;show w.heap.size≤X2;omega)))
               have Ko2_14:=hd ((Chg.refl [X2] w8).s8 hW (.inl (by simp)))
               have KP_14:=hd ((Chg.refl [X2,X3] w8).s8 hW (.inl (by simp)))
               clear hW
               (try simp only[Exit.inBlock,Exit.then])
               have HLF:Hid (LvL w.heap.size (Pn.lev t3.text x5 its a1) (.slice o1 m1 c1) (.slice o2 m2 c2) (.slice o3 m3 c3) (.slice o4 m4 c4) (.slice o5 m5 c5) W14):=hd ((HLV8.out.lists.keep Ko2_14.out (TyB.lower (by intro z hz;simp at hz;rw[hz];exact HX2L.out) _)).mono HWL.out)
               refine bodyPost_ret (results_cell_row rfl _ _ X2 61 #[.string ⟨t3.text.toArray⟩,.int .i64 (x5:Nat),.slice o1 m1 c1,.slice o2 m2 c2,.slice o3 m3 c3,.slice o4 m4 c4,.slice o5 m5 c5,.int .i64 (a1:Nat)] (0,0) _ rfl HX2_14.out Tryz.underlying61 rfl (by kernel_rfl)) rfl (pgood C14.out HO8.out ⟨_,_,_,_,_,rfl,HLF.out⟩ (HP8.out.keep KP_14.out (al2 BX2.out BX3.out)))
              | false =>
               have HRQ:Hid (r8=q):=hd HM8.out.2.symm
               have HP8q:Hid (Pp w8 b q en):=hd (by rw[← HRQ.out];exact HP8.out)
               have HSF:Hid (Pn.isw Pn.cClose q=false):=hd HM8.out.1
               go_wp2_with fail
               refine at_two (hd HP8q.out) (fun a9 r9 w9 HM9 HP9 HC9=>?_) (fun c r w9 HMb HCb=>?_)
               · skip
                 have C14:=hd (C13.out.trans HC9.out (al1 (.inl (by simp))))
                 have HLV9:Hid (LevAt w7.heap.size X3 (Pn.lev t3.text x5 its a1) (.slice o1 m1 c1) (.slice o2 m2 c2) (.slice o3 m3 c3) (.slice o4 m4 c4) (.slice o5 m5 c5) w9):=hd (HLV8.out.keep HC9.out (by have h1:=BX3.out;simp;omega) (fun z hz=>by simp at hz;rw[hz];exact HbL.out))
                 cases q with
                 | nil=>have h:=HM9.out;cases h
                 | cons t rr =>
                  have h9:=HM9.out
                  simp only[Pn.atO,Rl.Out.ok.injEq] at h9
                  obtain ⟨h9a,h9b⟩:=h9
                  have HA9:=hd h9a
                  have HP9q:Hid (Pp w9 b (t :: rr) en):=hd (by rw[h9b];exact HP9.out)
                  clear h9a h9b
                  go_upto_region 10 with fail
                  obtain ⟨n,i,g,off,cap,hi,hn,hb,hcap,hgb,⟨k0,k1,k2,k3⟩,-⟩:=HP9q.out.cons
                  have Z0:=hd (hb.cell (i:=0) rfl)
                  have Z1:=hd (hb.cell (i:=1) rfl)
                  have HK1:=hd k1
                  have n1:(0:Int)≤(i:Int):=by omega
                  have n2:(i:Int) < (n:Int):=by omega
                  clear hb k0 k1 k2 k3 hcap hgb
                  have NM:M ∉ [b,X3]:=by have h1:=HNM.out;have h2:=HXP.out;have h3:=BX3.out;simp;omega
                  have NP:BP ∉ [b,X3]:=by have h1:=HNM.out;have h2:=HXP.out;have h3:=BX3.out;simp;omega
                  have NL:BL ∉ [b,X3]:=by have h1:=HNM.out;have h2:=HXP.out;have h3:=BX3.out;simp;omega
                  have NMb:M ∉ [b]:=fun h=>NM (by simp at h;simp[h])
                  have NPb:BP ∉ [b]:=fun h=>NP (by simp at h;simp[h])
                  have NLb:BL ∉ [b]:=fun h=>NL (by simp at h;simp[h])
                  have HM99:Hid (MapB w9 M (itemE BL BP) 5):=hd (((HM.out.keep HCL.out NM).keep HC8.out NMb).keep HC9.out NMb)
                  have HBP9:Hid (Blk w9 BP [.pointer (some ⟨b,0,none⟩)] 88):=hd (HC9.out.blk (HC8.out.blk (HCL.out.blk HBP.out NP) NPb) NPb)
                  have HBL9:Hid (Blk w9 BL [.pointer (some ⟨X3,0,none⟩)] 134):=hd (HC9.out.blk (HC8.out.blk (HCL.out.blk HBL.out NL) NLb) NLb)
                  obtain ⟨kc,hkc⟩:∃ k,Rl.codeIn Pn.sortsL 1 t.text=k:=⟨_,rfl⟩
                  have HKC:=hd hkc
                  obtain ⟨f,hf⟩:∃ f,itemF BL BP kc=f:=⟨_,rfl⟩
                  have HF:=hd hf
                  have HLK:Hid (∀ W,Chg [] w9 W→(Instr.lookup 132 (.map (some M)) (.string ⟨t.text.toArray⟩) false).run Tryz.prog W = .ok f W):=hd (fun W h=>by rw[← hf,← hkc];exact look_items (HM99.out.keep h (by simp)) t.text)
                  have HIT:Hid (Pn.item (t :: rr)=if kc=0 then .bad 4 (t :: rr) else Pn.itemK kc t.at_ rr):=hd (by rw[Pn.item_cons,hkc])
                  clear hf hkc NM NP NL NMb NPb NLb
                  refine wp_region_held_drew (S:=fun W'=>Chg [] w9 W') (by kernel_rfl) (Chg.refl _ _).drew (fun hHeld=>?_)
                  refine tq 0 ?_
                  refine tq 1 ?_
                  refine tq 2 ?_
                  refine tq 3 ?_
                  refine tq1 4 (fun w9 hSw=>cell_quiet hSw Z0.out (by simp)) ?_
                  refine tq 5 ?_
                  refine tq 6 ?_
                  refine tq 7 ?_
                  refine tq1 8 (fun w9 hSw=>cell_quiet hSw Z1.out (by simp)) ?_
                  refine tq 9 ?_
                  refine tq 10 ?_
                  refine tq1 11 (fun w9 hSw=>cell_quiet hSw HK1.out (by simp)) ?_
                  refine tq1 12 (fun w9 hSw=>HLK.out w9 hSw) ?_
                  refine tq 13 ?_
                  refine dq ?_
                  clear hHeld n1 n2
                  obtain ⟨wz,hwz⟩:∃ W,W=w9.drew:=⟨_,rfl⟩
                  rw[← hwz]
                  have HCz:Hid (Chg [] w9 wz):=hd (by rw[hwz];exact (Chg.refl _ _).drew)
                  clear hwz hi hn
                  have C15:=hd (C14.out.trans HCz.out (by simp))
                  have HPz:Hid (Pp wz b (t :: rr) en):=hd (Pp.quiet HP9q.out HCz.out)
                  have HLVz:Hid (LevAt w7.heap.size X3 (Pn.lev t3.text x5 its a1) (.slice o1 m1 c1) (.slice o2 m2 c2) (.slice o3 m3 c3) (.slice o4 m4 c4) (.slice o5 m5 c5) wz):=hd (HLV9.out.keep HCz.out (by simp) (by simp))
                  have HCLz:Hid (Chg [b,X3] w7 wz):=hd (((HCL.out.trans HC8.out (fun k hk=>.inl (by simp at hk;simp[hk]))).trans HC9.out (fun k hk=>.inl (by simp at hk;simp[hk]))).trans HCz.out (by simp))
                  by_cases hk1:kc=1
                  · obtain rfl:f = .func (.func 72) #[] #[.pointer (some ⟨BL,0,none⟩),.pointer (some ⟨BP,0,none⟩)]:=by rw[← HF.out,hk1];rfl
                    have HITK:Hid (Pn.item (t :: rr)=(Pn.block a9 rr).bind fun z r=>.ok (.block z) r):=hd (by rw[HIT.out,hk1,HA9.out];rfl)
                    clear hk1
                    obtain ⟨n2,i2,g2,o2',cap2,hi2,hn2,hb2,hcap2,hgb2,-,hstep2⟩:=HPz.out.cons
                    have HB2':=hd hb2
                    have HST2:=hd hstep2
                    have z1:=hb2.cell (i:=1) rfl
                    have zf1:=hb2.free 1
                    clear hb2 hstep2 hcap2 hgb2
                    have hfe:=func_eq
                    go_upto_region 14 with fail
                    clear z1 zf1 hfe
                    obtain ⟨wn,hW⟩:∃ W,W=wz.setCell ⟨b,1,none⟩ (.int .i64 ((i2:Int)+1)):=⟨_,rfl⟩
                    rw[← hW]
                    have HCn:Hid (Chg [b] wz wn):=hd (by rw[hW];exact (Chg.refl _ _).setCell _ _ (.inl (by simp)))
                    have HPn:Hid (Pp wn b rr en):=hd (HST2.out _ HCn.out (by rw[hW];exact HB2'.out.set 1 _))
                    clear hW
                    have HLVn:Hid (LevAt w7.heap.size X3 (Pn.lev t3.text x5 its a1) (.slice o1 m1 c1) (.slice o2 m2 c2) (.slice o3 m3 c3) (.slice o4 m4 c4) (.slice o5 m5 c5) wn):=hd (HLVz.out.keep HCn.out (by have h1:=BX3.out;simp;omega) (fun z hz=>by simp at hz;rw[hz];exact HbL.out))
                    have HBPn:Hid (Blk wn BP [.pointer (some ⟨b,0,none⟩)] 88):=hd (HCn.out.blk (HCz.out.blk HBP9.out (by simp)) (by have h1:=HXP.out;have h2:=BX3.out;simp;omega))
                    have HBLn:Hid (Blk wn BL [.pointer (some ⟨X3,0,none⟩)] 134):=hd (HCn.out.blk (HCz.out.blk HBL9.out (by simp)) (by have h1:=HXP.out;have h2:=BX3.out;have h3:=HNM.out;simp;omega))
                    have HCLn:=hd (HCLz.out.trans HCn.out (fun k hk=>.inl (by simp at hk;simp[hk])))
                    have HNN:Hid (b < X3∧X3 < BP∧BP < BL∧BL < w7.heap.size∧w7.heap.size≤wn.heap.size):=hd ⟨BX3.out,HXP.out,HNM.out.2.1,HBL.out.lt,HCLn.out.size⟩
                    have HSS:Hid ((Pn.lev t3.text x5 its a1).blocks.length≤1000000):=hd (by have h1:=Pn.lev_len t3.text x5 its a1;have h2:=HQ.out;have h3:=HRL.out;omega)
                    go_wp2_with fail
                    refine (it1_spec wn b en BL BP X3 w7.heap.size rr (Pn.lev t3.text x5 its a1) _ _ _ _ _ HPn HLVn HBLn HBPn HNN HSS a9).mono ?_
                    rintro e w' (⟨x,r,v,rfl,h1,h2,h3,h4⟩|⟨c,r,rfl,h1,h2⟩)
                    · have HX1:=hd h1
                      have HX2:=hd h2
                      have HX3':=hd h3
                      have HX4:=hd (h4 w7 (Nat.le_refl _) HCLn.out)
                      clear h1 h2 h3 h4
                      have HIO:Hid (Pn.item (t :: rr) = .ok (.block x) r):=hd (by rw[HITK.out,HX1.out];rfl)
                      have HLVw:Hid (LevAt w7.heap.size X3 (Pn.lev t3.text x5 (its++[.block x]) a1) v (.slice o2 m2 c2) (.slice o3 m3 c3) (.slice o4 m4 c4) (.slice o5 m5 c5) w'):=hd (by rw[Pn.lev_block];exact HX3'.out)
                      have hel:=Pn.eat_item _ _ _ HIO.out
                      have HMU:Hid (leftP b w' < leftP b wo):=hd (by rw[left_pp HX2.out,left_pp HPq.out];simp at hel ⊢;omega)
                      have HQ9:Hid ((its++[Pn.It.block x]).length+r.length≤r6.length):=hd (by have h2:=HQ.out;simp at hel h2 ⊢;omega)
                      clear hel
                      go_wp2_with fail
                      refine ⟨?_,HMU.out⟩
                      first|exact ⟨its++[.block x],r,k - 1,v,.slice o2 m2 c2,.slice o3 m3 c3,.slice o4 m4 c4,.slice o5 m5 c5,HLVw,HX2,hd (linv_step HLI.out HSF.out Pn.eat_item HIO.out),HQ9,HX4⟩|((repeat apply Exists.intro);exact ⟨⟨its++[.block x],r,k - 1,v,.slice o2 m2 c2,.slice o3 m3 c3,.slice o4 m4 c4,.slice o5 m5 c5,HLVw,HX2,hd (linv_step HLI.out HSF.out Pn.eat_item HIO.out),HQ9,HX4⟩,rfl⟩)
                    have HX1:=hd h1
                    exact mPnPR0
                  by_cases hk2:kc=2
                  · obtain rfl:f = .func (.func 74) #[] #[.pointer (some ⟨BP,0,none⟩),.pointer (some ⟨BL,0,none⟩)]:=by rw[← HF.out,hk2];rfl
                    have HITK:Hid (Pn.item (t :: rr)=(Pn.area a9 rr).bind fun z r=>.ok (.area z) r):=hd (by rw[HIT.out,hk2,HA9.out];rfl)
                    clear hk2
                    obtain ⟨n2,i2,g2,o2',cap2,hi2,hn2,hb2,hcap2,hgb2,-,hstep2⟩:=HPz.out.cons
                    have HB2':=hd hb2
                    have HST2:=hd hstep2
                    have z1:=hb2.cell (i:=1) rfl
                    have zf1:=hb2.free 1
                    clear hb2 hstep2 hcap2 hgb2
                    have hfe:=func_eq
                    go_upto_region 14 with fail
                    clear z1 zf1 hfe
                    obtain ⟨wn,hW⟩:∃ W,W=wz.setCell ⟨b,1,none⟩ (.int .i64 ((i2:Int)+1)):=⟨_,rfl⟩
                    rw[← hW]
                    have HCn:Hid (Chg [b] wz wn):=hd (by rw[hW];exact (Chg.refl _ _).setCell _ _ (.inl (by simp)))
                    have HPn:Hid (Pp wn b rr en):=hd (HST2.out _ HCn.out (by rw[hW];exact HB2'.out.set 1 _))
                    clear hW
                    have HLVn:Hid (LevAt w7.heap.size X3 (Pn.lev t3.text x5 its a1) (.slice o1 m1 c1) (.slice o2 m2 c2) (.slice o3 m3 c3) (.slice o4 m4 c4) (.slice o5 m5 c5) wn):=hd (HLVz.out.keep HCn.out (by have h1:=BX3.out;simp;omega) (fun z hz=>by simp at hz;rw[hz];exact HbL.out))
                    have HBPn:Hid (Blk wn BP [.pointer (some ⟨b,0,none⟩)] 88):=hd (HCn.out.blk (HCz.out.blk HBP9.out (by simp)) (by have h1:=HXP.out;have h2:=BX3.out;simp;omega))
                    have HBLn:Hid (Blk wn BL [.pointer (some ⟨X3,0,none⟩)] 134):=hd (HCn.out.blk (HCz.out.blk HBL9.out (by simp)) (by have h1:=HXP.out;have h2:=BX3.out;have h3:=HNM.out;simp;omega))
                    have HCLn:=hd (HCLz.out.trans HCn.out (fun k hk=>.inl (by simp at hk;simp[hk])))
                    have HNN:Hid (b < X3∧X3 < BP∧BP < BL∧BL < w7.heap.size∧w7.heap.size≤wn.heap.size):=hd ⟨BX3.out,HXP.out,HNM.out.2.1,HBL.out.lt,HCLn.out.size⟩
                    have HSS:Hid ((Pn.lev t3.text x5 its a1).areas.length≤1000000):=hd (by have h1:=Pn.lev_len t3.text x5 its a1;have h2:=HQ.out;have h3:=HRL.out;omega)
                    go_wp2_with fail
                    refine (it2_spec wn b en BL BP X3 w7.heap.size rr (Pn.lev t3.text x5 its a1) _ _ _ _ _ HPn HLVn HBLn HBPn HNN HSS a9).mono ?_
                    rintro e w' (⟨x,r,v,rfl,h1,h2,h3,h4⟩|⟨c,r,rfl,h1,h2⟩)
                    · have HX1:=hd h1
                      have HX2:=hd h2
                      have HX3':=hd h3
                      have HX4:=hd (h4 w7 (Nat.le_refl _) HCLn.out)
                      clear h1 h2 h3 h4
                      have HIO:Hid (Pn.item (t :: rr) = .ok (.area x) r):=hd (by rw[HITK.out,HX1.out];rfl)
                      have HLVw:Hid (LevAt w7.heap.size X3 (Pn.lev t3.text x5 (its++[.area x]) a1) (.slice o1 m1 c1) v (.slice o3 m3 c3) (.slice o4 m4 c4) (.slice o5 m5 c5) w'):=hd (by rw[Pn.lev_area];exact HX3'.out)
                      have hel:=Pn.eat_item _ _ _ HIO.out
                      have HMU:Hid (leftP b w' < leftP b wo):=hd (by rw[left_pp HX2.out,left_pp HPq.out];simp at hel ⊢;omega)
                      have HQ9:Hid ((its++[Pn.It.area x]).length+r.length≤r6.length):=hd (by have h2:=HQ.out;simp at hel h2 ⊢;omega)
                      clear hel
                      go_wp2_with fail
                      refine ⟨?_,HMU.out⟩
                      first|exact ⟨its++[.area x],r,k - 1,.slice o1 m1 c1,v,.slice o3 m3 c3,.slice o4 m4 c4,.slice o5 m5 c5,HLVw,HX2,hd (linv_step HLI.out HSF.out Pn.eat_item HIO.out),HQ9,HX4⟩|((repeat apply Exists.intro);exact ⟨⟨its++[.area x],r,k - 1,.slice o1 m1 c1,v,.slice o3 m3 c3,.slice o4 m4 c4,.slice o5 m5 c5,HLVw,HX2,hd (linv_step HLI.out HSF.out Pn.eat_item HIO.out),HQ9,HX4⟩,rfl⟩)
                    have HX1:=hd h1
                    exact mPnPR0
                  by_cases hk3:kc=3
                  · obtain rfl:f = .func (.func 76) #[] #[.pointer (some ⟨BL,0,none⟩),.pointer (some ⟨BP,0,none⟩)]:=by rw[← HF.out,hk3];rfl
                    have HITK:Hid (Pn.item (t :: rr)=(Pn.boxS rr).bind fun z r=>.ok (.aisle z) r):=hd (by rw[HIT.out,hk3,HA9.out];rfl)
                    clear hk3
                    obtain ⟨n2,i2,g2,o2',cap2,hi2,hn2,hb2,hcap2,hgb2,-,hstep2⟩:=HPz.out.cons
                    have HB2':=hd hb2
                    have HST2:=hd hstep2
                    have z1:=hb2.cell (i:=1) rfl
                    have zf1:=hb2.free 1
                    clear hb2 hstep2 hcap2 hgb2
                    have hfe:=func_eq
                    go_upto_region 14 with fail
                    clear z1 zf1 hfe
                    obtain ⟨wn,hW⟩:∃ W,W=wz.setCell ⟨b,1,none⟩ (.int .i64 ((i2:Int)+1)):=⟨_,rfl⟩
                    rw[← hW]
                    have HCn:Hid (Chg [b] wz wn):=hd (by rw[hW];exact (Chg.refl _ _).setCell _ _ (.inl (by simp)))
                    have HPn:Hid (Pp wn b rr en):=hd (HST2.out _ HCn.out (by rw[hW];exact HB2'.out.set 1 _))
                    clear hW
                    have HLVn:Hid (LevAt w7.heap.size X3 (Pn.lev t3.text x5 its a1) (.slice o1 m1 c1) (.slice o2 m2 c2) (.slice o3 m3 c3) (.slice o4 m4 c4) (.slice o5 m5 c5) wn):=hd (HLVz.out.keep HCn.out (by have h1:=BX3.out;simp;omega) (fun z hz=>by simp at hz;rw[hz];exact HbL.out))
                    have HBPn:Hid (Blk wn BP [.pointer (some ⟨b,0,none⟩)] 88):=hd (HCn.out.blk (HCz.out.blk HBP9.out (by simp)) (by have h1:=HXP.out;have h2:=BX3.out;simp;omega))
                    have HBLn:Hid (Blk wn BL [.pointer (some ⟨X3,0,none⟩)] 134):=hd (HCn.out.blk (HCz.out.blk HBL9.out (by simp)) (by have h1:=HXP.out;have h2:=BX3.out;have h3:=HNM.out;simp;omega))
                    have HCLn:=hd (HCLz.out.trans HCn.out (fun k hk=>.inl (by simp at hk;simp[hk])))
                    have HNN:Hid (b < X3∧X3 < BP∧BP < BL∧BL < w7.heap.size∧w7.heap.size≤wn.heap.size):=hd ⟨BX3.out,HXP.out,HNM.out.2.1,HBL.out.lt,HCLn.out.size⟩
                    have HSS:Hid ((Pn.lev t3.text x5 its a1).aisles.length≤1000000):=hd (by have h1:=Pn.lev_len t3.text x5 its a1;have h2:=HQ.out;have h3:=HRL.out;omega)
                    go_wp2_with fail
                    refine (it3_spec wn b en BL BP X3 w7.heap.size rr (Pn.lev t3.text x5 its a1) _ _ _ _ _ HPn HLVn HBLn HBPn HNN HSS a9).mono ?_
                    rintro e w' (⟨x,r,v,rfl,h1,h2,h3,h4⟩|⟨c,r,rfl,h1,h2⟩)
                    · have HX1:=hd h1
                      have HX2:=hd h2
                      have HX3':=hd h3
                      have HX4:=hd (h4 w7 (Nat.le_refl _) HCLn.out)
                      clear h1 h2 h3 h4
                      have HIO:Hid (Pn.item (t :: rr) = .ok (.aisle x) r):=hd (by rw[HITK.out,HX1.out];rfl)
                      have HLVw:Hid (LevAt w7.heap.size X3 (Pn.lev t3.text x5 (its++[.aisle x]) a1) (.slice o1 m1 c1) (.slice o2 m2 c2) v (.slice o4 m4 c4) (.slice o5 m5 c5) w'):=hd (by rw[Pn.lev_aisle];exact HX3'.out)
                      have hel:=Pn.eat_item _ _ _ HIO.out
                      have HMU:Hid (leftP b w' < leftP b wo):=hd (by rw[left_pp HX2.out,left_pp HPq.out];simp at hel ⊢;omega)
                      have HQ9:Hid ((its++[Pn.It.aisle x]).length+r.length≤r6.length):=hd (by have h2:=HQ.out;simp at hel h2 ⊢;omega)
                      clear hel
                      go_wp2_with fail
                      refine ⟨?_,HMU.out⟩
                      first|exact ⟨its++[.aisle x],r,k - 1,.slice o1 m1 c1,.slice o2 m2 c2,v,.slice o4 m4 c4,.slice o5 m5 c5,HLVw,HX2,hd (linv_step HLI.out HSF.out Pn.eat_item HIO.out),HQ9,HX4⟩|((repeat apply Exists.intro);exact ⟨⟨its++[.aisle x],r,k - 1,.slice o1 m1 c1,.slice o2 m2 c2,v,.slice o4 m4 c4,.slice o5 m5 c5,HLVw,HX2,hd (linv_step HLI.out HSF.out Pn.eat_item HIO.out),HQ9,HX4⟩,rfl⟩)
                    have HX1:=hd h1
                    exact mPnPR0
                  by_cases hk4:kc=4
                  · obtain rfl:f = .func (.func 77) #[] #[.pointer (some ⟨BL,0,none⟩),.pointer (some ⟨BP,0,none⟩)]:=by rw[← HF.out,hk4];rfl
                    have HITK:Hid (Pn.item (t :: rr)=(Pn.boxS rr).bind fun z r=>.ok (.pillar z) r):=hd (by rw[HIT.out,hk4,HA9.out];rfl)
                    clear hk4
                    obtain ⟨n2,i2,g2,o2',cap2,hi2,hn2,hb2,hcap2,hgb2,-,hstep2⟩:=HPz.out.cons
                    have HB2':=hd hb2
                    have HST2:=hd hstep2
                    have z1:=hb2.cell (i:=1) rfl
                    have zf1:=hb2.free 1
                    clear hb2 hstep2 hcap2 hgb2
                    have hfe:=func_eq
                    go_upto_region 14 with fail
                    clear z1 zf1 hfe
                    obtain ⟨wn,hW⟩:∃ W,W=wz.setCell ⟨b,1,none⟩ (.int .i64 ((i2:Int)+1)):=⟨_,rfl⟩
                    rw[← hW]
                    have HCn:Hid (Chg [b] wz wn):=hd (by rw[hW];exact (Chg.refl _ _).setCell _ _ (.inl (by simp)))
                    have HPn:Hid (Pp wn b rr en):=hd (HST2.out _ HCn.out (by rw[hW];exact HB2'.out.set 1 _))
                    clear hW
                    have HLVn:Hid (LevAt w7.heap.size X3 (Pn.lev t3.text x5 its a1) (.slice o1 m1 c1) (.slice o2 m2 c2) (.slice o3 m3 c3) (.slice o4 m4 c4) (.slice o5 m5 c5) wn):=hd (HLVz.out.keep HCn.out (by have h1:=BX3.out;simp;omega) (fun z hz=>by simp at hz;rw[hz];exact HbL.out))
                    have HBPn:Hid (Blk wn BP [.pointer (some ⟨b,0,none⟩)] 88):=hd (HCn.out.blk (HCz.out.blk HBP9.out (by simp)) (by have h1:=HXP.out;have h2:=BX3.out;simp;omega))
                    have HBLn:Hid (Blk wn BL [.pointer (some ⟨X3,0,none⟩)] 134):=hd (HCn.out.blk (HCz.out.blk HBL9.out (by simp)) (by have h1:=HXP.out;have h2:=BX3.out;have h3:=HNM.out;simp;omega))
                    have HCLn:=hd (HCLz.out.trans HCn.out (fun k hk=>.inl (by simp at hk;simp[hk])))
                    have HNN:Hid (b < X3∧X3 < BP∧BP < BL∧BL < w7.heap.size∧w7.heap.size≤wn.heap.size):=hd ⟨BX3.out,HXP.out,HNM.out.2.1,HBL.out.lt,HCLn.out.size⟩
                    have HSS:Hid ((Pn.lev t3.text x5 its a1).pillars.length≤1000000):=hd (by have h1:=Pn.lev_len t3.text x5 its a1;have h2:=HQ.out;have h3:=HRL.out;omega)
                    go_wp2_with fail
                    refine (it4_spec wn b en BL BP X3 w7.heap.size rr (Pn.lev t3.text x5 its a1) _ _ _ _ _ HPn HLVn HBLn HBPn HNN HSS a9).mono ?_
                    rintro e w' (⟨x,r,v,rfl,h1,h2,h3,h4⟩|⟨c,r,rfl,h1,h2⟩)
                    · have HX1:=hd h1
                      have HX2:=hd h2
                      have HX3':=hd h3
                      have HX4:=hd (h4 w7 (Nat.le_refl _) HCLn.out)
                      clear h1 h2 h3 h4
                      have HIO:Hid (Pn.item (t :: rr) = .ok (.pillar x) r):=hd (by rw[HITK.out,HX1.out];rfl)
                      have HLVw:Hid (LevAt w7.heap.size X3 (Pn.lev t3.text x5 (its++[.pillar x]) a1) (.slice o1 m1 c1) (.slice o2 m2 c2) (.slice o3 m3 c3) v (.slice o5 m5 c5) w'):=hd (by rw[Pn.lev_pillar];exact HX3'.out)
                      have hel:=Pn.eat_item _ _ _ HIO.out
                      have HMU:Hid (leftP b w' < leftP b wo):=hd (by rw[left_pp HX2.out,left_pp HPq.out];simp at hel ⊢;omega)
                      have HQ9:Hid ((its++[Pn.It.pillar x]).length+r.length≤r6.length):=hd (by have h2:=HQ.out;simp at hel h2 ⊢;omega)
                      clear hel
                      go_wp2_with fail
                      refine ⟨?_,HMU.out⟩
                      first|exact ⟨its++[.pillar x],r,k - 1,.slice o1 m1 c1,.slice o2 m2 c2,.slice o3 m3 c3,v,.slice o5 m5 c5,HLVw,HX2,hd (linv_step HLI.out HSF.out Pn.eat_item HIO.out),HQ9,HX4⟩|((repeat apply Exists.intro);exact ⟨⟨its++[.pillar x],r,k - 1,.slice o1 m1 c1,.slice o2 m2 c2,.slice o3 m3 c3,v,.slice o5 m5 c5,HLVw,HX2,hd (linv_step HLI.out HSF.out Pn.eat_item HIO.out),HQ9,HX4⟩,rfl⟩)
                    have HX1:=hd h1
                    exact mPnPR0
                  by_cases hk5:kc=5
                  · obtain rfl:f = .func (.func 78) #[] #[.pointer (some ⟨BP,0,none⟩),.pointer (some ⟨BL,0,none⟩)]:=by rw[← HF.out,hk5];rfl
                    have HITK:Hid (Pn.item (t :: rr)=(Pn.door rr).bind fun z r=>.ok (.door z) r):=hd (by rw[HIT.out,hk5,HA9.out];rfl)
                    clear hk5
                    obtain ⟨n2,i2,g2,o2',cap2,hi2,hn2,hb2,hcap2,hgb2,-,hstep2⟩:=HPz.out.cons
                    have HB2':=hd hb2
                    have HST2:=hd hstep2
                    have z1:=hb2.cell (i:=1) rfl
                    have zf1:=hb2.free 1
                    clear hb2 hstep2 hcap2 hgb2
                    have hfe:=func_eq
                    go_upto_region 14 with fail
                    clear z1 zf1 hfe
                    obtain ⟨wn,hW⟩:∃ W,W=wz.setCell ⟨b,1,none⟩ (.int .i64 ((i2:Int)+1)):=⟨_,rfl⟩
                    rw[← hW]
                    have HCn:Hid (Chg [b] wz wn):=hd (by rw[hW];exact (Chg.refl _ _).setCell _ _ (.inl (by simp)))
                    have HPn:Hid (Pp wn b rr en):=hd (HST2.out _ HCn.out (by rw[hW];exact HB2'.out.set 1 _))
                    clear hW
                    have HLVn:Hid (LevAt w7.heap.size X3 (Pn.lev t3.text x5 its a1) (.slice o1 m1 c1) (.slice o2 m2 c2) (.slice o3 m3 c3) (.slice o4 m4 c4) (.slice o5 m5 c5) wn):=hd (HLVz.out.keep HCn.out (by have h1:=BX3.out;simp;omega) (fun z hz=>by simp at hz;rw[hz];exact HbL.out))
                    have HBPn:Hid (Blk wn BP [.pointer (some ⟨b,0,none⟩)] 88):=hd (HCn.out.blk (HCz.out.blk HBP9.out (by simp)) (by have h1:=HXP.out;have h2:=BX3.out;simp;omega))
                    have HBLn:Hid (Blk wn BL [.pointer (some ⟨X3,0,none⟩)] 134):=hd (HCn.out.blk (HCz.out.blk HBL9.out (by simp)) (by have h1:=HXP.out;have h2:=BX3.out;have h3:=HNM.out;simp;omega))
                    have HCLn:=hd (HCLz.out.trans HCn.out (fun k hk=>.inl (by simp at hk;simp[hk])))
                    have HNN:Hid (b < X3∧X3 < BP∧BP < BL∧BL < w7.heap.size∧w7.heap.size≤wn.heap.size):=hd ⟨BX3.out,HXP.out,HNM.out.2.1,HBL.out.lt,HCLn.out.size⟩
                    have HSS:Hid ((Pn.lev t3.text x5 its a1).doors.length≤1000000):=hd (by have h1:=Pn.lev_len t3.text x5 its a1;have h2:=HQ.out;have h3:=HRL.out;omega)
                    go_wp2_with fail
                    refine (it5_spec wn b en BL BP X3 w7.heap.size rr (Pn.lev t3.text x5 its a1) _ _ _ _ _ HPn HLVn HBLn HBPn HNN HSS a9).mono ?_
                    rintro e w' (⟨x,r,v,rfl,h1,h2,h3,h4⟩|⟨c,r,rfl,h1,h2⟩)
                    · have HX1:=hd h1
                      have HX2:=hd h2
                      have HX3':=hd h3
                      have HX4:=hd (h4 w7 (Nat.le_refl _) HCLn.out)
                      clear h1 h2 h3 h4
                      have HIO:Hid (Pn.item (t :: rr) = .ok (.door x) r):=hd (by rw[HITK.out,HX1.out];rfl)
                      have HLVw:Hid (LevAt w7.heap.size X3 (Pn.lev t3.text x5 (its++[.door x]) a1) (.slice o1 m1 c1) (.slice o2 m2 c2) (.slice o3 m3 c3) (.slice o4 m4 c4) v w'):=hd (by rw[Pn.lev_door];exact HX3'.out)
                      have hel:=Pn.eat_item _ _ _ HIO.out
                      have HMU:Hid (leftP b w' < leftP b wo):=hd (by rw[left_pp HX2.out,left_pp HPq.out];simp at hel ⊢;omega)
                      have HQ9:Hid ((its++[Pn.It.door x]).length+r.length≤r6.length):=hd (by have h2:=HQ.out;simp at hel h2 ⊢;omega)
                      clear hel
                      go_wp2_with fail
                      refine ⟨?_,HMU.out⟩
                      first|exact ⟨its++[.door x],r,k - 1,.slice o1 m1 c1,.slice o2 m2 c2,.slice o3 m3 c3,.slice o4 m4 c4,v,HLVw,HX2,hd (linv_step HLI.out HSF.out Pn.eat_item HIO.out),HQ9,HX4⟩|((repeat apply Exists.intro);exact ⟨⟨its++[.door x],r,k - 1,.slice o1 m1 c1,.slice o2 m2 c2,.slice o3 m3 c3,.slice o4 m4 c4,v,HLVw,HX2,hd (linv_step HLI.out HSF.out Pn.eat_item HIO.out),HQ9,HX4⟩,rfl⟩)
                    have HX1:=hd h1
                    exact mPnPR0
                  have h0:kc=0:=by have h1:=sorts_le t.text;rw[HKC.out] at h1;omega
                  obtain rfl:f = .nilFunc:=by rw[← HF.out,h0];rfl
                  have HI0:Hid (Pn.item (t :: rr) = .bad 4 (t :: rr)):=hd (by rw[HIT.out,if_pos h0])
                  clear h0 hk1 hk2 hk3 hk4 hk5
                  have hfn:=func_nil
                  go_wp2_with fail
                  clear hfn
                  refine fail_r (hd HPz.out) (fun w' HCb0=>?_)
                  go_wp2_with fail
                  have HCb:Hid (Chg [b] wz w'):=hd (HCb0.out.mono (by simp))
                  exact ⟨rfl,pbad (C15.out.trans HCb.out (al1 (.inl (by simp)))) (bad5 HO6.out (by rw[HOB.out,linv_bad HLI.out HSF.out HI0.out];rfl))⟩
               go_wp2_with fail
               exact ⟨rfl,(pbad (C13.out.trans HCb.out (al1 (.inl (by simp)))) (bad5 HO6.out (by rw[HOB.out,linv_bad HLI.out HSF.out (show Pn.item q = .bad c r by unfold Pn.item;rw[HMb.out];rfl)];rfl)))⟩
           go_wp2_with fail
           exact ⟨rfl,(pbad (C9.out.trans HCb.out (al1 (.inl (by simp)))) (bad5 HO5.out HMb.out))⟩
         go_wp2_with fail
         exact ⟨rfl,(pbad (C8.out.trans HCb.out (al2 (.inl (by simp)) (.inr (by have OX2_:=OX2.out;have OX3_:=OX3.out;show w.heap.size≤X3;omega)))) (bad5 HO4.out HMb.out))⟩
       go_wp2_with fail
       exact ⟨rfl,(pbad (C6.out.trans HCb.out (al1 (.inl (by simp)))) (bad5 HO3.out HMb.out))⟩
     go_wp2_with fail
     exact ⟨rfl,(pbad (C4.out.trans HCb.out (al1 (.inl (by simp)))) (bad5 HO2.out (name_bad HMb.out)))⟩
   go_wp2_with fail
   exact ⟨rfl,(pbad (C3.out.trans HCb.out (al1 (.inl (by simp)))) (bad5 HO1.out HMb.out))⟩
 go_wp2_with fail
 exact ⟨rfl,(pbad (C1.out.trans HCb.out (al1 (.inl (by simp)))) (bad5 HO.out HMb.out))⟩
end Go.Proofs.YtglepipfdmphhaaGreatDoor
namespace Go.Proofs.YtglepipfdmphhaaGreatDoor
set_option linter.unusedVariables false
set_option linter.unusedSimpArgs false
open Go Go.RowKit Go.Shelf
open Lx (Tk)
attribute [local irreducible] Go.wpStill
theorem assert_fault (c p:Int) (w:World):(Instr.typeAssert (.iface 87 (.agg #[.int .i64 c,.int .i64 p])) 20 87 false).run Tryz.prog w = .ok (.agg #[.int .i64 c,.int .i64 p]) w:=by kernel_rfl
theorem catch_idle (b2 b3 b4:Nat) (w:World) :
 CallsD Tryz.prog 21 #[.pointer (some ⟨b2,0,none⟩),.pointer (some ⟨b3,0,none⟩),.pointer (some ⟨b4,0,none⟩)] .returning w fun e u' w'=>e = .returned (.tuple #[])∧u' = .returning∧w'=w:=by
 refine callsD_of_wpS Tryz.func21 rfl fun c₀ cs hu=>?_
 apply wpS_seq
 apply wpS_region
 simp[wpOpsS,go_sem,recoverD,hu,Tryz.ntmps21,Exit.thenS]
 refine wpS_of_wp ?_
 simp only[List.size_toArray,List.length_cons,List.length_nil,Nat.reduceAdd,Nat.reduceSub,Array.replicate_succ,
  Array.replicate_zero,List.push_toArray,List.append_toArray,List.nil_append,List.cons_append,List.setIfInBounds_toArray,List.set_cons_zero,List.set_cons_succ]
 go_wp2_with fail
 cases c₀
 simp_all [bodyPostS,results,Tryz.results21]
theorem catch_pan (b2 b3 b4 c p:Nat) (w:World) (y0 y1 y2 y3:Value) (v3 v4:Int) (h2:Blk w b2 [y0,y1,y2,y3] 26) (h3:Blk w b3 [.int .i64 v3] 29) (h4:Blk w b4 [.int .i64 v4] 3) (hn:b2 < b3∧b3 < b4) (older:List PanicEntry) :
 CallsD Tryz.prog 21 #[.pointer (some ⟨b2,0,none⟩),.pointer (some ⟨b3,0,none⟩),.pointer (some ⟨b4,0,none⟩)] (.panicking ({ v:=.iface 87 (.agg #[.int .i64 (c:Int),.int .i64 (p:Int)]),recovered:=false } :: older)) w fun e u' w' =>
  e = .returned (.tuple #[])∧u' = .panicking ({ v:=.iface 87 (.agg #[.int .i64 (c:Int),.int .i64 (p:Int)]),recovered:=true } :: older)∧Blk w' b2 [.string ⟨#[]⟩,.int .i64 0,.int .i64 0,.slice none 0 0] 26∧Blk w' b3 [.int .i64 (c:Int)] 29∧Blk w' b4 [.int .i64 (p:Int)] 3∧Chg [b2,b3,b4] w w':=by
 refine callsD_of_wpS Tryz.func21 rfl fun c₀ cs hu=>?_
 have hta:=assert_fault c p
 apply wpS_seq
 apply wpS_region
 simp[wpOpsS,go_sem,recoverD,hu,Tryz.ntmps21,Exit.thenS]
 refine wpS_of_wp ?_
 simp only[List.size_toArray,List.length_cons,List.length_nil,Nat.reduceAdd,Nat.reduceSub,Array.replicate_succ,
  Array.replicate_zero,List.push_toArray,List.append_toArray,List.nil_append,List.cons_append,List.setIfInBounds_toArray,List.set_cons_zero,List.set_cons_succ]
 go_wp2_with fail
 obtain ⟨W,hW⟩:∃ W,W=w.alloc (.cells #[.int .i64 (c:Int),.int .i64 (p:Int)] 87):=⟨_,rfl⟩
 obtain ⟨D,hD⟩:∃ D,D=w.heap.size:=⟨_,rfl⟩
 rw[← hW,← hD]
 have HKD:=newB hW hD
 have HC0:Hid (Chg [b2,b3,b4] w W):=hd (by rw[hW];exact (Chg.refl _ _).alloc _)
 have H2:Hid (Blk W b2 [y0,y1,y2,y3] 26):=hd (by rw[hW];exact h2.alloc _)
 have H3:Hid (Blk W b3 [.int .i64 v3] 29):=hd (by rw[hW];exact h3.alloc _)
 have H4:Hid (Blk W b4 [.int .i64 v4] 3):=hd (by rw[hW];exact h4.alloc _)
 have n23:¬ b3=b2:=by omega
 have n24:¬ b4=b2:=by omega
 have n34:¬ b4=b3:=by omega
 have n32:¬ b2=b3:=by omega
 have n42:¬ b2=b4:=by omega
 have n43:¬ b3=b4:=by omega
 have d0:=HKD.out.cell (i:=0) rfl
 have d1:=HKD.out.cell (i:=1) rfl
 obtain ⟨k20,k21,k22,k23⟩:=H2.out.c4
 have k3:=H3.out.cell (i:=0) rfl
 have k4:=H4.out.cell (i:=0) rfl
 obtain ⟨z20,z21,z22,z23⟩:=H2.out.f4
 have z3:=H3.out.free 0
 have z4:=H4.out.free 0
 have HU:=hd hu
 clear hu hW hD h2 h3 h4 hta
 have nD2:¬ D=b2:=by have:=HKD.out;have e:=H2.out;intro h;subst h;have:=this.same e;simp at this
 have nD3:¬ D=b3:=by have:=HKD.out;have e:=H3.out;intro h;subst h;have:=this.same e;simp at this
 have nD4:¬ D=b4:=by have:=HKD.out;have e:=H4.out;intro h;subst h;have:=this.same e;simp at this
 have n2D:¬ b2=D:=fun h=>nD2 h.symm
 have n3D:¬ b3=D:=fun h=>nD3 h.symm
 have n4D:¬ b4=D:=fun h=>nD4 h.symm
 refine wp_region_held_drew (S:=fun W=>Blk W D [.int .i64 (c:Int),.int .i64 (p:Int)] 87) (by kernel_rfl) HKD.out (fun hHeld=>?_)
 refine tq 0 ?_ (hy:=by intro w9 hSw;have d0:=hSw.cell (i:=0) rfl;have d1:=hSw.cell (i:=1) rfl;go_simp;try with_reducible rfl)
 refine tq 1 ?_ (hy:=by intro w9 hSw;have d0:=hSw.cell (i:=0) rfl;have d1:=hSw.cell (i:=1) rfl;go_simp;try with_reducible rfl)
 refine tq 2 ?_ (hy:=by intro w9 hSw;have d0:=hSw.cell (i:=0) rfl;have d1:=hSw.cell (i:=1) rfl;go_simp;try with_reducible rfl)
 refine tq 3 ?_ (hy:=by intro w9 hSw;have d0:=hSw.cell (i:=0) rfl;have d1:=hSw.cell (i:=1) rfl;go_simp;try with_reducible rfl)
 refine tq 4 ?_ (hy:=by intro w9 hSw;have d0:=hSw.cell (i:=0) rfl;have d1:=hSw.cell (i:=1) rfl;go_simp;try with_reducible rfl)
 refine rd1 5 (fun K hK=>?_)
 go_simp
 refine kq hK ((((HKD.out.other ⟨b2,0,none⟩ _ nD2).other ⟨b2,1,none⟩ _ nD2).other ⟨b2,2,none⟩ _ nD2).other ⟨b2,3,none⟩ _ nD2).drew (fun hHeld=>?_)
 refine rd1 6 (fun K hK=>?_)
 go_simp
 refine kq hK (((((HKD.out.other ⟨b2,0,none⟩ _ nD2).other ⟨b2,1,none⟩ _ nD2).other ⟨b2,2,none⟩ _ nD2).other ⟨b2,3,none⟩ _ nD2).other ⟨b3,0,none⟩ _ nD3).drew (fun hHeld=>?_)
 refine rd1 7 (fun K hK=>?_)
 go_simp
 refine kq hK ((((((HKD.out.other ⟨b2,0,none⟩ _ nD2).other ⟨b2,1,none⟩ _ nD2).other ⟨b2,2,none⟩ _ nD2).other ⟨b2,3,none⟩ _ nD2).other ⟨b3,0,none⟩ _ nD3).other ⟨b4,0,none⟩ _ nD4).drew (fun hHeld=>?_)
 refine dq ?_
 go_wp2_with fail
 have hc:Chg [b2,b3,b4] w ((((((W.setCell ⟨b2,0,none⟩ (.string ⟨#[]⟩)).setCell ⟨b2,1,none⟩ (.int .i64 0)).setCell ⟨b2,2,none⟩ (.int .i64 0)).setCell ⟨b2,3,none⟩ (.slice none 0 0)).setCell ⟨b3,0,none⟩ (.int .i64 (c:Int))).setCell ⟨b4,0,none⟩ (.int .i64 (p:Int))).drew:=((((((HC0.out.setCell _ _ (.inl (by simp))).setCell _ _ (.inl (by simp))).setCell _ _ (.inl (by simp))).setCell _ _ (.inl (by simp))).setCell _ _ (.inl (by simp))).setCell _ _ (.inl (by simp))).drew
 simp[bodyPostS,results,Tryz.results21]
 exact ⟨((((((H2.out.set 0 (.string ⟨#[]⟩)).set 1 (.int .i64 0)).set 2 (.int .i64 0)).set 3 (.slice none 0 0)).other ⟨b3,0,none⟩ (.int .i64 (c:Int)) n32).other ⟨b4,0,none⟩ (.int .i64 (p:Int)) n42).drew,(((((((H3.out.other ⟨b2,0,none⟩ (.string ⟨#[]⟩) n23).other ⟨b2,1,none⟩ (.int .i64 0) n23).other ⟨b2,2,none⟩ (.int .i64 0) n23).other ⟨b2,3,none⟩ (.slice none 0 0) n23).set 0 (.int .i64 (c:Int)))).other ⟨b4,0,none⟩ (.int .i64 (p:Int)) n43).drew,((((((H4.out.other ⟨b2,0,none⟩ (.string ⟨#[]⟩) n24).other ⟨b2,1,none⟩ (.int .i64 0) n24).other ⟨b2,2,none⟩ (.int .i64 0) n24).other ⟨b2,3,none⟩ (.slice none 0 0) n24).other ⟨b3,0,none⟩ (.int .i64 (c:Int)) n34).set 0 (.int .i64 (p:Int))).drew,hc⟩
end Go.Proofs.YtglepipfdmphhaaGreatDoor
namespace Go.Proofs.YtglepipfdmphhaaGreatDoor
set_option linter.unusedVariables false
set_option linter.unusedSimpArgs false
open Go Go.RowKit Go.Shelf
open Lx (Tk)
open Pn (nums num num2 setL)
theorem numbers_gen {w:World} {b en:Nat} {l:List Tk} (HP:Hid (Pp w b l en)) {g D:Nat} {T:TypeId} {cs:List Value} (offs:List Nat) (HG:Hid (Blk w g (offs.map (fun o=>.pointer (some ⟨D,o,none⟩))) 96)) (HD:Hid (Blk w D cs T))
 (HO:Hid (∀ o ∈ offs,o < cs.length)) (HN:Hid (D≠b∧g≠b∧g≠D∧offs.length≤4)) (HKP:Hid (∀ (w1:World) (l':List Tk) (os ns:List Nat) (o n:Nat),o ∈ offs→(∀ z ∈ os,z ∈ offs)→Pp w1 b l' en→Blk w1 D (setL cs os ns) T→Pp (w1.setCell ⟨D,o,none⟩ (.int .i64 (n:Nat))) b l' en)) {R:Ending→World→Prop}
 (hok:∀ (ns:List Nat) (r:List Tk) (w':World),Hid (nums offs.length l = .ok ns r)→Hid (ns.length=offs.length)→Hid (Pp w' b r en)→Hid (Blk w' D (setL cs offs ns) T)→Hid (Chg [b,D] w w')→R (.returned (.tuple #[])) w')
 (hbad:∀ (c:Nat) (r:List Tk) (w':World),Hid (nums offs.length l = .bad c r)→Hid (Chg [b,D] w w')→Hid (∃ os zs,(∀ z ∈ os,z ∈ offs)∧Blk w' D (setL cs os zs) T)→R (.panicked [{ v:=flt c r en,recovered:=false }]) w') :
 Calls Tryz.prog 24 #[.pointer (some ⟨b,0,none⟩),.slice (some ⟨g,0,none⟩) offs.length offs.length] w R:=by
 refine (show Calls Tryz.prog 24 #[.pointer (some ⟨b,0,none⟩),.slice (some ⟨g,0,none⟩) offs.length offs.length] w (fun e w'=>(∃ ns r,e = .returned (.tuple #[])∧nums offs.length l = .ok ns r∧Pp w' b r en∧Blk w' D (setL cs offs ns) T∧Chg [b,D] w w')∨(∃ c r,e = .panicked [{ v:=flt c r en,recovered:=false }]∧nums offs.length l = .bad c r∧Chg [b,D] w w'∧(∃ os zs,(∀ z ∈ os,z ∈ offs)∧Blk w' D (setL cs os zs) T))) from ?_).mono (fun e w' hx=>by
  rcases hx with ⟨ns,r,rfl,h1,h2,h3,h4⟩|⟨c,r,rfl,h1,h2,h3⟩
  · exact hok ns r w' (hd h1) (hd (Pn.nums_len _ _ _ _ h1)) (hd h2) (hd h3) (hd h4)
  exact hbad c r w' (hd h1) (hd h2) (hd h3))
 clear hok hbad
 obtain ⟨n,hn⟩:∃ n,offs.length=n:=⟨_,rfl⟩
 have HNN:=hd hn
 rw[hn]
 have hn4:n≤4:=by have:=HN.out.2.2.2;omega
 clear hn
 go_enter Tryz.func24,Tryz.ntmps24
 go_wp2_with fail
 go_loopw [8] (fun i wr=>∃ (j:Nat) (ns:List Nat) (r:List Tk),i = .int .i64 (j:Int)∧j≤n∧Hid (nums j l = .ok ns r∧ns.length=j)∧Hid (Pp wr b r en)∧Hid (Blk wr D (setL cs (offs.take j) ns) T)∧Hid (Chg [b,D] w wr)) (fun i _=>n - (intOf i).toNat)
 case atStart=>exact ⟨0,[],l,rfl,Nat.zero_le _,hd ⟨rfl,rfl⟩,HP,hd (by rw[Pn.setL_nil];exact HD.out),hd (Chg.refl _ _)⟩
 case round =>
  obtain ⟨j,ns,r,rfl,hj,HNS,HPr,HDr,HC⟩:=hrel
  by_cases hlt:j < n
  · obtain ⟨o,ho⟩:∃ o,offs[j]? = some o:=⟨offs[j]'(by rw[HNN.out];exact hlt),by simp⟩
    have HOJ:=hd ho
    have hg:wr.cell? ⟨g,j,none⟩=some (.pointer (some ⟨D,o,none⟩)):=(HC.out.blk HG.out (by simp;exact ⟨HN.out.2.1,HN.out.2.2.1⟩)).cell (by rw[List.getElem?_map,ho];rfl)
    have hol:o < (setL cs (offs.take j) ns).length:=by rw[Pn.setL_len];exact HO.out o (List.mem_of_getElem? ho)
    obtain ⟨vo,hvo⟩:∃ v,(setL cs (offs.take j) ns)[o]? = some v:=⟨(setL cs (offs.take j) ns)[o],List.getElem?_eq_getElem hol⟩
    have HVO:=hd hvo
    clear ho hol hvo
    have q0:(0:Int)≤(j:Int):=by omega
    have q1:(j:Int) < (n:Int):=by omega
    have q2:((j:Int)).toNat=j:=by omega
    go_wp2_with fail
    refine take_two HPr 2 (fun t q w1 HT HP1 HC1=>?_) (fun c q w1 HT HC1=>?_)
    · have hD1:Hid (Blk w1 D (setL cs (offs.take j) ns) T):=hd (HC1.out.blk HDr.out (by simp;exact HN.out.1))
      have u0:=hD1.out.cell HVO.out
      have u1:=hD1.out.free o
      have hf:=fun W=>field_n (.int .i64 (t.kind:Nat)) (.string ⟨t.text.toArray⟩) (.int .i64 (t.n:Nat)) (.int .i64 (t.at_:Nat)) W
      go_wp2_with fail
      refine ⟨?_,by simp[intOf];omega⟩
      have hc:Chg [b,D] wr (w1.setCell ⟨D,o,none⟩ (.int .i64 (t.n:Nat))):=(HC1.out.mono (by simp)).setCell _ _ (.inl (by simp))
      have HNS1:Hid (nums (j+1) l = .ok (ns++[t.n]) q∧(ns++[t.n]).length=j+1):=hd ⟨by unfold nums;rw[HNS.out.1];simp only[Rl.Out.bind];unfold num;rw[HT.out];rfl,by rw[List.length_append,HNS.out.2];rfl⟩
      have HP2:Hid (Pp (w1.setCell ⟨D,o,none⟩ (.int .i64 (t.n:Nat))) b q en):=hd (HKP.out w1 q (offs.take j) ns o t.n (List.mem_of_getElem? HOJ.out) (fun z hz=>List.mem_of_mem_take hz) HP1.out hD1.out)
      have HD2:Hid (Blk (w1.setCell ⟨D,o,none⟩ (.int .i64 (t.n:Nat))) D (setL cs (offs.take (j+1)) (ns++[t.n])) T):=hd (by
       have e:offs.take (j+1)=offs.take j++[o]:=by rw[List.take_add_one,HOJ.out];rfl
       rw[e,Pn.setL_snoc _ _ _ _ _ (by rw[List.length_take,HNN.out,HNS.out.2];omega)]
       exact hD1.out.set o _)
      have HC2:Hid (Chg [b,D] w (w1.setCell ⟨D,o,none⟩ (.int .i64 (t.n:Nat)))):=hd (HC.out.trans hc (fun k hk=>.inl hk))
      have hjj:Value.int IntKind.i64 ((j:Int)+1) = .int .i64 ((j+1:Nat):Int):=rfl
      first|exact ⟨j+1,ns++[t.n],q,hjj,by omega,HNS1,HP2,HD2,HC2⟩|((repeat apply Exists.intro);exact ⟨⟨j+1,ns++[t.n],q,hjj,by omega,HNS1,HP2,HD2,HC2⟩,rfl⟩)
    have hbadn:nums n l = .bad c q:=by
     have h1:nums (j+1) l = .bad c q:=by
      unfold nums
      rw[HNS.out.1]
      simp only[Rl.Out.bind]
      unfold num
      rw[HT.out]
      rfl
     have h2:∀ d,nums (j+1+d) l = .bad c q:=by
      intro d
      induction d with
      | zero=>exact h1
      | succ d ih =>
       show (nums (j+1+d) l).bind _=_
       rw[ih]
       rfl
     have:=h2 (n - (j+1))
     rw[show j+1+(n - (j+1))=n by omega] at this
     exact this
    have HBN:=hd hbadn
    clear hbadn
    go_wp2_with fail
    have hcf:Chg [b,D] w w1:=HC.out.trans (HC1.out.mono (own1:=[b,D]) (by simp)) (fun k hk=>.inl hk)
    have hex:∃ os zs,(∀ z ∈ os,z ∈ offs)∧Blk w1 D (setL cs os zs) T:=⟨offs.take j,ns,fun z hz=>List.mem_of_mem_take hz,HC1.out.blk HDr.out (by simp;exact HN.out.1)⟩
    first|exact ⟨rfl,.inr ⟨c,q,rfl,HBN.out,hcf,hex⟩⟩|exact ⟨rfl,.inr ⟨c,q,HBN.out,rfl,hcf,hex⟩⟩
  have q1:¬ (j:Int) < (n:Int):=by omega
  obtain rfl:j=n:=by omega
  go_wp2_with fail
  refine bodyPost_end (results_none rfl _ _ _) rfl ?_
  have hd:=HDr.out
  rw[List.take_of_length_le (by rw[HNN.out];exact Nat.le_refl _)] at hd
  first|exact .inl ⟨ns,r,rfl,HNS.out.1,HPr.out,hd,HC.out⟩|exact .inl ⟨rfl,ns,r,HNS.out.1,HPr.out,hd,HC.out⟩
theorem mPnSU0 {G:Prop} (h:G:=by
  exact ⟨g,off,j4,(World.cell?_of_block (a:=⟨g,off+4*j,none⟩) hg).trans j5,(World.cell?_of_block (a:=⟨g,off+4*j+1,none⟩) hg).trans j6,(World.cell?_of_block (a:=⟨g,off+4*j+2,none⟩) hg).trans j7,(World.cell?_of_block (a:=⟨g,off+4*j+3,none⟩) hg).trans j8⟩):G:=h
theorem Pp.hall {w w':World} {b en k:Nat} {l:List Tk} {a:ByteArray} {x y:Int} {p:Option Addr} {n c:Nat} {E:TypeId} (h:Pp w b l en) (hk:Blk w k [.string a,.int .i64 x,.int .i64 y,.slice p n c] E) (hne:k≠b) (hc:Chg [k] w w'):Pp w' b l en:=by
 obtain ⟨L,i,ao,cap,e1,e2,e3,k1,k2,k3⟩:=h
 refine ⟨L,i,ao,cap,e1,e2,e3,hc.blk k1 (by simpa using hne.symm),?_,k3⟩
 obtain ⟨ao',cap',j1,j2,j3⟩:=k2
 cases j1
 refine ⟨ao,cap,rfl,j2,fun j t ht=>?_⟩
 obtain ⟨g,off,j4,j5,j6,j7,j8⟩:=j3 j t ht
 have hg0:g≠k:=fun e=>by
  subst e
  unfold Blk at hk
  rw[cell_of_row w g _ _ E (0,0) hk] at j6
  obtain ⟨z,hz⟩:∃ z,off+4*j=z:=⟨_,rfl⟩
  rw[hz] at j6
  match z,j6 with
  | 0,j6=>simp at j6
  | 1,j6=>simp at j6
  | 2,j6=>simp at j6
  | z+3,j6=>simp at j6
 have hg:w'.heap[g]? = w.heap[g]?:=hc.block g (World.block_lt_of_cell? _ _ j5) (by simpa using hg0)
 exact mPnSU0
theorem stage_two {w:World} {b en:Nat} {l:List Tk} (HP:Hid (Pp w b l en)) {g D:Nat} {a:ByteArray} {p:Option Addr} {n c:Nat} (HG:Hid (Blk w g [.pointer (some ⟨D,1,none⟩),.pointer (some ⟨D,2,none⟩)] 96)) (HD:Hid (Blk w D [.string a,.int .i64 0,.int .i64 0,.slice p n c] 26)) (HN:Hid (D≠b∧g≠b∧g≠D)) {R:Ending→World→Prop}
 (hok:∀ (x y:Nat) (r:List Tk) (w':World),Hid (num2 l = .ok (x,y) r)→Hid (Pp w' b r en)→Hid (Blk w' D [.string a,.int .i64 (x:Nat),.int .i64 (y:Nat),.slice p n c] 26)→Hid (Chg [b,D] w w')→R (.returned (.tuple #[])) w')
 (hbad:∀ (c:Nat) (r:List Tk) (w':World),Hid (num2 l = .bad c r)→Hid (Chg [b,D] w w')→Hid (∃ z0 z1 z2 z3,Blk w' D [z0,z1,z2,z3] 26)→R (.panicked [{ v:=flt c r en,recovered:=false }]) w') :
 Calls Tryz.prog 24 #[.pointer (some ⟨b,0,none⟩),.slice (some ⟨g,0,none⟩) 2 2] w R:=by
 have key:∀ (os ns:List Nat) (x y:Int),(∀ z ∈ os,z ∈ [1,2])→∃ x' y':Int,setL [.string a,.int .i64 x,.int .i64 y,.slice p n c] os ns=[.string a,.int .i64 x',.int .i64 y',.slice p n c]:=by
  intro os
  induction os with
  | nil=>intro ns x y _;exact ⟨x,y,by cases ns <;> rfl⟩
  | cons z os ih =>
   intro ns x y hz
   cases ns with
   | nil=>exact ⟨x,y,rfl⟩
   | cons m ns =>
    have h1:=hz z (by simp)
    simp only[List.mem_cons,List.not_mem_nil,or_false] at h1
    rcases h1 with rfl|rfl
    · exact ih ns (m:Int) y (fun q hq=>hz q (by simp[hq]))
    exact ih ns x (m:Int) (fun q hq=>hz q (by simp[hq]))
 have hkp:∀ (w1:World) (l':List Tk) (os ns:List Nat) (o n':Nat),o ∈ [1,2]→(∀ z ∈ os,z ∈ [1,2])→Pp w1 b l' en→Blk w1 D (setL [.string a,.int .i64 0,.int .i64 0,.slice p n c] os ns) 26→Pp (w1.setCell ⟨D,o,none⟩ (.int .i64 (n':Nat))) b l' en:=by
  intro w1 l' os ns o n' ho hos hp hb
  obtain ⟨x',y',e⟩:=key os ns 0 0 hos
  rw[e] at hb
  exact hp.hall hb HN.out.1 ((Chg.refl _ _).setCell _ _ (.inl (by simp)))
 refine numbers_gen HP [1,2] HG HD (hd (by simp)) (hd ⟨HN.out.1,HN.out.2.1,HN.out.2.2,by simp⟩) (hd hkp) (fun ns r w' h1 h2 h3 h4 h5=>?_) (fun c r w' h1 h2 h3=>?_)
 · have h:=h1.out
   rw[show ([1,2]:List Nat).length=2 from rfl,Pn.nums2_eq] at h
   cases hx:num2 l with
   | bad c q=>rw[hx] at h;cases h
   | ok x q =>
    rw[hx] at h
    simp only[Rl.Out.bind,Rl.Out.ok.injEq] at h
    obtain ⟨rfl,rfl⟩:=h
    exact hok x.1 x.2 q w' (hd hx) h3 h4 h5
 have h:=h1.out
 rw[show ([1,2]:List Nat).length=2 from rfl,Pn.nums2_eq] at h
 cases hx:num2 l with
 | ok x q=>rw[hx] at h;cases h
 | bad c' q =>
  rw[hx] at h
  simp only[Rl.Out.bind,Rl.Out.bad.injEq] at h
  obtain ⟨rfl,rfl⟩:=h
  obtain ⟨os,zs,e1,e2⟩:=h3.out
  obtain ⟨x',y',e⟩:=key os zs 0 0 e1
  rw[e] at e2
  exact hbad _ _ w' (hd hx) h2 (hd ⟨_,_,_,_,e2⟩)
theorem Pn.eat_level:Pn.Eat Pn.level:=Pn.Eat.after Pn.shr_atO (fun at_=>Pn.Eat.bind (Pn.eat_must Pn.wLevel) (fun _=>Pn.eat_name.shr.bind (fun nm=>(Pn.eat_must Pn.wHeight).shr.bind (fun _=>Pn.eat_num.shr.bind (fun h=>(Pn.eat_must Pn.cOpen).shr.bind (fun _=>(Pn.shr_braced Pn.eat_item.shr).bind (fun its=>Pn.Shr.pure _)))))))
theorem level_two {w:World} {b en:Nat} {l:List Tk} (HP:Hid (Pp w b l en)) (B:Nat) (hB:B≤w.heap.size) {R:Ending→World→Prop}
 (hok:∀ (x:Pn.Lv) (s1 s2 s3 s4 s5:Option Addr × Nat × Nat) (r:List Tk) (w':World),Hid (Pn.level l = .ok x r)→Hid (Pp w' b r en)→Hid (Chg [b] w w')→Hid (LvL B x (.slice s1.1 s1.2.1 s1.2.2) (.slice s2.1 s2.2.1 s2.2.2) (.slice s3.1 s3.2.1 s3.2.2) (.slice s4.1 s4.2.1 s4.2.2) (.slice s5.1 s5.2.1 s5.2.2) w')→R (.returned (.agg #[.string ⟨x.name.toArray⟩,.int .i64 (x.height:Nat),.slice s1.1 s1.2.1 s1.2.2,.slice s2.1 s2.2.1 s2.2.2,.slice s3.1 s3.2.1 s3.2.2,.slice s4.1 s4.2.1 s4.2.2,.slice s5.1 s5.2.1 s5.2.2,.int .i64 (x.at_:Nat)])) w')
 (hbad:∀ (c:Nat) (r:List Tk) (w':World),Hid (Pn.level l = .bad c r)→Hid (Chg [b] w w')→R (.panicked [{ v:=flt c r en,recovered:=false }]) w') :
 Calls Tryz.prog 26 #[.pointer (some ⟨b,0,none⟩)] w R :=
 (level_spec w b en l HP).mono fun e w' h=>pres_two h (fun x r v h1 h2 h3 h4=>by
  obtain ⟨u1,u2,u3,u4,u5,rfl,h5⟩:=h4
  obtain ⟨a1,c1,rfl⟩:=h5.1.form
  obtain ⟨a2,c2,rfl⟩:=h5.2.1.form
  obtain ⟨a3,c3,rfl⟩:=h5.2.2.1.form
  obtain ⟨a4,c4,rfl⟩:=h5.2.2.2.1.form
  obtain ⟨a5,c5,rfl⟩:=h5.2.2.2.2.form
  exact hok x (a1,_,c1) (a2,_,c2) (a3,_,c3) (a4,_,c4) (a5,_,c5) r w' h1 h2 h3 (hd (h5.mono hB))) (fun c r h1 h2=>hbad c r w' h1 h2)
end Go.Proofs.YtglepipfdmphhaaGreatDoor
namespace Go.Proofs.YtglepipfdmphhaaGreatDoor
set_option linter.unusedVariables false
set_option linter.unusedSimpArgs false
open Go Go.RowKit Go.Shelf
open Lx (Tk)
attribute [local go_sem ↓] Go.wp_at_zero Go.wp_at_succ
attribute [local irreducible] Go.wpStill
theorem leaves_frame {P:Program} {fn:Func} {t t':Array Value} {R:Ending→World→Prop} (h:results fn t'=results fn t):∀ (ds:List Deferred) (u:FrameMode) (w:World),Leaves P fn t' R ds u w→Leaves P fn t R ds u w
 | [],.returning,w,⟨v,h1,h2⟩=>⟨v,by rw[← h];exact h1,h2⟩
 | [],.panicking c,w,hh=>hh
 | [],.run,w,hh=>hh
 | d :: ds,u,w,⟨hu,fv,cap,f,args,h1,h2,h3⟩=>⟨hu,fv,cap,f,args,h1,h2,h3.mono (by
  intro e u' w' hh
  cases e with
  | returned v=>exact leaves_frame h ds _ _ hh
  | panicked c=>exact leaves_frame h ds _ _ hh
  | outgrown=>exact hh)⟩
theorem res10 (t:Array Value) (i:Nat) (v:Value) (h2:i≠2) (h3:i≠3) (h4:i≠4):results Tryz.f8 (t.setIfInBounds i v)=results Tryz.f8 t:=by
 simp[results,Tryz.results8]
 rw[Array.getElem?_setIfInBounds_ne h2,Array.getElem?_setIfInBounds_ne h3,Array.getElem?_setIfInBounds_ne h4]
theorem hq10 {P:Program} {R:Ending→World→Prop} (i:Nat) (h2:i≠2) (h3:i≠3) (h4:i≠4) (v:Value) (c:List PanicEntry) (a:Act) (w:World) (h:bodyPostD P Tryz.f8 R (.panic c) (a.put (some i) v) w):bodyPostD P Tryz.f8 R (.panic c) a w :=
 leaves_frame (res10 a.tmps i v h2 h3 h4) _ _ _ h
theorem door_pan {tmps:Array Value} {R:Ending→World→Prop} {b2 b3 b4 c p:Nat} {y0 y1 y2 y3:Value} {v3 v4:Int} {w:World} (t2:tmps.getD 2 undef = .pointer (some ⟨b2,0,none⟩)) (t3:tmps.getD 3 undef = .pointer (some ⟨b3,0,none⟩)) (t4:tmps.getD 4 undef = .pointer (some ⟨b4,0,none⟩))
 (h2:Blk w b2 [y0,y1,y2,y3] 26) (h3:Blk w b3 [.int .i64 v3] 29) (h4:Blk w b4 [.int .i64 v4] 3) (hn:b2 < b3∧b3 < b4)
 (hR:∀ w',Chg [b2,b3,b4] w w'→R (.returned (.tuple #[.agg #[.string ⟨#[]⟩,.int .i64 0,.int .i64 0,.slice none 0 0],.int .i64 (c:Int),.int .i64 (p:Int)])) w') :
 Leaves Tryz.prog Tryz.f8 tmps R [{ target:=.fn (.func 21) #[.pointer (some ⟨b2,0,none⟩),.pointer (some ⟨b3,0,none⟩),.pointer (some ⟨b4,0,none⟩)],args:=#[] }] (.panicking [{ v:=.iface 87 (.agg #[.int .i64 (c:Int),.int .i64 (p:Int)]),recovered:=false }]) w:=by
 refine leaves_cons (f:=21) (args:=#[.pointer (some ⟨b2,0,none⟩),.pointer (some ⟨b3,0,none⟩),.pointer (some ⟨b4,0,none⟩)]) (by simp) (by simp[go_sem]) ?_
 refine (catch_pan b2 b3 b4 c p w y0 y1 y2 y3 v3 v4 h2 h3 h4 hn []).mono ?_
 rintro e u' w' ⟨rfl,rfl,k2,k3,k4,hc⟩
 have c20:=k2.cell (i:=0) rfl
 have c21:=k2.cell (i:=1) rfl
 have c22:=k2.cell (i:=2) rfl
 have c23:=k2.cell (i:=3) rfl
 have c3:=k3.cell (i:=0) rfl
 have c4:=k4.cell (i:=0) rfl
 have hs:settle (.panicking [{ v:=.iface 87 (.agg #[.int .i64 (c:Int),.int .i64 (p:Int)]),recovered:=true }]) = .returning:=by simp[settle]
 show Leaves _ _ _ _ [] (settle _) w'
 rw[hs]
 refine ⟨.tuple #[.agg #[.string ⟨#[]⟩,.int .i64 0,.int .i64 0,.slice none 0 0],.int .i64 (c:Int),.int .i64 (p:Int)],?_,hR w' hc⟩
 rw[Array.getD_eq_getD_getElem?] at t2 t3 t4
 simp[results,Tryz.results8,go_sem,t2,t3,t4,c20,c21,c22,c23,c3,c4]
theorem door_ret {tmps:Array Value} {R:Ending→World→Prop} {b2 b3 b4:Nat} {y0 y1 y2 y3:Value} {v3 v4:Int} {w:World} (t2:tmps.getD 2 undef = .pointer (some ⟨b2,0,none⟩)) (t3:tmps.getD 3 undef = .pointer (some ⟨b3,0,none⟩)) (t4:tmps.getD 4 undef = .pointer (some ⟨b4,0,none⟩))
 (h2:Blk w b2 [y0,y1,y2,y3] 26) (h3:Blk w b3 [.int .i64 v3] 29) (h4:Blk w b4 [.int .i64 v4] 3) (hR:R (.returned (.tuple #[.agg #[y0,y1,y2,y3],.int .i64 v3,.int .i64 v4])) w) :
 Leaves Tryz.prog Tryz.f8 tmps R [{ target:=.fn (.func 21) #[.pointer (some ⟨b2,0,none⟩),.pointer (some ⟨b3,0,none⟩),.pointer (some ⟨b4,0,none⟩)],args:=#[] }] .returning w:=by
 refine leaves_cons (f:=21) (args:=#[.pointer (some ⟨b2,0,none⟩),.pointer (some ⟨b3,0,none⟩),.pointer (some ⟨b4,0,none⟩)]) (by simp) (by simp[go_sem]) ?_
 refine (catch_idle b2 b3 b4 w).mono ?_
 rintro e u' w' ⟨rfl,rfl,rfl⟩
 have c20:=h2.cell (i:=0) rfl
 have c21:=h2.cell (i:=1) rfl
 have c22:=h2.cell (i:=2) rfl
 have c23:=h2.cell (i:=3) rfl
 have c3:=h3.cell (i:=0) rfl
 have c4:=h4.cell (i:=0) rfl
 refine ⟨.tuple #[.agg #[y0,y1,y2,y3],.int .i64 v3,.int .i64 v4],?_,hR⟩
 rw[Array.getD_eq_getD_getElem?] at t2 t3 t4
 simp[results,Tryz.results8,go_sem,t2,t3,t4,c20,c21,c22,c23,c3,c4]
def Parsed (w:World) (o:Pn.Hl × Nat × Int) (e:Ending) (w':World):Prop:=∃ v,e = .returned (.tuple #[.agg #[.string ⟨o.1.name.toArray⟩,.int .i64 (o.1.sx:Nat),.int .i64 (o.1.sy:Nat),v],.int .i64 (o.2.1:Nat),.int .i64 o.2.2])∧ListS w.heap.size 61 8 (Clv w.heap.size) o.1.levels v w'∧Chg [] w w'
end Go.Proofs.YtglepipfdmphhaaGreatDoor
namespace Go.Proofs.YtglepipfdmphhaaGreatDoor
set_option linter.unusedVariables false
set_option linter.unusedSimpArgs false
open Go Go.RowKit Go.Shelf
open Lx (Tk)
theorem TokS.frm {w:World} {v:Value} {l:List Tk} (h:TokS w v l):∃ ao cap,v = .slice ao l.length cap:=by
 obtain ⟨ao,cap,h1,_⟩:=h
 exact ⟨ao,cap,h1⟩
theorem toks_lt {w:World} {ao:Option Addr} {m cap:Nat} {l:List Tk} (h:TokS w (.slice ao m cap) l) (hne:l≠[]):∃ g off,ao=some ⟨g,off,none⟩∧g < w.heap.size:=by
 obtain ⟨ao',cap',he,_,h3⟩:=h
 cases he
 cases l with
 | nil=>exact absurd rfl hne
 | cons t r =>
  obtain ⟨g,off,h4,h5,_⟩:=h3 0 t rfl
  exact ⟨g,off,h4,World.block_lt_of_cell? _ _ h5⟩
theorem toks_apart {w w':World} {v:Value} {l:List Tk} {own:List Nat} (h:TokS w v l) (hc:Chg own w w') (ho:∀ k ∈ own,∃ x e,Blk w k [x] e):TokS w' v l:=by
 obtain ⟨ao,cap,rfl,h2,h3⟩:=h
 refine ⟨ao,cap,rfl,h2,fun i t ht=>?_⟩
 obtain ⟨g,off,h4,h5,h6,h7,h8⟩:=h3 i t ht
 have hno:g ∉ own:=fun hm=>by
  obtain ⟨x,e,hb⟩:=ho g hm
  unfold Blk at hb
  rw[cell_of_row w g _ _ e (0,0) hb] at h6
  simp at h6
 have hg:=hc.block g (World.block_lt_of_cell? _ _ h5) hno
 exact ⟨g,off,h4,(World.cell?_of_block (a:=⟨g,off+4*i,none⟩) hg).trans h5,(World.cell?_of_block (a:=⟨g,off+4*i+1,none⟩) hg).trans h6,(World.cell?_of_block (a:=⟨g,off+4*i+2,none⟩) hg).trans h7,(World.cell?_of_block (a:=⟨g,off+4*i+3,none⟩) hg).trans h8⟩
theorem Lx.fin_len:∀ (l:List (Tk × Nat)) (k:Nat) (out:List Tk),k≤5000→(Lx.fin k out l).1.length≤out.length+(5000 - k)
 | [],k,out,h=>by simp[Lx.fin]
 | (t,e) :: r,k,out,h=>by
  unfold Lx.fin
  split
  · simp
  split
  · simp
  have:=Lx.fin_len r (k+1) (out++[t]) (by omega)
  simp only[List.length_append,List.length_singleton] at this
  omega
theorem Lx.lex_len (s:Bytes):(Lx.lex s).1.length≤5000:=by
 unfold Lx.lex
 split
 · simp
 simpa using Lx.fin_len (Lx.scan s.length 0 s) 0 [] (by omega)
def Hs (w w3 wr:World) (b2 b3 b4 pb en er:Nat) (at9:Int) (cs:List Value) (q:List Tk):Prop :=
 Blk wr b2 cs 26∧Blk wr b3 [.int .i64 (er:Nat)] 29∧Blk wr b4 [.int .i64 at9] 3∧Pp wr pb q en∧Chg [] w wr∧Chg [pb,b2] w3 wr∧(b2=w.heap.size∧b3=w.heap.size+1∧b4=w.heap.size+2∧b4 < pb∧w3.heap.size=pb+1)
theorem Hs.call {w w3 wr w':World} {b2 b3 b4 pb en er:Nat} {at9:Int} {cs:List Value} {q r:List Tk} (h:Hs w w3 wr b2 b3 b4 pb en er at9 cs q) (hp:Pp w' pb r en) (hc:Chg [pb] wr w'):Hs w w3 w' b2 b3 b4 pb en er at9 cs r:=by
 obtain ⟨h1,h2,h3,h4,h5,h6,h7⟩:=h
 refine ⟨hc.blk h1 (by simp;omega),hc.blk h2 (by simp;omega),hc.blk h3 (by simp;omega),hp,h5.trans hc (fun k hk=>.inr (by simp at hk;omega)),h6.trans hc (fun k hk=>.inl (by simp at hk;simp[hk])),h7⟩
theorem Hs.quiet {w w3 wr w':World} {b2 b3 b4 pb en er:Nat} {at9:Int} {cs:List Value} {q:List Tk} (h:Hs w w3 wr b2 b3 b4 pb en er at9 cs q) (hc:Chg [] wr w'):Hs w w3 w' b2 b3 b4 pb en er at9 cs q :=
 h.call (h.2.2.2.1.quiet hc) (hc.mono (by simp))
theorem Hs.put {w w3 wr:World} {b2 b3 b4 pb en er:Nat} {at9:Int} {a:ByteArray} {x y:Int} {p:Option Addr} {n c:Nat} {q:List Tk} (h:Hs w w3 wr b2 b3 b4 pb en er at9 [.string a,.int .i64 x,.int .i64 y,.slice p n c] q) (i:Nat) (v:Value):Hs w w3 (wr.setCell ⟨b2,i,none⟩ v) b2 b3 b4 pb en er at9 ([.string a,.int .i64 x,.int .i64 y,.slice p n c].set i v) q:=by
 obtain ⟨h1,h2,h3,h4,h5,h6,h7⟩:=h
 exact ⟨h1.set i v,h2.other _ _ (show b3≠b2 by omega),h3.other _ _ (show b4≠b2 by omega),h4.hall h1 (by omega) ((Chg.refl _ _).setCell _ _ (.inl (by simp))),h5.setCell _ _ (.inr (by show _≤b2;omega)),h6.setCell _ _ (.inl (by simp)),h7⟩
theorem Hs.stage {w w3 wr w':World} {b2 b3 b4 pb en er:Nat} {at9:Int} {cs cs':List Value} {q r:List Tk} (h:Hs w w3 wr b2 b3 b4 pb en er at9 cs q) (hp:Pp w' pb r en) (hb:Blk w' b2 cs' 26) (hc:Chg [pb,b2] wr w'):Hs w w3 w' b2 b3 b4 pb en er at9 cs' r:=by
 obtain ⟨h1,h2,h3,h4,h5,h6,h7⟩:=h
 refine ⟨hb,hc.blk h2 (by simp;omega),hc.blk h3 (by simp;omega),hp,h5.trans hc (fun k hk=>.inr (by simp at hk;omega)),h6.trans hc (fun k hk=>.inl hk),h7⟩
theorem Pn.parse_bad {s:Bytes} (h:(Lx.lex s).2.1=0) {c:Nat} {r:List Tk} (hi:Pn.hall (Lx.lex s).1 = .bad c r):Pn.parse s=(Pn.hl0,Rl.code c r,(Rl.place s.length r:Int)):=by
 unfold Pn.parse
 rw[if_neg (by simpa using h),hi]
 rfl
theorem Pn.parse_ok {s:Bytes} (h:(Lx.lex s).2.1=0) {x:Pn.Hl} {r:List Tk} (hi:Pn.hall (Lx.lex s).1 = .ok x r):Pn.parse s=(x,0,0):=by
 unfold Pn.parse
 rw[if_neg (by simpa using h),hi]
 rfl
theorem Hs.pan {tmps:Array Value} {w w3 wr w':World} {b2 b3 b4 pb er:Nat} {at9:Int} {y0 y1 y2 y3:Value} {s:Bytes} {q:List Tk} (h:Hs w w3 wr b2 b3 b4 pb s.length er at9 [y0,y1,y2,y3] q) {own:List Nat} (hc:Chg own wr w') (ho:own=[pb]∨own=[]) (h0:(Lx.lex s).2.1=0) {c:Nat} {r:List Tk} (hi:Pn.hall (Lx.lex s).1 = .bad c r)
 (t2:tmps.getD 2 undef = .pointer (some ⟨b2,0,none⟩)) (t3:tmps.getD 3 undef = .pointer (some ⟨b3,0,none⟩)) (t4:tmps.getD 4 undef = .pointer (some ⟨b4,0,none⟩)) :
 Leaves Tryz.prog Tryz.f8 tmps (Parsed w (Pn.parse s)) [{ target:=.fn (.func 21) #[.pointer (some ⟨b2,0,none⟩),.pointer (some ⟨b3,0,none⟩),.pointer (some ⟨b4,0,none⟩)],args:=#[] }] (.panicking [{ v:=flt c r s.length,recovered:=false }]) w':=by
 have hc1:Chg [pb] wr w':=by
  rcases ho with rfl|rfl
  · exact hc
  exact hc.mono (by simp)
 obtain ⟨h1,h2,h3,h4,h5,h6,h7⟩:=h
 refine door_pan t2 t3 t4 (hc1.blk h1 (by simp;omega)) (hc1.blk h2 (by simp;omega)) (hc1.blk h3 (by simp;omega)) (by omega) (fun w5 hc5=>?_)
 rw[Pn.parse_bad h0 hi]
 exact ⟨.slice none 0 0,rfl,ListS.nil _ _ _ _ _,(h5.trans hc1 (fun k hk=>.inr (by simp at hk;omega))).trans hc5 (fun k hk=>.inr (by simp at hk;omega))⟩
theorem Hs.pan2 {tmps:Array Value} {w w3 wr w':World} {b2 b3 b4 pb er:Nat} {at9:Int} {a:ByteArray} {x y:Int} {p:Option Addr} {n c0:Nat} {s:Bytes} {q:List Tk} (h:Hs w w3 wr b2 b3 b4 pb s.length er at9 [.string a,.int .i64 x,.int .i64 y,.slice p n c0] q) (hc:Chg [pb,b2] wr w') (hb:∃ z0 z1 z2 z3,Blk w' b2 [z0,z1,z2,z3] 26) (h0:(Lx.lex s).2.1=0) {c:Nat} {r:List Tk} (hi:Pn.hall (Lx.lex s).1 = .bad c r)
 (t2:tmps.getD 2 undef = .pointer (some ⟨b2,0,none⟩)) (t3:tmps.getD 3 undef = .pointer (some ⟨b3,0,none⟩)) (t4:tmps.getD 4 undef = .pointer (some ⟨b4,0,none⟩)) :
 Leaves Tryz.prog Tryz.f8 tmps (Parsed w (Pn.parse s)) [{ target:=.fn (.func 21) #[.pointer (some ⟨b2,0,none⟩),.pointer (some ⟨b3,0,none⟩),.pointer (some ⟨b4,0,none⟩)],args:=#[] }] (.panicking [{ v:=flt c r s.length,recovered:=false }]) w':=by
 obtain ⟨h1,h2,h3,h4,h5,h6,h7⟩:=h
 obtain ⟨z0,z1,z2,z3,hb⟩:=hb
 refine door_pan t2 t3 t4 hb (hc.blk h2 (by simp;omega)) (hc.blk h3 (by simp;omega)) (by omega) (fun w5 hc5=>?_)
 rw[Pn.parse_bad h0 hi]
 exact ⟨.slice none 0 0,rfl,ListS.nil _ _ _ _ _,(h5.trans hc (fun k hk=>.inr (by simp at hk;omega))).trans hc5 (fun k hk=>.inr (by simp at hk;omega))⟩
theorem Pp.via2 {W wo v:World} {b en k:Nat} {l:List Tk} {a:ByteArray} {x y:Int} {p:Option Addr} {n c:Nat} {E:TypeId} (h:Pp wo b l en) (hk:Blk wo k [.string a,.int .i64 x,.int .i64 y,.slice p n c] E) (h1:Chg [b,k] W wo) (h2:Chg [b,k] W v) (hB:∀ ds S,Blk wo b ds S→Blk v b ds S) (hb:b < W.heap.size):Pp v b l en:=by
 obtain ⟨L,i,ao,cap,e1,e2,e3,k1,k2,k3⟩:=h
 refine ⟨L,i,ao,cap,e1,e2,e3,hB _ _ k1,?_,k3⟩
 obtain ⟨ao',cap',j1,j2,j3⟩:=k2
 cases j1
 refine ⟨ao,cap,rfl,j2,fun j t ht=>?_⟩
 obtain ⟨g,off,j4,j5,j6,j7,j8⟩:=j3 j t ht
 have hgb:g < b:=k3 (by rintro rfl;simp at ht) _ j4
 have hg0:g≠k:=fun e=>by
  subst e
  unfold Blk at hk
  rw[cell_of_row wo g _ _ E (0,0) hk] at j6
  obtain ⟨z,hz⟩:∃ z,off+4*j=z:=⟨_,rfl⟩
  rw[hz] at j6
  match z,j6 with
  | 0,j6=>simp at j6
  | 1,j6=>simp at j6
  | 2,j6=>simp at j6
  | z+3,j6=>simp at j6
 have hno:g ∉ [b,k]:=by simp;omega
 have hg:v.heap[g]? = wo.heap[g]?:=(h2.block g (by omega) hno).trans (h1.block g (by omega) hno).symm
 exact mPnSU0
theorem Pn.short_hall {l r1 r2 r3 r4 r5:List Tk} {t2:Tk} {xy:Nat × Nat} {x1 x3 x5:Bytes} (h1:Pn.must x1 l = .ok () r1) (h2:Rl.nxt 1 none r1 = .ok t2 r2) (h3:Pn.must x3 r2 = .ok () r3) (h4:Pn.num2 r3 = .ok xy r4) (h5:Pn.must x5 r4 = .ok () r5):r5.length≤l.length:=by
 have e1:=Pn.eat_must x1 _ _ _ h1
 have e2:=Pn.eat_nxt 1 none _ _ _ h2
 have e3:=Pn.eat_must x3 _ _ _ h3
 have e4:=Pn.eat_num2 _ _ _ h4
 have e5:=Pn.eat_must x5 _ _ _ h5
 omega
end Go.Proofs.YtglepipfdmphhaaGreatDoor
