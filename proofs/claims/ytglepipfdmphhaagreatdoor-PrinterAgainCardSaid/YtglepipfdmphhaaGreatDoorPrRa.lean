/-
  PrRa, PrR in one text.
-/
import Derived.Test.YtglepipfdmphhaaGreatDoorPrTk
import Derived.Test.YtglepipfdmphhaaGreatDoorPrP
set_option maxRecDepth 100000
set_option maxHeartbeats 40000000
namespace Go.Proofs.YtglepipfdmphhaaGreatDoor
set_option linter.unusedVariables false
set_option linter.unusedSimpArgs false
open Go Go.RowKit Go.Shelf
attribute [local irreducible] Go.wpStill
theorem Wst.setBad {T:TypeId} {b deep:Nat} {bad:Bool} {out out':Bytes} {v:Value} {w:World} (h:Wst T b deep bad out v w):Wst T b deep true out' v (w.setCell ⟨b,3,none⟩ (.bool true)):=by
 obtain ⟨o,h1,h2,_⟩:=h
 obtain ⟨p,hp,hb⟩:=h1.blk
 exact ⟨o,h1.rest ((Chg.refl _ _).setCell _ _ (.inl (by simp))) hp (hb.set 3 _),h2,fun e=>by cases e⟩
theorem Wst.cell3 {T:TypeId} {b deep:Nat} {bad:Bool} {out:Bytes} {v:Value} {w:World} (h:Wst T b deep bad out v w):w.cell? ⟨b,3,none⟩=some (.bool bad)∧w.frozen? ⟨b,3,none⟩=false:=by
 obtain ⟨o,h1,h2⟩:=h
 obtain ⟨p,hp,hb⟩:=h1.blk
 exact ⟨hb.cell (i:=3) rfl,hb.free 3⟩
namespace Pr
theorem numsOk_1 (x:Int):numsOk [x]=numOk x:=by simp[numsOk]
theorem markOk_4 {m:Mk} (h:m.kind=4):markOk m=(numOk m.seat && numOk m.w):=by simp[markOk,h]
theorem markOk_n {m:Mk} (h1:1≤m.kind) (h2:m.kind≤4) (h:m.w=0):markOk m=numOk m.seat:=by
 unfold markOk
 rw[decide_eq_true h1,decide_eq_true h2,decide_eq_true (.inr h),h]
 simp[numOk]
theorem markS_4 {m:Mk} (h:m.kind=4):markS m=markW m.kind++nums [m.seat]++(tOf++nums [m.w]):=by unfold markS;rw[if_pos h]
theorem markS_n {m:Mk} (h:m.kind≠4):markS m=markW m.kind++nums [m.seat]:=by unfold markS;rw[if_neg h,List.append_nil]
theorem row_bad (bad:Bool) (r:Rw):((((((bad || !nameOk r.name) || !numsOk [r.x,r.y]) || !numsOk [r.f]) || !numsOk [r.t]) || !numsOk [r.step]) || !r.marks.all markOk)=(bad || !rowOk r):=by
 simp only[rowOk,numsOk,List.all_cons,List.all_nil,Bool.and_true]
 generalize nameOk r.name=c0
 generalize numOk r.x=c1
 generalize numOk r.y=c2
 generalize numOk r.f=c3
 generalize numOk r.t=c4
 generalize numOk r.step=c5
 generalize r.marks.all markOk=c6
 revert bad c0 c1 c2 c3 c4 c5 c6
 decide
end Pr
theorem wpAnyH_act {P:Program} {md:Region.Mode} {ops:Array Oper} {Q:Exit→Act→World→Prop} {S:World→Prop} {fuel:Nat} {l:Array Bool} {a a':Act} {w:World} (h:a=a') (z:wpAnyH P md ops Q S fuel l a w):wpAnyH P md ops Q S fuel l a' w:=h ▸ z
def findR:Code→Nat→Option (Array Oper)
 | .region i ops _,n=>if i=n then some ops else none
 | .seq a b,n=>match findR a n with
  | some o=>some o
  | none=>findR b n
 | _,_=>none
def RowO (O:Array Oper):Prop:=findR (Tryz.f41.body.getD .skip) 1=some O
structure RowC (w0:World) (b:Nat) (w1:World) (r:Pr.Rw):Prop where
 HL:Hid (Laid w0)
 HB0:Hid (w0.heap.size≤b)
 HQ1:Hid (Chg [] w0 w1)
 HRI:Hid (Pr.I64 r.x∧Pr.I64 r.y∧Pr.I64 r.f∧Pr.I64 r.t∧Pr.I64 r.step)
 HRN:Hid (r.name.length≤1000)
theorem name3 {P:Program} {md:Region.Mode} {ops:Array Oper} {Q:Exit→Act→World→Prop} {S:World→Prop} {fuel:Nat} {l:Array Bool} {a:Act} {w:World} (h:∀ (O:Array Oper) (Q0:Exit→Act→World→Prop) (A0:Act),Hid (O=ops)→Hid (Q0=Q)→Hid (A0=a)→wpAnyH P md O Q0 S fuel l A0 w):wpAnyH P md ops Q S fuel l a w:=h _ _ _ rfl rfl rfl
def RowA (b M:Nat) (r:Pr.Rw) (y:Nat→Value):Act:={ tmps:=#[.pointer (some ⟨b,0,none⟩),y 1,y 2,y 3,y 4,y 5,y 6,y 7,.pointer (some ⟨b,0,none⟩),.pointer (some ⟨b,0,none⟩),.pointer (some ⟨b,0,none⟩),.pointer (some ⟨M,0,none⟩),.string ⟨r.name.toArray⟩,y 13,y 14,y 15,.pointer (some ⟨b,0,none⟩),.pointer (some ⟨b,0,none⟩),.pointer (some ⟨b,0,none⟩),.pointer (some ⟨M,1,none⟩),.int .i64 r.x,.pointer (some ⟨M,2,none⟩),.int .i64 r.y,y 23,y 24,y 25,y 26,.pointer (some ⟨b,0,none⟩),.pointer (some ⟨b,0,none⟩),.pointer (some ⟨b,0,none⟩),.pointer (some ⟨M,3,none⟩),.int .i64 r.f,y 32,y 33,y 34,y 35,.pointer (some ⟨b,0,none⟩),.pointer (some ⟨b,0,none⟩),.pointer (some ⟨b,0,none⟩),.pointer (some ⟨M,4,none⟩),.int .i64 r.t,y 41,y 42,y 43,y 44,.pointer (some ⟨b,0,none⟩),.pointer (some ⟨b,0,none⟩),.pointer (some ⟨b,0,none⟩),.pointer (some ⟨M,5,none⟩),.int .i64 r.step,y 50,y 51,y 52,y 53,y 54,y 55,y 56,y 57,y 58,y 59,y 60,y 61,y 62,y 63,y 64,y 65,y 66,y 67,y 68,y 69,y 70,y 71,y 72,y 73,y 74,y 75,y 76,y 77,y 78,y 79,y 80,y 81,y 82,y 83,y 84,y 85,y 86,y 87,y 88,y 89,y 90,y 91,y 92,y 93,y 94,y 95,y 96,y 97,y 98,y 99,y 100,y 101,y 102,y 103,y 104,y 105,y 106,y 107,y 108,y 109,y 110,y 111,y 112,y 113,y 114,y 115,y 116],defers:=[] }
theorem rd5 {P:Program} {ops:Array Oper} {Q:Exit→Act→World→Prop} {md:Region.Mode} {S:World→Prop} {fuel:Nat} {listed:Array Bool} {a:Act} {w:World} {o0 o1 o2 o3 o4:Oper} (i j k l m:Nat)
    (h0:∀ K':Act→World→Prop,Shut (∀ a w,S w→(S w→wpAnyH P md ops Q S fuel (listed.setIfInBounds i true) a w)→K' a w)→if Region.wanted o0 (yielded ops a.tmps)=true then Oper.wp P o0 a w K' Q else K' (a.put o0.dst undef) w)
    (h1:∀ K':Act→World→Prop,Shut (∀ a w,S w→(S w→wpAnyH P md ops Q S fuel (listed.setIfInBounds j true) a w)→K' a w)→if Region.wanted o1 (yielded ops a.tmps)=true then Oper.wp P o1 a w K' Q else K' (a.put o1.dst undef) w)
    (h2:∀ K':Act→World→Prop,Shut (∀ a w,S w→(S w→wpAnyH P md ops Q S fuel (listed.setIfInBounds k true) a w)→K' a w)→if Region.wanted o2 (yielded ops a.tmps)=true then Oper.wp P o2 a w K' Q else K' (a.put o2.dst undef) w)
    (h3:∀ K':Act→World→Prop,Shut (∀ a w,S w→(S w→wpAnyH P md ops Q S fuel (listed.setIfInBounds l true) a w)→K' a w)→if Region.wanted o3 (yielded ops a.tmps)=true then Oper.wp P o3 a w K' Q else K' (a.put o3.dst undef) w)
    (h4:∀ K':Act→World→Prop,Shut (∀ a w,S w→(S w→wpAnyH P md ops Q S fuel (listed.setIfInBounds m true) a w)→K' a w)→if Region.wanted o4 (yielded ops a.tmps)=true then Oper.wp P o4 a w K' Q else K' (a.put o4.dst undef) w)
    (hr:Region.ready md ops listed=[i,j,k,l,m]:=by kernel_rfl) (g0:ops[i]? = some o0:=by rfl) (g1:ops[j]? = some o1:=by rfl) (g2:ops[k]? = some o2:=by rfl) (g3:ops[l]? = some o3:=by rfl) (g4:ops[m]? = some o4:=by rfl):wpAnyH P md ops Q S (fuel+1) listed a w :=
  wpAnyH_ready (rs:=[i,j,k,l,m]) hr (by simp) (AllReadyH.cons g0 h0 (AllReadyH.cons g1 h1 (AllReadyH.cons g2 h2 (AllReadyH.cons g3 h3 (AllReadyH.cons g4 h4 AllReadyH.nil)))))
def RwV (r:Pr.Rw):Nat→List Int
 | 1=>[r.x,r.y]
 | 2=>[r.f]
 | 3=>[r.t]
 | 4=>[r.step]
 | _=>[]
def RwB (bad:Bool) (r:Pr.Rw):Nat→Bool
 | 0=>bad
 | 1=>bad || !Pr.nameOk r.name
 | 2=>(bad || !Pr.nameOk r.name) || !Pr.numsOk (RwV r 1)
 | 3=>((bad || !Pr.nameOk r.name) || !Pr.numsOk (RwV r 1)) || !Pr.numsOk (RwV r 2)
 | 4=>(((bad || !Pr.nameOk r.name) || !Pr.numsOk (RwV r 1)) || !Pr.numsOk (RwV r 2)) || !Pr.numsOk (RwV r 3)
 | _=>((((bad || !Pr.nameOk r.name) || !Pr.numsOk (RwV r 1)) || !Pr.numsOk (RwV r 2)) || !Pr.numsOk (RwV r 3)) || !Pr.numsOk (RwV r 4)
def RwW (r:Pr.Rw):Nat→Bytes
 | 0=>[]
 | 1=>Pr.tRow++r.name++Pr.tAt
 | 2=>Pr.tRow++r.name++Pr.tAt++Pr.nums (RwV r 1)++Pr.tSeats
 | 3=>Pr.tRow++r.name++Pr.tAt++Pr.nums (RwV r 1)++Pr.tSeats++Pr.nums (RwV r 2)++Pr.tTo
 | 4=>Pr.tRow++r.name++Pr.tAt++Pr.nums (RwV r 1)++Pr.tSeats++Pr.nums (RwV r 2)++Pr.tTo++Pr.nums (RwV r 3)++Pr.tStep
 | _=>Pr.tRow++r.name++Pr.tAt++Pr.nums (RwV r 1)++Pr.tSeats++Pr.nums (RwV r 2)++Pr.tTo++Pr.nums (RwV r 3)++Pr.tStep++Pr.nums (RwV r 4)
structure RwP where
 T:TypeId
 (b deep M:Nat)
 (w0 w1:World)
 bad:Bool
 out:Bytes
 v:Value
 r:Pr.Rw
 O:Array Oper
 Q0:Exit→Act→World→Prop
 A0:Act
 y:Nat→Value
 C:RowC w0 b w1 r
 hO:Hid (RowO O)
 hP:Hid (∀ c a d x w,Q0 (.panic c) (a.put d x) w→Q0 (.panic c) a w)
 hA:Hid (A0=RowA b M r y)
theorem RwP.iv (p:RwP):∀ k,∀ q ∈ RwV p.r k,Pr.I64 q:=by
 intro k q hq
 have h:=p.C.HRI.out
 unfold RwV at hq
 split at hq <;> simp only[List.mem_cons,List.not_mem_nil,or_false] at hq
 · rcases hq with rfl|rfl
   · exact h.1
   exact h.2.1
 · exact hq ▸ h.2.2.1
 · exact hq ▸ h.2.2.2.1
 exact hq ▸ h.2.2.2.2
def bits (n:Nat):Array Bool:=(Array.range 46).map fun i=>n.testBit i
def pts (A:Act) (d:Nat→Value) (l:List Nat):Act:=l.foldl (fun A i=>A.put (some i) (d i)) A
def frD:Nat→List Nat
 | 0=>[]
 | 1=>[13,14]
 | 2=>[13,14,15,24,25]
 | 3=>[13,14,15,24,25,26,33,34]
 | 4=>[13,14,15,24,25,26,33,34,35,42,43]
 | _=>[13,14,15,24,25,26,33,34,35,42,43,44,51]
def frL:Nat→Option Tmp
 | 0=>none
 | 1=>some 15
 | 2=>some 26
 | 3=>some 35
 | 4=>some 44
 | _=>some 52
def frK (d:Nat→Value) (a:Bytes) (A:Act) (k:Nat):Act:=(pts A d (frD k)).put (frL k) (.string ⟨a.toArray⟩)
def frT:Nat→Nat
 | 1=>23
 | 2=>32
 | 3=>41
 | _=>50
def frB (X:Nat→Nat) (B:List Nat) (A:Act):Act:=B.foldl (fun A i=>A.put (some (frT i)) (.slice (some ⟨X i,0,none⟩) (cond (i == 1) 2 1) (cond (i == 1) 2 1))) A
def RowS (p:RwP) (k:Nat) (B:List Nat) (fuel m:Nat):Prop:=∀ (w2:World) (d:Nat→Value) (X:Nat→Nat) (a:Bytes),Hid (Wst p.T p.b p.deep (RwB p.bad p.r k) p.out p.v w2)→Hid (Chg [p.b] p.w1 w2)→Hid (a=RwW p.r k∧a.length≤1000+100*k) →
 Hid (∀ i ∈ B,k≤i→Blk w2 (X i) ((RwV p.r i).map Pr.iv) 3∧X i≠p.b)→wpAnyH Tryz.prog .any p.O p.Q0 (fun W'=>Chg [p.b] p.w1 W') fuel (bits m) (frB X B (frK d a p.A0 k)) w2
theorem rowAct {P:Program} {md:Region.Mode} {ops:Array Oper} {Q:Exit→Act→World→Prop} {S:World→Prop} {fuel:Nat} {l l':Array Bool} {a a':Act} {w:World} (z:wpAnyH P md ops Q S fuel l a w) (h:a=a':=by kernel_rfl) (hl:l=l':=by kernel_rfl):wpAnyH P md ops Q S fuel l' a' w:=h ▸ hl ▸ z
theorem rowLit (p:RwP) {G G':Prop} (h':G') (h:G'→G:=by
  intro z
  have hlit:=p.hO.out
  unfold RowO at hlit
  simp only[Tryz.f41,findR,Option.getD,if_true,if_false,Nat.reduceEqDiff] at hlit
  injection hlit with hlit
  rw[← hlit,p.hA.out]
  simp only[RowA,frB,frK,frD,frL,pts,frT,List.foldl_cons,List.foldl_nil,Nat.reduceBEq,cond_true,cond_false,qq]
  exact z (hd hlit)):G:=h h'
theorem rowC0 {G:Prop} (h:G:=by
  intro K hK
  go_simp
  refine name_r HW2 p.r.name (fun w3 h3 h4=>?_)
  have HW3:=hd h3
  have HC3:Hid (Chg [p.b] p.w1 w3):=hd (HC2.out.trans h4 (fun q hq=>.inl hq))
  have H34:=hd h4
  refine kq hK HC3.out (fun hHeld=>?_)
  clear h3 h4
  have g1:¬ 9223372036854775807 < 4+p.r.name.length:=by have:=p.C.HRN.out;omega
  have g2:¬ 9223372036854775807 < 4+p.r.name.length+3:=by have:=p.C.HRN.out;omega
  refine tq 6 ?_ (hQ:=fun _ _ _ h=>p.hP.out _ _ _ _ _ h)
  rw[show (⟨#[114,111,119,32]⟩:ByteArray)++⟨p.r.name.toArray⟩=⟨(Pr.tRow++p.r.name).toArray⟩ from str2 _ _]
  have gz:(⟨(Pr.tRow++p.r.name).toArray⟩:ByteArray).size=4+p.r.name.length:=by rw[size_of9,List.length_append];rfl
  refine tq 7 ?_ (hQ:=fun _ _ _ h=>p.hP.out _ _ _ _ _ h)
  rw[show (⟨(Pr.tRow++p.r.name).toArray⟩:ByteArray)++⟨#[32,97,116]⟩=⟨(Pr.tRow++p.r.name++Pr.tAt).toArray⟩ from str2 _ _]
  have z:=st w3 (fun i=>bif i == 13 then .string ⟨p.r.name.toArray⟩ else bif i == 14 then .string ⟨(Pr.tRow++p.r.name).toArray⟩ else d i) X (Pr.tRow++p.r.name++Pr.tAt) HW3 HC3 (hd ⟨rfl,by have:=p.C.HRN.out;rw[List.length_append,List.length_append];show 4+_+3≤_;omega⟩) (hd (fun i hi hk=>have h:=HX.out i hi (by omega);⟨H34.out.blk h.1 (by simp[h.2]),h.2⟩));rw[← HLIT.out,p.hA.out] at z;exact rowAct z):G:=h
theorem rowC1 {G:Prop} (h:G:=by
  intro K hK
  have HXk:=HX.out 1 (by simp) (Nat.le_refl _)
  go_simp
  refine numbers_r p.C.HL p.C.HB0 (hd (p.C.HQ1.out.since HC2.out p.C.HB0.out)) HW2 (RwV p.r 1) 2 ⟨rfl,by decide⟩ (p.iv 1) HXk.1 HXk.2 (fun w3 h3 h4=>?_)
  have HW3:=hd h3
  have HC3:Hid (Chg [p.b] p.w1 w3):=hd (HC2.out.trans h4 (fun q hq=>.inl hq))
  have H34:=hd h4
  refine kq hK HC3.out (fun hHeld=>?_)
  clear h3 h4 HXk
  have gn:(Pr.nums (RwV p.r 1)).length≤44:=Pr.nums_len _ (p.iv 1)
  obtain ⟨nn,hnn⟩:∃ nn,nn=Pr.nums (RwV p.r 1):=⟨_,rfl⟩
  rw[← hnn] at gn
  rw[← hnn]
  have HNN:=hd hnn
  clear hnn
  have gl:=HA.out.2
  have g1:¬ 9223372036854775807 < a.length+nn.length:=by omega
  refine tq 17 ?_ (hQ:=fun _ _ _ h=>p.hP.out _ _ _ _ _ h)
  rw[str2]
  have gz:(⟨(a++nn).toArray⟩:ByteArray).size=a.length+nn.length:=by rw[size_of9,List.length_append]
  have g2:¬ 9223372036854775807 < a.length+nn.length+6:=by omega
  refine tq 18 ?_ (hQ:=fun _ _ _ h=>p.hP.out _ _ _ _ _ h)
  rw[show (⟨(a++nn).toArray⟩:ByteArray)++⟨#[32,115,101,97,116,115]⟩=⟨(a++nn++Pr.tSeats).toArray⟩ from str2 _ _]
  have z:=st w3 (fun i=>bif i == 15 then .string ⟨a.toArray⟩ else bif i == 24 then .string ⟨nn.toArray⟩ else bif i == 25 then .string ⟨(a++nn).toArray⟩ else d i) X (a++nn++Pr.tSeats) HW3 HC3 (hd ⟨by rw[HA.out.1,HNN.out];rfl,by rw[List.length_append,List.length_append];show _+6≤_;omega⟩) (hd (fun i hi hk=>have h:=HX.out i hi (by omega);⟨H34.out.blk h.1 (by simp[h.2]),h.2⟩));rw[← HLIT.out,p.hA.out] at z;exact rowAct z):G:=h
theorem rowC2 {G:Prop} (h:G:=by
  intro K hK
  have HXk:=HX.out 2 (by simp) (Nat.le_refl _)
  go_simp
  refine numbers_r p.C.HL p.C.HB0 (hd (p.C.HQ1.out.since HC2.out p.C.HB0.out)) HW2 (RwV p.r 2) 1 ⟨rfl,by decide⟩ (p.iv 2) HXk.1 HXk.2 (fun w3 h3 h4=>?_)
  have HW3:=hd h3
  have HC3:Hid (Chg [p.b] p.w1 w3):=hd (HC2.out.trans h4 (fun q hq=>.inl hq))
  have H34:=hd h4
  refine kq hK HC3.out (fun hHeld=>?_)
  clear h3 h4 HXk
  have gn:(Pr.nums (RwV p.r 2)).length≤22:=Pr.nums_len _ (p.iv 2)
  obtain ⟨nn,hnn⟩:∃ nn,nn=Pr.nums (RwV p.r 2):=⟨_,rfl⟩
  rw[← hnn] at gn
  rw[← hnn]
  have HNN:=hd hnn
  clear hnn
  have gl:=HA.out.2
  have g1:¬ 9223372036854775807 < a.length+nn.length:=by omega
  refine tq 26 ?_ (hQ:=fun _ _ _ h=>p.hP.out _ _ _ _ _ h)
  rw[str2]
  have gz:(⟨(a++nn).toArray⟩:ByteArray).size=a.length+nn.length:=by rw[size_of9,List.length_append]
  have g2:¬ 9223372036854775807 < a.length+nn.length+3:=by omega
  refine tq 27 ?_ (hQ:=fun _ _ _ h=>p.hP.out _ _ _ _ _ h)
  rw[show (⟨(a++nn).toArray⟩:ByteArray)++⟨#[32,116,111]⟩=⟨(a++nn++Pr.tTo).toArray⟩ from str2 _ _]
  have z:=st w3 (fun i=>bif i == 26 then .string ⟨a.toArray⟩ else bif i == 33 then .string ⟨nn.toArray⟩ else bif i == 34 then .string ⟨(a++nn).toArray⟩ else d i) X (a++nn++Pr.tTo) HW3 HC3 (hd ⟨by rw[HA.out.1,HNN.out];rfl,by rw[List.length_append,List.length_append];show _+3≤_;omega⟩) (hd (fun i hi hk=>have h:=HX.out i hi (by omega);⟨H34.out.blk h.1 (by simp[h.2]),h.2⟩));rw[← HLIT.out,p.hA.out] at z;exact rowAct z):G:=h
theorem rowC3 {G:Prop} (h:G:=by
  intro K hK
  have HXk:=HX.out 3 (by simp) (Nat.le_refl _)
  go_simp
  refine numbers_r p.C.HL p.C.HB0 (hd (p.C.HQ1.out.since HC2.out p.C.HB0.out)) HW2 (RwV p.r 3) 1 ⟨rfl,by decide⟩ (p.iv 3) HXk.1 HXk.2 (fun w3 h3 h4=>?_)
  have HW3:=hd h3
  have HC3:Hid (Chg [p.b] p.w1 w3):=hd (HC2.out.trans h4 (fun q hq=>.inl hq))
  have H34:=hd h4
  refine kq hK HC3.out (fun hHeld=>?_)
  clear h3 h4 HXk
  have gn:(Pr.nums (RwV p.r 3)).length≤22:=Pr.nums_len _ (p.iv 3)
  obtain ⟨nn,hnn⟩:∃ nn,nn=Pr.nums (RwV p.r 3):=⟨_,rfl⟩
  rw[← hnn] at gn
  rw[← hnn]
  have HNN:=hd hnn
  clear hnn
  have gl:=HA.out.2
  have g1:¬ 9223372036854775807 < a.length+nn.length:=by omega
  refine tq 35 ?_ (hQ:=fun _ _ _ h=>p.hP.out _ _ _ _ _ h)
  rw[str2]
  have gz:(⟨(a++nn).toArray⟩:ByteArray).size=a.length+nn.length:=by rw[size_of9,List.length_append]
  have g2:¬ 9223372036854775807 < a.length+nn.length+5:=by omega
  refine tq 36 ?_ (hQ:=fun _ _ _ h=>p.hP.out _ _ _ _ _ h)
  rw[show (⟨(a++nn).toArray⟩:ByteArray)++⟨#[32,115,116,101,112]⟩=⟨(a++nn++Pr.tStep).toArray⟩ from str2 _ _]
  have z:=st w3 (fun i=>bif i == 35 then .string ⟨a.toArray⟩ else bif i == 42 then .string ⟨nn.toArray⟩ else bif i == 43 then .string ⟨(a++nn).toArray⟩ else d i) X (a++nn++Pr.tStep) HW3 HC3 (hd ⟨by rw[HA.out.1,HNN.out];rfl,by rw[List.length_append,List.length_append];show _+5≤_;omega⟩) (hd (fun i hi hk=>have h:=HX.out i hi (by omega);⟨H34.out.blk h.1 (by simp[h.2]),h.2⟩));rw[← HLIT.out,p.hA.out] at z;exact rowAct z):G:=h
theorem rowC4 {G:Prop} (h:G:=by
  intro K hK
  have HXk:=HX.out 4 (by simp) (Nat.le_refl _)
  go_simp
  refine numbers_r p.C.HL p.C.HB0 (hd (p.C.HQ1.out.since HC2.out p.C.HB0.out)) HW2 (RwV p.r 4) 1 ⟨rfl,by decide⟩ (p.iv 4) HXk.1 HXk.2 (fun w3 h3 h4=>?_)
  have HW3:=hd h3
  have HC3:Hid (Chg [p.b] p.w1 w3):=hd (HC2.out.trans h4 (fun q hq=>.inl hq))
  have H34:=hd h4
  refine kq hK HC3.out (fun hHeld=>?_)
  clear h3 h4 HXk
  have gn:(Pr.nums (RwV p.r 4)).length≤22:=Pr.nums_len _ (p.iv 4)
  obtain ⟨nn,hnn⟩:∃ nn,nn=Pr.nums (RwV p.r 4):=⟨_,rfl⟩
  rw[← hnn] at gn
  rw[← hnn]
  have HNN:=hd hnn
  clear hnn
  have gl:=HA.out.2
  have g1:¬ 9223372036854775807 < a.length+nn.length:=by omega
  refine tq 44 ?_ (hQ:=fun _ _ _ h=>p.hP.out _ _ _ _ _ h)
  rw[str2]
  have z:=st w3 (fun i=>bif i == 44 then .string ⟨a.toArray⟩ else bif i == 51 then .string ⟨nn.toArray⟩ else d i) X (a++nn) HW3 HC3 (hd ⟨by rw[HA.out.1,HNN.out];rfl,by rw[List.length_append];omega⟩) (hd (fun i hi hk=>have h:=HX.out i hi (by omega);⟨H34.out.blk h.1 (by simp[h.2]),h.2⟩));rw[← HLIT.out,p.hA.out] at z;exact rowAct z):G:=h
theorem rowB1 {G:Prop} (h:G:=by
  intro K hK
  go_simp
  obtain ⟨w3,hw3⟩:∃ W,W=w2.alloc (.cells #[.int .i64 p.r.x,.int .i64 p.r.y] 3):=⟨_,rfl⟩
  rw[← hw3]
  obtain ⟨Y,hY⟩:∃ X,X=w2.heap.size:=⟨_,rfl⟩
  rw[← hY]
  have HY:Hid (Blk w3 Y ((RwV p.r 1).map Pr.iv) 3∧Y≠p.b):=hd ⟨by rw[hw3,hY];exact Blk.new w2 [.int .i64 p.r.x,.int .i64 p.r.y] _,by have:=HW2.out.lt;omega⟩
  have C3:=newC hw3
  have HC3:Hid (Chg [p.b] p.w1 w3):=hd (HC2.out.trans C3.out (by simp))
  have HW3:=hd (HW2.out.quiet C3.out)
  refine kq hK HC3.out (fun hHeld=>?_)
  clear hw3 hY
  have z:=s1 w3 d (fun j=>bif j == 1 then Y else X j) a HW3 HC3 HA (hd (fun j hj hk=>by by_cases e:j=1;(subst e;exact HY.out);have h:=HX.out j (by simp only[List.mem_cons,List.not_mem_nil,or_false] at hj ⊢;omega) hk;rw[show (j == 1)=false from by simp[e]];exact ⟨C3.out.blk h.1 (by simp),h.2⟩));rw[← HLIT.out,p.hA.out] at z;exact rowAct z):G:=h
theorem rowB2 {G:Prop} (h:G:=by
  intro K hK
  go_simp
  obtain ⟨w3,hw3⟩:∃ W,W=w2.alloc (.cells #[.int .i64 p.r.f] 3):=⟨_,rfl⟩
  rw[← hw3]
  obtain ⟨Y,hY⟩:∃ X,X=w2.heap.size:=⟨_,rfl⟩
  rw[← hY]
  have HY:Hid (Blk w3 Y ((RwV p.r 2).map Pr.iv) 3∧Y≠p.b):=hd ⟨by rw[hw3,hY];exact Blk.new w2 [.int .i64 p.r.f] _,by have:=HW2.out.lt;omega⟩
  have C3:=newC hw3
  have HC3:Hid (Chg [p.b] p.w1 w3):=hd (HC2.out.trans C3.out (by simp))
  have HW3:=hd (HW2.out.quiet C3.out)
  refine kq hK HC3.out (fun hHeld=>?_)
  clear hw3 hY
  have z:=s2 w3 d (fun j=>bif j == 2 then Y else X j) a HW3 HC3 HA (hd (fun j hj hk=>by by_cases e:j=2;(subst e;exact HY.out);have h:=HX.out j (by simp only[List.mem_cons,List.not_mem_nil,or_false] at hj ⊢;omega) hk;rw[show (j == 2)=false from by simp[e]];exact ⟨C3.out.blk h.1 (by simp),h.2⟩));rw[← HLIT.out,p.hA.out] at z;exact rowAct z):G:=h
theorem rowB3 {G:Prop} (h:G:=by
  intro K hK
  go_simp
  obtain ⟨w3,hw3⟩:∃ W,W=w2.alloc (.cells #[.int .i64 p.r.t] 3):=⟨_,rfl⟩
  rw[← hw3]
  obtain ⟨Y,hY⟩:∃ X,X=w2.heap.size:=⟨_,rfl⟩
  rw[← hY]
  have HY:Hid (Blk w3 Y ((RwV p.r 3).map Pr.iv) 3∧Y≠p.b):=hd ⟨by rw[hw3,hY];exact Blk.new w2 [.int .i64 p.r.t] _,by have:=HW2.out.lt;omega⟩
  have C3:=newC hw3
  have HC3:Hid (Chg [p.b] p.w1 w3):=hd (HC2.out.trans C3.out (by simp))
  have HW3:=hd (HW2.out.quiet C3.out)
  refine kq hK HC3.out (fun hHeld=>?_)
  clear hw3 hY
  have z:=s3 w3 d (fun j=>bif j == 3 then Y else X j) a HW3 HC3 HA (hd (fun j hj hk=>by by_cases e:j=3;(subst e;exact HY.out);have h:=HX.out j (by simp only[List.mem_cons,List.not_mem_nil,or_false] at hj ⊢;omega) hk;rw[show (j == 3)=false from by simp[e]];exact ⟨C3.out.blk h.1 (by simp),h.2⟩));rw[← HLIT.out,p.hA.out] at z;exact rowAct z):G:=h
theorem rowB4 {G:Prop} (h:G:=by
  intro K hK
  go_simp
  obtain ⟨w3,hw3⟩:∃ W,W=w2.alloc (.cells #[.int .i64 p.r.step] 3):=⟨_,rfl⟩
  rw[← hw3]
  obtain ⟨Y,hY⟩:∃ X,X=w2.heap.size:=⟨_,rfl⟩
  rw[← hY]
  have HY:Hid (Blk w3 Y ((RwV p.r 4).map Pr.iv) 3∧Y≠p.b):=hd ⟨by rw[hw3,hY];exact Blk.new w2 [.int .i64 p.r.step] _,by have:=HW2.out.lt;omega⟩
  have C3:=newC hw3
  have HC3:Hid (Chg [p.b] p.w1 w3):=hd (HC2.out.trans C3.out (by simp))
  have HW3:=hd (HW2.out.quiet C3.out)
  refine kq hK HC3.out (fun hHeld=>?_)
  clear hw3 hY
  have z:=s4 w3 d (fun j=>bif j == 4 then Y else X j) a HW3 HC3 HA (hd (fun j hj hk=>by by_cases e:j=4;(subst e;exact HY.out);have h:=HX.out j (by simp only[List.mem_cons,List.not_mem_nil,or_false] at hj ⊢;omega) hk;rw[show (j == 4)=false from by simp[e]];exact ⟨C3.out.blk h.1 (by simp),h.2⟩));rw[← HLIT.out,p.hA.out] at z;exact rowAct z):G:=h
end Go.Proofs.YtglepipfdmphhaaGreatDoor
