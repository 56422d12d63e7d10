/-
  Short laws for the walk through a region that draws its order.
-/
import Derived.Test.YtglepipfdmphhaaGreatDoorHeap
import Derived.OrdersHeld
import Derived.Deep.DrawnRows
import Derived.Deep.RegionHeld3
namespace Go.Proofs.YtglepipfdmphhaaGreatDoor
set_option linter.unusedVariables false
open Go Go.RowKit
theorem qq:(∀ (a:Act) (v:Value) (d:Tmp),a.put (some d) v = { tmps:=a.tmps.setIfInBounds d v,defers:=a.defers })∧(∀ (a:Act) (v:Value),a.put none v=a)∧(∀ {α:Type} (l:List α) (i:Nat) (v:α),l.toArray.setIfInBounds i v=(l.set i v).toArray)∧(∀ {α:Type} (a v:α) (l:List α),(a :: l).set 0 v=v :: l)∧(∀ {α:Type} (a v:α) (l:List α) (i:Nat),(a :: l).set (i+1) v=a :: l.set i v)∧(∀ {α:Type} (l:List α) (i:Nat) (h:i < l.toArray.size),l.toArray[i]=l[i]'(by simpa using h))∧(∀ {α:Type} (a:α) (l:List α) (i:Nat) (h:i+1 < (a :: l).length),(a :: l)[i+1]=l[i]'(Nat.lt_of_succ_lt_succ h))∧∀ {α:Type} (a:α) (l:List α) (h:0 < (a :: l).length),(a :: l)[0]=a :=
  ⟨fun _ _ _=>rfl,fun _ _=>rfl,fun _ _ _=>List.setIfInBounds_toArray ..,fun _ _ _=>rfl,fun _ _ _ _=>rfl,fun _ _ _=>rfl,fun _ _ _ _=>rfl,fun _ _ _=>rfl⟩
theorem tk {P:Program} {ops:Array Oper} {Q:Exit→Act→World→Prop} {S:World→Prop} {md:Region.Mode} {oi:Oper} {fuel:Nat} {listed:Array Bool} {a:Act} {w:World} (i:Nat) (v:Value)
    (hy:∀ w':World,S w'→(execOp a.eval oi).run P w' = .ok (.value v) w') (h:wpAnyH P md ops Q S fuel (listed.setIfInBounds i true) (a.put oi.dst v) w)
    (hi:ops[i]? = some oi:=by rfl) (hs:Region.noSelect ops=true:=by kernel_rfl) (hf:Region.free md ops listed i=true:=by kernel_rfl) (hr:(Region.ready md ops listed).contains i=true:=by kernel_rfl)
    (hw:Region.wanted oi (yielded ops a.tmps)=true:=by kernel_rfl)
    (hQ:∀ c a w,Q (.panic c) (a.put oi.dst v) w→Q (.panic c) a w:=by exact fun _ _ _ h=>h) (hS:S w:=by assumption):wpAnyH P md ops Q S (fuel+1) listed a w :=
  wpAnyH_take hi hs hf hr hQ (Or.inl ⟨hw,hy⟩) hS h
theorem rd1 {P:Program} {ops:Array Oper} {Q:Exit→Act→World→Prop} {md:Region.Mode} {S:World→Prop} {fuel:Nat} {listed:Array Bool} {a:Act} {w:World} {o0:Oper} (i:Nat)
    (h0:∀ K':Act→World→Prop,Shut (∀ a w,S w→(S w→wpAnyH P md ops Q S fuel (listed.setIfInBounds i true) a w)→K' a w)→if Region.wanted o0 (yielded ops a.tmps)=true then Oper.wp P o0 a w K' Q else K' (a.put o0.dst undef) w)
    (hr:Region.ready md ops listed=[i]:=by kernel_rfl) (g0:ops[i]? = some o0:=by rfl):wpAnyH P md ops Q S (fuel+1) listed a w :=
  wpAnyH_ready (rs:=[i]) hr (by simp) (AllReadyH.cons g0 h0 AllReadyH.nil)
theorem rd2 {P:Program} {ops:Array Oper} {Q:Exit→Act→World→Prop} {md:Region.Mode} {S:World→Prop} {fuel:Nat} {listed:Array Bool} {a:Act} {w:World} {o0:Oper} {o1:Oper} (i j:Nat)
    (h0:∀ K':Act→World→Prop,Shut (∀ a w,S w→(S w→wpAnyH P md ops Q S fuel (listed.setIfInBounds i true) a w)→K' a w)→if Region.wanted o0 (yielded ops a.tmps)=true then Oper.wp P o0 a w K' Q else K' (a.put o0.dst undef) w)
    (h1:∀ K':Act→World→Prop,Shut (∀ a w,S w→(S w→wpAnyH P md ops Q S fuel (listed.setIfInBounds j true) a w)→K' a w)→if Region.wanted o1 (yielded ops a.tmps)=true then Oper.wp P o1 a w K' Q else K' (a.put o1.dst undef) w)
    (hr:Region.ready md ops listed=[i,j]:=by kernel_rfl) (g0:ops[i]? = some o0:=by rfl) (g1:ops[j]? = some o1:=by rfl):wpAnyH P md ops Q S (fuel+1) listed a w :=
  wpAnyH_ready (rs:=[i,j]) hr (by simp) (AllReadyH.cons g0 h0 (AllReadyH.cons g1 h1 AllReadyH.nil))
theorem rd3 {P:Program} {ops:Array Oper} {Q:Exit→Act→World→Prop} {md:Region.Mode} {S:World→Prop} {fuel:Nat} {listed:Array Bool} {a:Act} {w:World} {o0:Oper} {o1:Oper} {o2:Oper} (i j k:Nat)
    (h0:∀ K':Act→World→Prop,Shut (∀ a w,S w→(S w→wpAnyH P md ops Q S fuel (listed.setIfInBounds i true) a w)→K' a w)→if Region.wanted o0 (yielded ops a.tmps)=true then Oper.wp P o0 a w K' Q else K' (a.put o0.dst undef) w)
    (h1:∀ K':Act→World→Prop,Shut (∀ a w,S w→(S w→wpAnyH P md ops Q S fuel (listed.setIfInBounds j true) a w)→K' a w)→if Region.wanted o1 (yielded ops a.tmps)=true then Oper.wp P o1 a w K' Q else K' (a.put o1.dst undef) w)
    (h2:∀ K':Act→World→Prop,Shut (∀ a w,S w→(S w→wpAnyH P md ops Q S fuel (listed.setIfInBounds k true) a w)→K' a w)→if Region.wanted o2 (yielded ops a.tmps)=true then Oper.wp P o2 a w K' Q else K' (a.put o2.dst undef) w)
    (hr:Region.ready md ops listed=[i,j,k]:=by kernel_rfl) (g0:ops[i]? = some o0:=by rfl) (g1:ops[j]? = some o1:=by rfl) (g2:ops[k]? = some o2:=by rfl):wpAnyH P md ops Q S (fuel+1) listed a w :=
  wpAnyH_ready (rs:=[i,j,k]) hr (by simp) (AllReadyH.cons g0 h0 (AllReadyH.cons g1 h1 (AllReadyH.cons g2 h2 AllReadyH.nil)))
theorem rd4 {P:Program} {ops:Array Oper} {Q:Exit→Act→World→Prop} {md:Region.Mode} {S:World→Prop} {fuel:Nat} {listed:Array Bool} {a:Act} {w:World} {o0:Oper} {o1:Oper} {o2:Oper} {o3:Oper} (i j k l:Nat)
    (h0:∀ K':Act→World→Prop,Shut (∀ a w,S w→(S w→wpAnyH P md ops Q S fuel (listed.setIfInBounds i true) a w)→K' a w)→if Region.wanted o0 (yielded ops a.tmps)=true then Oper.wp P o0 a w K' Q else K' (a.put o0.dst undef) w)
    (h1:∀ K':Act→World→Prop,Shut (∀ a w,S w→(S w→wpAnyH P md ops Q S fuel (listed.setIfInBounds j true) a w)→K' a w)→if Region.wanted o1 (yielded ops a.tmps)=true then Oper.wp P o1 a w K' Q else K' (a.put o1.dst undef) w)
    (h2:∀ K':Act→World→Prop,Shut (∀ a w,S w→(S w→wpAnyH P md ops Q S fuel (listed.setIfInBounds k true) a w)→K' a w)→if Region.wanted o2 (yielded ops a.tmps)=true then Oper.wp P o2 a w K' Q else K' (a.put o2.dst undef) w)
    (h3:∀ K':Act→World→Prop,Shut (∀ a w,S w→(S w→wpAnyH P md ops Q S fuel (listed.setIfInBounds l true) a w)→K' a w)→if Region.wanted o3 (yielded ops a.tmps)=true then Oper.wp P o3 a w K' Q else K' (a.put o3.dst undef) w)
    (hr:Region.ready md ops listed=[i,j,k,l]:=by kernel_rfl) (g0:ops[i]? = some o0:=by rfl) (g1:ops[j]? = some o1:=by rfl) (g2:ops[k]? = some o2:=by rfl) (g3:ops[l]? = some o3:=by rfl):wpAnyH P md ops Q S (fuel+1) listed a w :=
  wpAnyH_ready (rs:=[i,j,k,l]) hr (by simp) (AllReadyH.cons g0 h0 (AllReadyH.cons g1 h1 (AllReadyH.cons g2 h2 (AllReadyH.cons g3 h3 AllReadyH.nil))))
theorem hd {p:Prop} (h:p):Hid p:=h
theorem al1 {p:Nat→Prop} {a:Nat} (h:p a):∀ k ∈ [a],p k:=fun k hk=>by rw[List.mem_singleton] at hk;exact hk ▸ h
theorem al2 {p:Nat→Prop} {a b:Nat} (h:p a) (h1:p b):∀ k ∈ [a,b],p k:=fun k hk=>(List.mem_cons.1 hk).elim (fun e=>e ▸ h) (al1 h1 k)
theorem Blk.alE {w W:World} {b:Nat} {cs:List Value} {e:TypeId} {o:Obj} (h:Blk w b cs e) (hW:W=w.alloc o):Blk W b cs e:=hW ▸ h.alloc o
theorem Chg.alE {own:List Nat} {u w W:World} {o:Obj} (h:Chg own u w) (hW:W=w.alloc o):Chg own u W:=hW ▸ h.alloc o
theorem Hid.al {w W:World} {b:Nat} {cs:List Value} {e:TypeId} {o:Obj} (h:Hid (Blk w b cs e)) (hW:W=w.alloc o):Hid (Blk W b cs e):=hW ▸ h.out.alloc o
theorem newB {w W:World} {X:Nat} {cs:List Value} {e:TypeId} (hW:W=w.alloc (.cells cs.toArray e)) (hX:X=w.heap.size):Hid (Blk W X cs e):=by rw[hW,hX];exact Blk.new w cs e
theorem newC {w W:World} {o:Obj} (hW:W=w.alloc o):Hid (Chg [] w W):=by rw[hW];exact (Chg.refl _ _).alloc _
theorem tq {P:Program} {ops:Array Oper} {Q:Exit→Act→World→Prop} {S:World→Prop} {md:Region.Mode} {oi:Oper} {fuel:Nat} {listed:Array Bool} {a a1:Act} {w:World} {v:Value} (i:Nat)
    (h:wpAnyH P md ops Q S fuel (listed.setIfInBounds i true) a1 w) (hi:ops[i]? = some oi:=by rfl)
    (hy:∀ w':World,S w'→(execOp a.eval oi).run P w' = .ok (.value v) w':=by intro w9 hSw;go_simp;try with_reducible rfl)
    (ha:a.put oi.dst v=a1:=by first|(simp only[qq];exact rfl)|exact rfl)
    (hs:(Region.noSelect ops && Region.free md ops listed i && (Region.ready md ops listed).contains i && Region.wanted oi (yielded ops a.tmps))=true:=by kernel_rfl)
    (hQ:∀ c a w,Q (.panic c) (a.put oi.dst v) w→Q (.panic c) a w:=by exact fun _ _ _ h=>h) (hS:S w:=by assumption):wpAnyH P md ops Q S (fuel+1) listed a w:=by
  subst ha
  simp only[Bool.and_eq_true] at hs
  exact wpAnyH_take hi hs.1.1.1 hs.1.1.2 hs.1.2 hQ (Or.inl ⟨hs.2,hy⟩) hS h
theorem tq1 {P:Program} {ops:Array Oper} {Q:Exit→Act→World→Prop} {S E:World→Prop} {md:Region.Mode} {oi:Oper} {fuel:Nat} {listed:Array Bool} {a a1:Act} {w:World} {v:Value} (i:Nat) (he:∀ w':World,S w'→E w')
    (h:wpAnyH P md ops Q S fuel (listed.setIfInBounds i true) a1 w) (hi:ops[i]? = some oi:=by rfl)
    (hy:∀ w':World,E w'→(execOp a.eval oi).run P w' = .ok (.value v) w':=by intro w9 hSw;go_simp;try with_reducible rfl)
    (ha:a.put oi.dst v=a1:=by first|(simp only[qq];exact rfl)|exact rfl)
    (hs:(Region.noSelect ops && Region.free md ops listed i && (Region.ready md ops listed).contains i && Region.wanted oi (yielded ops a.tmps))=true:=by kernel_rfl)
    (hQ:∀ c a w,Q (.panic c) (a.put oi.dst v) w→Q (.panic c) a w:=by exact fun _ _ _ h=>h) (hS:S w:=by assumption):wpAnyH P md ops Q S (fuel+1) listed a w :=
  tq i h hi (fun w' hw'=>hy w' (he w' hw')) ha hs hQ hS
theorem kq {P:Program} {ops:Array Oper} {Q:Exit→Act→World→Prop} {S:World→Prop} {md:Region.Mode} {fuel:Nat} {listed:Array Bool} {a a1:Act} {w:World} {K:Act→World→Prop}
    (hK:Shut (∀ a w,S w→(S w→wpAnyH P md ops Q S fuel listed a w)→K a w)) (hS:S w) (h:S w→wpAnyH P md ops Q S fuel listed a1 w) (ha:a=a1:=by first|(simp only[qq];exact rfl)|exact rfl):K a w:=by
  subst ha
  exact hK.out _ _ hS h
theorem dq {P:Program} {ops:Array Oper} {Q:Exit→Act→World→Prop} {S:World→Prop} {md:Region.Mode} {fuel:Nat} {listed:Array Bool} {a a1:Act} {w:World} (h:Q .normal a1 w) (hr:(Region.ready md ops listed == [])=true:=by kernel_rfl) (ha:a=a1:=by first|(simp only[qq];exact rfl)|exact rfl):wpAnyH P md ops Q S fuel listed a w:=by
  subst ha
  exact wpAnyH_done (eq_of_beq hr) h _
end Go.Proofs.YtglepipfdmphhaaGreatDoor
