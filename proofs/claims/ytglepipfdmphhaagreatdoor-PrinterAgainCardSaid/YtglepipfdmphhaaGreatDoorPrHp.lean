/-
  PrM, PrS, PrHp in one text.
-/
import Derived.Test.YtglepipfdmphhaaGreatDoorPrL
import Derived.Test.YtglepipfdmphhaaGreatDoorPoC
import Derived.Test.YtglepipfdmphhaaGreatDoorPrRp
namespace Go.Proofs.YtglepipfdmphhaaGreatDoor
set_option linter.unusedVariables false
set_option linter.unusedSimpArgs false
open Go Go.RowKit
namespace Pr
open Lx (Tk)
open Rl (Out)
def cvM (m:Mk):Pn.Mk:=⟨m.kind.toNat,m.seat.toNat,m.w.toNat⟩
def cvR (r:Rw):Pn.Rw:=⟨r.name,r.x.toNat,r.y.toNat,r.f.toNat,r.t.toNat,r.step.toNat,r.marks.map cvM,0⟩
def cvB (b:Bl):Pn.Bl:=⟨b.name,b.rows.map cvR,0⟩
def cvX (b:Bx):Pn.Bx:=⟨b.x.toNat,b.y.toNat,b.x2.toNat,b.y2.toNat⟩
def cvA (a:Ar):Pn.Ar:=⟨a.name,cvX a.box,a.holds.toNat,0⟩
def cvP (p:Int × Int):Nat × Nat:=(p.1.toNat,p.2.toNat)
def cvL (l:Lv):Pn.Lv:=⟨l.name,l.height.toNat,l.blocks.map cvB,l.areas.map cvA,l.aisles.map cvX,l.pillars.map cvX,l.doors.map cvP,0⟩
def cvH (h:Hl):Pn.Hl:=⟨h.name,h.sx.toNat,h.sy.toNat,h.levels.map cvL⟩
theorem must_n (x:Bytes) (l:List Tk):Pn.must x (tkN x :: l) = .ok () l:=by simp[Pn.must,Pn.isw,tkN]
theorem must_s (x:Bytes) (l:List Tk):Pn.must x (tkS x :: l) = .ok () l:=by simp[Pn.must,Pn.isw,tkS]
theorem num_i (n:Int) (l:List Tk):Pn.num (tkI n :: l) = .ok n.toNat l:=rfl
theorem name_n (x:Bytes) (l:List Tk):Pn.name (tkN x :: l) = .ok x l:=rfl
theorem at_n (x:Bytes) (l:List Tk):Pn.atO (tkN x :: l) = .ok 0 (tkN x :: l):=rfl
theorem bind_ok {α β:Type} (a:α) (r:List Tk) (k:α→List Tk→Out β):(Out.ok a r).bind k=k a r:=rfl
theorem num2_i (a b:Int) (l:List Tk):Pn.num2 (tkI a :: tkI b :: l) = .ok (a.toNat,b.toNat) l:=rfl
theorem box_i (b:Bx) (l:List Tk):Pn.box ((boxN b).map tkI++l) = .ok (cvX b) l:=rfl
theorem mRow (l:List Tk):Pn.must Pn.wRow (tkN [114,111,119] :: l) = .ok () l:=must_n _ l
theorem mAt (l:List Tk):Pn.must Pn.wAt (tkN tAt.tail :: l) = .ok () l:=must_n _ l
theorem mSeats (l:List Tk):Pn.must Pn.wSeats (tkN tSeats.tail :: l) = .ok () l:=must_n _ l
theorem mTo (l:List Tk):Pn.must Pn.wTo (tkN tTo.tail :: l) = .ok () l:=must_n _ l
theorem mStep (l:List Tk):Pn.must Pn.wStep (tkN tStep.tail :: l) = .ok () l:=must_n _ l
theorem mOf (l:List Tk):Pn.must Pn.wOf (tkN tOf.tail :: l) = .ok () l:=must_n _ l
theorem mHolds (l:List Tk):Pn.must Pn.wHolds (tkN tHolds.tail :: l) = .ok () l:=must_n _ l
theorem mHeight (l:List Tk):Pn.must Pn.wHeight (tkN tHeight.tail :: l) = .ok () l:=must_n _ l
theorem mStage (l:List Tk):Pn.must Pn.wStage (tkN tStage.tail :: l) = .ok () l:=must_n _ l
theorem mLevel (l:List Tk):Pn.must Pn.wLevel (tkN [108,101,118,101,108] :: l) = .ok () l:=must_n _ l
theorem mHall (l:List Tk):Pn.must Pn.wHall (tkN [104,97,108,108] :: l) = .ok () l:=must_n _ l
theorem mSemi (l:List Tk):Pn.must Pn.cSemi (tkS [59] :: l) = .ok () l:=must_s _ l
theorem mOpen (l:List Tk):Pn.must Pn.cOpen (tkS [123] :: l) = .ok () l:=must_s _ l
theorem loopG_all {α β:Type} {stop:List Tk→Bool} {one:List Tk→Out α} {g:β→List Tk} {v:β→α} {rest:List Tk} (hs:stop rest=true):∀ (xs:List β),(∀ x ∈ xs,∀ r,stop (g x++r)=false∧one (g x++r) = .ok (v x) r) →
    ∀ (f:Nat) (acc:List α),xs.length < f→Pn.loopG stop one f acc (xs.flatMap g++rest) = .ok (acc++xs.map v) rest
  | [],_,f,acc,hf=>by
    cases f with
    | zero=>omega
    | succ f =>
      unfold Pn.loopG
      simp[hs]
  | x :: xs,h,f,acc,hf=>by
    cases f with
    | zero=>omega
    | succ f =>
      obtain ⟨h1,h2⟩:=h x (by simp) (xs.flatMap g++rest)
      unfold Pn.loopG
      rw[List.flatMap_cons,List.append_assoc,h1,if_neg (by decide),h2,bind_ok,loopG_all hs xs (fun y hy=>h y (by simp[hy])) f _ (by simp at hf;omega)]
      simp
theorem flat_len {β:Type} {g:β→List Tk} (rest:List Tk):∀ (xs:List β),(∀ x ∈ xs,g x≠[])→xs.length≤(xs.flatMap g++rest).length
  | [],_=>by simp
  | x :: xs,h=>by
    have h1:=flat_len rest xs (fun y hy=>h y (by simp[hy]))
    have h2:=List.length_pos_iff.2 (h x (by simp))
    rw[List.flatMap_cons,List.append_assoc,List.length_append,List.length_cons]
    omega
theorem loop_all {α β:Type} {stop:List Tk→Bool} {one:List Tk→Out α} {g:β→List Tk} {v:β→α} {rest:List Tk} (hs:stop rest=true) (xs:List β) (h:∀ x ∈ xs,∀ r,stop (g x++r)=false∧one (g x++r) = .ok (v x) r) (hg:∀ x ∈ xs,g x≠[]) :
    Pn.loop stop one (xs.flatMap g++rest) = .ok (xs.map v) rest:=by
  unfold Pn.loop
  rw[loopG_all hs xs h _ _ (by have:=flat_len rest xs hg;omega)]
  rfl
theorem braced_all {α β:Type} {one:List Tk→Out α} {g:β→List Tk} {v:β→α} (rest:List Tk) (xs:List β) (h:∀ x ∈ xs,∀ r,one (g x++r) = .ok (v x) r) (hg:∀ x ∈ xs,∃ k t,g x=tkN k :: t∧k≠[125]) :
    Pn.braced one (xs.flatMap g++tkS [125] :: rest) = .ok (xs.map v) rest:=by
  unfold Pn.braced
  rw[loop_all (stop:=Pn.isw Pn.cClose) (v:=v) rfl xs (fun x hx r=>⟨?_,h x hx r⟩) (fun x hx=>?_)]
  · rfl
  · obtain ⟨k,t,e,hk⟩:=hg x hx
    rw[e]
    simp[Pn.isw,tkN,Pn.cClose,hk]
  obtain ⟨k,t,e,_⟩:=hg x hx
  rw[e]
  simp
theorem mark_c {m:Mk} (h:markOk m=true) (r:List Tk):Pn.mkc (markT m++r)=m.kind.toNat∧m.kind.toNat≠0∧(m.kind.toNat=4↔m.kind=4)∧(m.kind≠4→m.w=0):=by
  unfold markOk at h
  obtain ⟨h1,h⟩:=and2 h
  obtain ⟨h2,h⟩:=and2 h
  obtain ⟨h3,h⟩:=and2 h
  have h1:=of_decide_eq_true h1
  have h2:=of_decide_eq_true h2
  have h3:=of_decide_eq_true h3
  refine ⟨?_,by omega,by omega,fun hn=>h3.resolve_left hn⟩
  obtain ⟨k,s,w⟩:=m
  have hk:k=1∨k=2∨k=3∨k=4:=by simp at h1 h2;omega
  rcases hk with rfl|rfl|rfl|rfl <;> rfl
theorem mark_read {m:Mk} (h:markOk m=true) (r:List Tk):Pn.mark (markT m++r) = .ok (cvM m) r:=by
  obtain ⟨h1,h2,h3,h4⟩:=mark_c h r
  unfold Pn.mark
  rw[h1]
  unfold markT
  by_cases hk:m.kind=4
  · simp only[if_pos (h3.2 hk),if_pos hk]
    show (Pn.num (tkI m.seat :: tkN tOf.tail :: tkI m.w :: r)).bind _=_
    rw[num_i,bind_ok,mOf,bind_ok,num_i,bind_ok]
    rfl
  simp only[if_neg (fun e=>hk (h3.1 e)),if_neg hk]
  show (Pn.num (tkI m.seat :: r)).bind _=_
  rw[num_i,bind_ok]
  unfold cvM
  rw[h4 hk]
  rfl
theorem marks_read {ms:List Mk} (h:∀ m ∈ ms,markOk m=true) (r:List Tk):Pn.marks (ms.flatMap markT++tkS [59] :: r) = .ok (ms.map cvM) (tkS [59] :: r):=by
  unfold Pn.marks
  refine loop_all rfl ms (fun m hm r=>⟨?_,mark_read (h m hm) r⟩) (fun m _=>by simp[markT])
  obtain ⟨h1,h2,_⟩:=mark_c (h m hm) r
  rw[h1]
  exact decide_eq_false h2
theorem row_read {r:Rw} (h:rowOk r=true) (q:List Tk):Pn.row (rowT r++q) = .ok (cvR r) q:=by
  unfold rowOk at h
  obtain ⟨hn,h⟩:=and2 h
  obtain ⟨hs,hm⟩:=and2 h
  have e:rowT r++q=tkN [114,111,119] :: tkN r.name :: tkN tAt.tail :: tkI r.x :: tkI r.y :: tkN tSeats.tail :: tkI r.f :: tkN tTo.tail :: tkI r.t :: tkN tStep.tail :: tkI r.step :: (r.marks.flatMap markT++tkS [59] :: q):=by simp[rowT,rowHT]
  rw[e]
  unfold Pn.row
  simp only[at_n,bind_ok,mRow,name_n,mAt,num2_i,mSeats,num_i,mTo,mStep,marks_read (List.all_eq_true.1 hm),mSemi]
  rfl
theorem block_read {b:Bl} (h:blockOk b=true) (q:List Tk):Pn.block 0 (tkN b.name :: tkS [123] :: (b.rows.flatMap rowT++tkS [125] :: q)) = .ok (cvB b) q:=by
  unfold blockOk at h
  obtain ⟨hn,h⟩:=and2 h
  unfold Pn.block
  simp only[name_n,bind_ok,mOpen,braced_all q b.rows (fun r hr t=>row_read (List.all_eq_true.1 h r hr) t) (fun r _=>⟨_,_,rfl,by decide⟩)]
  rfl
theorem area_read (a:Ar) (q:List Tk):Pn.area 0 (tkN a.name :: ((boxN a.box).map tkI++tkN tHolds.tail :: tkI a.holds :: tkS [59] :: q)) = .ok (cvA a) q:=by
  unfold Pn.area
  simp only[name_n,bind_ok,box_i,mHolds,num_i,mSemi]
  rfl
theorem boxS_read (b:Bx) (q:List Tk):Pn.boxS ((boxN b).map tkI++tkS [59] :: q) = .ok (cvX b) q:=by
  unfold Pn.boxS
  simp only[box_i,bind_ok,mSemi]
theorem door_read (p:Int × Int) (q:List Tk):Pn.door (tkI p.1 :: tkI p.2 :: tkS [59] :: q) = .ok (cvP p) q:=by
  unfold Pn.door
  simp only[num2_i,bind_ok,mSemi]
  rfl
inductive Pit where
  | b (x:Bl)
  | a (x:Ar)
  | i (x:Bx)
  | p (x:Bx)
  | d (x:Int × Int)
def Pit.tok:Pit→List Tk
  | .b x=>blockT x
  | .a x=>areaT x
  | .i x=>aisleT x
  | .p x=>pillarT x
  | .d x=>doorT x
def Pit.val:Pit→Pn.It
  | .b x=>.block (cvB x)
  | .a x=>.area (cvA x)
  | .i x=>.aisle (cvX x)
  | .p x=>.pillar (cvX x)
  | .d x=>.door (cvP x)
def Pit.ok:Pit→Bool
  | .b x=>blockOk x
  | _=>true
theorem item_read {x:Pit} (h:x.ok=true) (q:List Tk):Pn.item (x.tok++q) = .ok x.val q:=by
  unfold Pn.item
  cases x with
  | b x =>
    have e:Pit.tok (.b x)++q=tkN [98,108,111,99,107] :: tkN x.name :: tkS [123] :: (x.rows.flatMap rowT++tkS [125] :: q):=by simp[Pit.tok,blockT]
    rw[e,at_n,bind_ok,if_neg (by show ¬ (1=0);decide)]
    show (Pn.block 0 _).bind _=_
    rw[List.tail_cons,block_read h]
    rfl
  | a x =>
    have e:Pit.tok (.a x)++q=tkN [97,114,101,97] :: tkN x.name :: ((boxN x.box).map tkI++tkN tHolds.tail :: tkI x.holds :: tkS [59] :: q):=by simp[Pit.tok,areaT]
    rw[e,at_n,bind_ok,if_neg (by show ¬ (2=0);decide)]
    show Pn.itemK 2 0 _=_
    unfold Pn.itemK
    rw[if_neg (by decide),if_pos rfl]
    rw[List.tail_cons,area_read]
    rfl
  | i x =>
    have e:Pit.tok (.i x)++q=tkN tAisle :: ((boxN x).map tkI++tkS [59] :: q):=by simp[Pit.tok,aisleT]
    rw[e,at_n,bind_ok,if_neg (by show ¬ (3=0);decide)]
    show Pn.itemK 3 0 _=_
    unfold Pn.itemK
    rw[if_neg (by decide),if_neg (by decide),if_pos rfl]
    rw[show (tkN tAisle :: ((boxN x).map tkI++tkS [59] :: q)).tail=(boxN x).map tkI++tkS [59] :: q from rfl,boxS_read]
    rfl
  | p x =>
    have e:Pit.tok (.p x)++q=tkN tPillar :: ((boxN x).map tkI++tkS [59] :: q):=by simp[Pit.tok,pillarT]
    rw[e,at_n,bind_ok,if_neg (by show ¬ (4=0);decide)]
    show Pn.itemK 4 0 _=_
    unfold Pn.itemK
    rw[if_neg (by decide),if_neg (by decide),if_neg (by decide),if_pos rfl]
    rw[show (tkN tPillar :: ((boxN x).map tkI++tkS [59] :: q)).tail=(boxN x).map tkI++tkS [59] :: q from rfl,boxS_read]
    rfl
  | d x =>
    have e:Pit.tok (.d x)++q=tkN tDoor :: tkI x.1 :: tkI x.2 :: tkS [59] :: q:=by simp[Pit.tok,doorT]
    rw[e,at_n,bind_ok,if_neg (by show ¬ (5=0);decide)]
    show Pn.itemK 5 0 _=_
    unfold Pn.itemK
    rw[if_neg (by decide),if_neg (by decide),if_neg (by decide),if_neg (by decide)]
    rw[show (tkN tDoor :: tkI x.1 :: tkI x.2 :: tkS [59] :: q).tail=tkI x.1 :: tkI x.2 :: tkS [59] :: q from rfl,door_read]
    rfl
def its (l:Lv):List Pit:=l.blocks.map .b++(l.areas.map .a++(l.aisles.map .i++(l.pillars.map .p++l.doors.map .d)))
theorem flat_map {α β γ:Type} (f:α→β) (g:β→List γ):∀ l:List α,(l.map f).flatMap g=l.flatMap (fun x=>g (f x))
  | []=>rfl
  | x :: l=>by rw[List.map_cons,List.flatMap_cons,List.flatMap_cons,flat_map f g l]
theorem its_tok (l:Lv):(its l).flatMap Pit.tok=innerT l:=by
  unfold its innerT
  simp only[List.flatMap_append,flat_map]
  rfl
theorem fm_none {α β γ:Type} (f:α→β) (g:β→Option γ) (h:∀ a,g (f a)=none):∀ l:List α,(l.map f).filterMap g=[]
  | []=>rfl
  | x :: l=>by rw[List.map_cons,List.filterMap_cons,h x];exact fm_none f g h l
theorem fm_some {α β γ:Type} (f:α→β) (g:β→Option γ) (k:α→γ) (h:∀ a,g (f a)=some (k a)):∀ l:List α,(l.map f).filterMap g=l.map k
  | []=>rfl
  | x :: l=>by rw[List.map_cons,List.filterMap_cons,h x,List.map_cons];show k x :: _=_;rw[fm_some f g k h l]
theorem its_lev (l:Lv):Pn.lev l.name l.height.toNat ((its l).map Pit.val) 0=cvL l:=by
  unfold Pn.lev its cvL
  simp only[List.map_append,List.map_map,List.filterMap_append]
  simp only[fm_none (Pit.val ∘ Pit.b) Pn.It.area? (fun _=>rfl),fm_none (Pit.val ∘ Pit.b) Pn.It.aisle? (fun _=>rfl),fm_none (Pit.val ∘ Pit.b) Pn.It.pillar? (fun _=>rfl),fm_none (Pit.val ∘ Pit.b) Pn.It.door? (fun _=>rfl),
    fm_none (Pit.val ∘ Pit.a) Pn.It.block? (fun _=>rfl),fm_none (Pit.val ∘ Pit.a) Pn.It.aisle? (fun _=>rfl),fm_none (Pit.val ∘ Pit.a) Pn.It.pillar? (fun _=>rfl),fm_none (Pit.val ∘ Pit.a) Pn.It.door? (fun _=>rfl),
    fm_none (Pit.val ∘ Pit.i) Pn.It.block? (fun _=>rfl),fm_none (Pit.val ∘ Pit.i) Pn.It.area? (fun _=>rfl),fm_none (Pit.val ∘ Pit.i) Pn.It.pillar? (fun _=>rfl),fm_none (Pit.val ∘ Pit.i) Pn.It.door? (fun _=>rfl),
    fm_none (Pit.val ∘ Pit.p) Pn.It.block? (fun _=>rfl),fm_none (Pit.val ∘ Pit.p) Pn.It.area? (fun _=>rfl),fm_none (Pit.val ∘ Pit.p) Pn.It.aisle? (fun _=>rfl),fm_none (Pit.val ∘ Pit.p) Pn.It.door? (fun _=>rfl),
    fm_none (Pit.val ∘ Pit.d) Pn.It.block? (fun _=>rfl),fm_none (Pit.val ∘ Pit.d) Pn.It.area? (fun _=>rfl),fm_none (Pit.val ∘ Pit.d) Pn.It.aisle? (fun _=>rfl),fm_none (Pit.val ∘ Pit.d) Pn.It.pillar? (fun _=>rfl),
    fm_some (Pit.val ∘ Pit.b) Pn.It.block? cvB (fun _=>rfl),fm_some (Pit.val ∘ Pit.a) Pn.It.area? cvA (fun _=>rfl),fm_some (Pit.val ∘ Pit.i) Pn.It.aisle? cvX (fun _=>rfl),fm_some (Pit.val ∘ Pit.p) Pn.It.pillar? cvX (fun _=>rfl),fm_some (Pit.val ∘ Pit.d) Pn.It.door? cvP (fun _=>rfl),
    List.append_nil,List.nil_append]
theorem its_ok {l:Lv} (h:l.blocks.all blockOk=true):∀ x ∈ its l,x.ok=true:=by
  intro x hx
  simp only[its,List.mem_append,List.mem_map] at hx
  rcases hx with ⟨y,hy,rfl⟩|⟨y,hy,rfl⟩|⟨y,hy,rfl⟩|⟨y,hy,rfl⟩|⟨y,hy,rfl⟩
  · exact List.all_eq_true.1 h y hy
  all_goals rfl
theorem level_read {l:Lv} (h:levelOk l=true) (q:List Tk):Pn.level (levelT l++q) = .ok (cvL l) q:=by
  unfold levelOk at h
  obtain ⟨_,h⟩:=and2 h
  obtain ⟨h1,_⟩:=and2 h
  have e:levelT l++q=tkN [108,101,118,101,108] :: tkN l.name :: tkN tHeight.tail :: tkI l.height :: tkS [123] :: ((its l).flatMap Pit.tok++tkS [125] :: q):=by simp[levelT,its_tok]
  rw[e]
  unfold Pn.level
  simp only[at_n,bind_ok,mLevel,name_n,mHeight,num_i,mOpen]
  rw[braced_all q (its l) (fun x hx t=>item_read (its_ok h1 x hx) t) (fun x _=>by cases x <;> exact ⟨_,_,rfl,by decide⟩),bind_ok,its_lev]
theorem hall_read {h:Hl} (ho:hallOk h=true):Pn.hall (hallT h) = .ok (cvH h) []:=by
  unfold hallOk at ho
  obtain ⟨_,h1⟩:=and2 ho
  have e:hallT h=tkN [104,97,108,108] :: tkN h.name :: tkN tStage.tail :: tkI h.sx :: tkI h.sy :: tkS [123] :: (h.levels.flatMap levelT++tkS [125] :: []):=by simp[hallT]
  rw[e]
  unfold Pn.hall
  simp only[bind_ok,mHall,name_n,mStage,num2_i,mOpen]
  rw[braced_all [] h.levels (fun x hx t=>level_read (List.all_eq_true.1 h1 x hx) t) (fun x _=>⟨_,_,rfl,by decide⟩),bind_ok,if_pos rfl]
  rfl
end Pr
end Go.Proofs.YtglepipfdmphhaaGreatDoor
namespace Go.Proofs.YtglepipfdmphhaaGreatDoor
set_option linter.unusedVariables false
set_option linter.unusedSimpArgs false
open Go Go.RowKit
namespace Pr
def zR (r:Rw):Rw:={ r with at_:=0 }
def zB (b:Bl):Bl:=⟨b.name,b.rows.map zR,0⟩
def zA (a:Ar):Ar:={ a with at_:=0 }
def zL (l:Lv):Lv:={ l with blocks:=l.blocks.map zB,areas:=l.areas.map zA,at_:=0 }
def zH (h:Hl):Hl:={ h with levels:=h.levels.map zL }
theorem blockL_z (b:Bl):blockL (zB b)=blockL b:=by
  unfold blockL zB
  simp only[List.map_map]
  rfl
theorem levelL_z (l:Lv):levelL (zL l)=levelL l:=by
  unfold levelL innerL zL
  simp only[List.map_map,List.flatMap_map]
  have h1:(fun x=>blockL (zB x))=blockL:=funext blockL_z
  rw[h1]
  rfl
theorem hallL_z (h:Hl):hallL (zH h)=hallL h:=by
  unfold hallL zH
  simp only[List.flatMap_map]
  rw[show (fun x=>levelL (zL x))=levelL from funext levelL_z]
def uvM (m:Pn.Mk):Mk:=⟨m.kind,m.seat,m.w⟩
def uvR (r:Pn.Rw):Rw:=⟨r.name,r.x,r.y,r.f,r.t,r.step,r.marks.map uvM,0⟩
def uvB (b:Pn.Bl):Bl:=⟨b.name,b.rows.map uvR,0⟩
def uvX (b:Pn.Bx):Bx:=⟨b.x,b.y,b.x2,b.y2⟩
def uvA (a:Pn.Ar):Ar:=⟨a.name,uvX a.box,a.holds,0⟩
def uvL (l:Pn.Lv):Lv:=⟨l.name,l.height,l.blocks.map uvB,l.areas.map uvA,l.aisles.map uvX,l.pillars.map uvX,l.doors.map uvP,0⟩
def uvH (h:Pn.Hl):Hl:=⟨h.name,h.sx,h.sy,h.levels.map uvL⟩
theorem uv_mark {m:Mk} (h:markOk m=true):uvM (cvM m)=m:=by
  unfold markOk at h
  obtain ⟨h1,h⟩:=and2 h
  obtain ⟨_,h⟩:=and2 h
  obtain ⟨_,h⟩:=and2 h
  obtain ⟨h3,h4⟩:=and2 h
  have h1:=of_decide_eq_true h1
  have e:((m.kind.toNat:Nat):Int)=m.kind:=Int.toNat_of_nonneg (by omega)
  show (⟨_,_,_⟩:Mk)=m
  simp only[cvM,e,nat_of h3,nat_of h4]
theorem uv_row {r:Rw} (h:rowOk r=true):uvR (cvR r)=zR r:=by
  unfold rowOk at h
  obtain ⟨_,h⟩:=and2 h
  obtain ⟨hs,hm⟩:=and2 h
  simp only[numsOk,List.all_cons,List.all_nil,Bool.and_true,Bool.and_eq_true] at hs
  obtain ⟨h1,h2,h3,h4,h5⟩:=hs
  simp only[uvR,cvR,zR,nat_of h1,nat_of h2,nat_of h3,nat_of h4,nat_of h5,map_id' (fun m hx=>uv_mark (List.all_eq_true.1 hm m hx))]
theorem uv_block {b:Bl} (h:blockOk b=true):uvB (cvB b)=zB b:=by
  unfold blockOk at h
  obtain ⟨_,h⟩:=and2 h
  simp only[uvB,cvB,zB,map_same (fun r hx=>uv_row (List.all_eq_true.1 h r hx))]
theorem uv_box {b:Bx} (h:boxOk b=true):uvX (cvX b)=b:=by
  simp only[boxOk,boxN,numsOk,List.all_cons,List.all_nil,Bool.and_true,Bool.and_eq_true] at h
  obtain ⟨h1,h2,h3,h4⟩:=h
  simp only[uvX,cvX,nat_of h1,nat_of h2,nat_of h3,nat_of h4]
theorem uv_area {a:Ar} (h:areaOk a=true):uvA (cvA a)=zA a:=by
  unfold areaOk at h
  obtain ⟨_,h⟩:=and2 h
  obtain ⟨h1,h2⟩:=and2 h
  simp only[uvA,cvA,zA,uv_box h1,nat_of h2]
theorem uv_door {p:Int × Int} (h:doorOk p=true):uvP (cvP p)=p:=by
  simp only[doorOk,numsOk,List.all_cons,List.all_nil,Bool.and_true,Bool.and_eq_true] at h
  simp only[uvP,cvP,nat_of h.1,nat_of h.2]
theorem uv_level {l:Lv} (h:levelOk l=true):uvL (cvL l)=zL l:=by
  unfold levelOk at h
  obtain ⟨h0,h⟩:=and2 h
  obtain ⟨_,hh⟩:=and2 h0
  obtain ⟨h1,h⟩:=and2 h
  obtain ⟨h2,h⟩:=and2 h
  obtain ⟨h3,h⟩:=and2 h
  obtain ⟨h4,h5⟩:=and2 h
  simp only[uvL,cvL,zL,nat_of hh,map_same (fun x hx=>uv_block (List.all_eq_true.1 h1 x hx)),map_same (fun x hx=>uv_area (List.all_eq_true.1 h2 x hx)),map_id' (fun x hx=>uv_box (List.all_eq_true.1 h3 x hx)),
    map_id' (fun x hx=>uv_box (List.all_eq_true.1 h4 x hx)),map_id' (fun x hx=>uv_door (List.all_eq_true.1 h5 x hx))]
theorem uv_hall {h:Hl} (ho:hallOk h=true):uvH (cvH h)=zH h:=by
  unfold hallOk at ho
  obtain ⟨h0,h1⟩:=and2 ho
  obtain ⟨_,hs⟩:=and2 h0
  simp only[numsOk,List.all_cons,List.all_nil,Bool.and_true,Bool.and_eq_true] at hs
  simp only[uvH,cvH,zH,nat_of hs.1,nat_of hs.2,map_same (fun x hx=>uv_level (List.all_eq_true.1 h1 x hx))]
theorem hall_equal {a b:Hl} {s t:Bytes} (ha:hall a=(s,0)) (hb:hall b=(t,0)):s=t↔zH a=zH b:=by
  obtain ⟨oa,rfl⟩:=fin_ok ha
  obtain ⟨ob,rfl⟩:=fin_ok hb
  constructor
  · intro e
    have h1:=toks_of (hall_lws oa) (hall_lws ob) e
    have h2:=hall_read oa
    rw[h1,hall_read ob] at h2
    injection h2 with h3
    rw[← uv_hall oa,← uv_hall ob,h3]
  intro e
  rw[← hallL_z a,← hallL_z b,e]
theorem hall_err (h:Hl):(hall h).2≠0→hall h=([],1)∨hall h=([],3):=by
  unfold hall fin
  intro h1
  split at h1
  · rename_i c;rw[if_pos c];exact .inl rfl
  rename_i c
  rw[if_neg c]
  split at h1
  · rename_i d;rw[if_pos d];exact .inr rfl
  exact absurd rfl h1
theorem refuse_stage {h:Hl} {n:Int} (hn:numOk n=false):hall { h with sy:=n }=([],1):=by
  have e:hallOk { h with sy:=n }=false:=by simp[hallOk,numsOk,hn]
  unfold hall
  rw[e]
  rfl
theorem refuse_name {h:Hl}:hall { h with name:=h.name++[45] }=([],1):=by
  have e:hallOk { h with name:=h.name++[45] }=false:=by simp[hallOk,name_dash]
  unfold hall
  rw[e]
  rfl
theorem refuse_level {h:Hl} {l:Lv} (hl:levelOk l=false):hall { h with levels:=h.levels++[l] }=([],1):=by
  have e:hallOk { h with levels:=h.levels++[l] }=false:=by simp[hallOk,hl]
  unfold hall
  rw[e]
  rfl
end Pr
end Go.Proofs.YtglepipfdmphhaaGreatDoor
namespace Go.Proofs.YtglepipfdmphhaaGreatDoor
set_option linter.unusedVariables false
set_option linter.unusedSimpArgs false
open Go Go.RowKit
namespace Pr
open Lx (Tk)
theorem uvR_ren (f:Nat→Nat) (x:Pn.Rw):uvR (Pn.renR f x)=uvR x:=rfl
theorem uvB_ren (f:Nat→Nat) (x:Pn.Bl):uvB (Pn.renB f x)=uvB x:=by
  simp only[uvB,Pn.renB,List.map_map]
  rfl
theorem uvL_ren (f:Nat→Nat) (x:Pn.Lv):uvL (Pn.renL f x)=uvL x:=by
  simp only[uvL,Pn.renL,List.map_map]
  rw[show uvB ∘ Pn.renB f=uvB from funext (uvB_ren f)]
  rfl
theorem uvH_ren (f:Nat→Nat) (x:Pn.Hl):uvH (Pn.renH f x)=uvH x:=by
  simp only[uvH,Pn.renH,List.map_map]
  rw[show uvL ∘ Pn.renL f=uvL from funext (uvL_ren f)]
theorem hall_parse {h:Hl} {s:Bytes} (e:hall h=(s,0)):hallOk h=true∧s.length≤20000∧∃ x:Pn.Hl,Pn.parse s=(x,0,0)∧uvH x=zH h:=by
  have e9:=e
  obtain ⟨ok,_⟩:=fin_ok e
  have hf:Pr.fin true (puts [] (hallL h))=(s,0):=by
    rw[← e9]
    unfold hall hallText
    rw[ok]
  obtain ⟨hs,hlen,us,hx,hz⟩:=(hall_lws ok).lexed hf
  refine ⟨ok,hlen,?_⟩
  have e1:=Pn.eqv_hall (fun _=>0) us
  rw[show us.map (Rl.renT fun _=>0)=hallT h from hz,hall_read ok] at e1
  unfold Pn.parse
  rw[hx]
  simp only[ne_eq,not_true_eq_false,if_false]
  cases hit:Pn.hall us with
  | bad e2 r =>
    rw[hit] at e1
    cases e1
  | ok x r =>
    rw[hit] at e1
    have e3:Rl.Out.ok (cvH h) []=Rl.Out.ok (Pn.renH (fun _=>0) x) (r.map (Rl.renT fun _=>0)):=e1
    injection e3 with e4 _
    exact ⟨x,rfl,by rw[← uvH_ren (fun _=>0),← e4];exact uv_hall ok⟩
end Pr
end Go.Proofs.YtglepipfdmphhaaGreatDoor
