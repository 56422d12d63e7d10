/-
 Lists of values in memory, each list in a row of its own: reading, keeping, adding.
-/
import Derived.Test.YtglepipfdmphhaaGreatDoorLxI
namespace Go.Proofs.YtglepipfdmphhaaGreatDoor
set_option linter.unusedVariables false
set_option linter.unusedSimpArgs false
open Go Go.RowKit Go.Shelf
def ListS {α:Type} (B:Nat) (E:TypeId) (size:Nat) (C:α→List Value→World→Prop) (l:List α) (v:Value) (w:World):Prop :=
 ∃ css:List (List Value),css.length=l.length∧(∀ (i:Nat) (a:α) (cs:List Value),l[i]? = some a→css[i]? = some cs→cs.length=size∧C a cs w)∧w.ownsRow B E size v l.length css.flatten
def TyB (own:List Nat) (w:World) (B:Nat) (Es:List TypeId):Prop:=∀ k ∈ own,k < B∨∀ cs e fr,w.heap[k]? = some (.cells cs e fr)→e ∉ Es
def Kp {α β:Type} (B:Nat) (Es:List TypeId) (C:α→β→World→Prop):Prop:=∀ (own:List Nat) (w w':World) (a:α) (cs:β),Chg own w w'→TyB own w B Es→C a cs w→C a cs w'
theorem TyB.lower {own:List Nat} {w:World} {B:Nat} (h:∀ k ∈ own,k < B) (Es:List TypeId):TyB own w B Es:=fun k hk=>.inl (h k hk)
theorem TyB.nil (w:World) (B:Nat) (Es:List TypeId):TyB [] w B Es:=fun k hk=>by simp at hk
theorem TyB.mono {own:List Nat} {w:World} {B:Nat} {Es Es':List TypeId} (h:TyB own w B Es) (hs:∀ e ∈ Es',e ∈ Es):TyB own w B Es':=fun k hk=>(h k hk).imp_right fun h2 cs e fr h3 h4=>h2 cs e fr h3 (hs e h4)
theorem ownsRow_chg {own:List Nat} {w w':World} {B:Nat} {e:TypeId} {size:Nat} {v:Value} {n:Nat} {xs:List Value} (h:w.ownsRow B e size v n xs) (hc:Chg own w w') (ho:TyB own w B [e]):w'.ownsRow B e size v n xs:=by
 refine ⟨h.1,?_⟩
 rcases h.2 with h0|⟨g,cap,cur,rfl,hb,hg,rest⟩
 · exact .inl h0
 refine .inr ⟨g,cap,cur,rfl,hb,(hc.block g (Array.getElem?_eq_some_iff.1 hg).1 (fun hm=>?_)).trans hg,rest⟩
 rcases ho g hm with h1|h1
 · omega
 exact h1 _ _ _ hg (by simp)
theorem ListS.keep {α:Type} {own:List Nat} {w w':World} {B:Nat} {E:TypeId} {size:Nat} {C:α→List Value→World→Prop} {Es:List TypeId} {l:List α} {v:Value} (h:ListS B E size C l v w) (hC:Kp B Es C) (hc:Chg own w w') (ho:TyB own w B (E :: Es)):ListS B E size C l v w':=by
 obtain ⟨css,h1,h2,h3⟩:=h
 exact ⟨css,h1,fun i a cs ha hcs=>⟨(h2 i a cs ha hcs).1,hC own w w' a cs hc (ho.mono fun e he=>by simp[he]) (h2 i a cs ha hcs).2⟩,ownsRow_chg h3 hc (ho.mono fun e he=>by simp at he;simp[he])⟩
theorem kp_list {α:Type} {B:Nat} {E:TypeId} {size:Nat} {C:α→List Value→World→Prop} {Es:List TypeId} (hC:Kp B Es C):Kp B (E :: Es) (ListS B E size C) :=
 fun own w w' a v hc ho h=>h.keep hC hc ho
theorem flat_get {css:List (List Value)} {size:Nat} (h:∀ cs ∈ css,cs.length=size) {i:Nat} {cs:List Value} (hi:css[i]? = some cs) {j:Nat} (hj:j < size):css.flatten[i*size+j]? = cs[j]?:=by
 induction css generalizing i with
 | nil=>simp at hi
 | cons a r ih =>
  have ha:=h a (by simp)
  rw[List.flatten_cons]
  cases i with
  | zero =>
   simp only[List.getElem?_cons_zero,Option.some.injEq] at hi
   subst hi
   rw[Nat.zero_mul,Nat.zero_add,List.getElem?_append_left (by omega)]
  | succ i =>
   rw[List.getElem?_append_right (by rw[ha,Nat.add_mul];omega),show (i+1)*size+j - a.length=i*size+j by rw[ha,Nat.add_mul];omega]
   exact ih (fun c hc=>h c (by simp[hc])) (by simpa using hi)
theorem ListS.lens {α:Type} {w:World} {size:Nat} {C:α→List Value→World→Prop} {l:List α} {css:List (List Value)} (h1:css.length=l.length) (h2:∀ (i:Nat) (a:α) (cs:List Value),l[i]? = some a→css[i]? = some cs→cs.length=size∧C a cs w):∀ cs ∈ css,cs.length=size:=fun cs hcs=>by
 obtain ⟨i,hi⟩:=List.mem_iff_getElem?.1 hcs
 have hlt:=(List.getElem?_eq_some_iff.1 hi).1
 exact (h2 i (l[i]'(by omega)) cs (by simp) hi).1
theorem ListS.get {α:Type} {w:World} {B:Nat} {E:TypeId} {size:Nat} {C:α→List Value→World→Prop} {l:List α} {v:Value} (h:ListS B E size C l v w) {i:Nat} {a:α} (ha:l[i]? = some a) :
 ∃ g cap cs,v = .slice (some ⟨g,0,none⟩) l.length cap∧l.length≤cap∧B≤g∧cs.length=size∧C a cs w∧(∀ (j:Nat) (u:Value),cs[j]? = some u→w.cell? ⟨g,i*size+j,none⟩=some u)∧∃ cur,w.heap[g]? = some (.cells cur E (0,0)):=by
 obtain ⟨css,h1,h2,h3⟩:=h
 have hlt:=(List.getElem?_eq_some_iff.1 ha).1
 obtain ⟨cs,hcs⟩:∃ cs,css[i]? = some cs:=⟨css[i]'(by omega),by simp⟩
 have h4:=h2 i a cs ha hcs
 rcases h3.2 with ⟨rfl,h0⟩|⟨g,cap,cur,rfl,hb,hg,hle,hm,hsz,ht⟩
 · omega
 refine ⟨g,cap,cs,rfl,hle,hb,h4.1,h4.2,fun j u hu=>?_,cur,hg⟩
 have hj:=(List.getElem?_eq_some_iff.1 hu).1
 have hf:=flat_get (ListS.lens h1 h2) hcs (j:=j) (by omega)
 rw[hu] at hf
 rw[cell_of_row w g _ _ E (0,0) hg]
 have hij:i*size+j < l.length*size:=by
  have:(i+1)*size≤l.length*size:=Nat.mul_le_mul_right _ (by omega)
  rw[Nat.add_mul] at this
  omega
 have h5:(cur.toList.take (l.length*size))[i*size+j]? = some u:=by rw[ht];exact hf
 rw[List.getElem?_take_of_lt hij] at h5
 simpa using h5
theorem ListS.form {α:Type} {w:World} {B:Nat} {E:TypeId} {size:Nat} {C:α→List Value→World→Prop} {l:List α} {v:Value} (h:ListS B E size C l v w):∃ ao cap,v = .slice ao l.length cap:=by
 obtain ⟨css,_,_,h3⟩:=h
 exact owns_form h3
theorem ListS.nil {α:Type} (w:World) (B:Nat) (E:TypeId) (size:Nat) (C:α→List Value→World→Prop):ListS B E size C [] (.slice none 0 0) w :=
 ⟨[],rfl,fun i a cs ha=>by simp at ha,by simp,.inl ⟨rfl,rfl⟩⟩
theorem ListS.isNil {α:Type} {w:World} {B:Nat} {E:TypeId} {size:Nat} {C:α→List Value→World→Prop} {v:Value} {l:List α} (h:ListS B E size C l v w) (hv:∀ a:Addr,∀ n c,v≠.slice (some a) n c):v = .slice none 0 0∧l=[]:=by
 obtain ⟨css,h1,h2,h3⟩:=h
 rcases h3.2 with ⟨h4,h5⟩|⟨g,cap,cur,rfl,_⟩
 · exact ⟨h4,List.eq_nil_of_length_eq_zero h5⟩
 exact absurd rfl (hv _ _ _)
theorem ListS.one {α:Type} {w:World} {B:Nat} {E:TypeId} {size:Nat} {C:α→List Value→World→Prop} {a:α} {cs:List Value} {g:Nat} (hg:w.heap[g]? = some (.cells cs.toArray E (0,0))) (hB:B≤g) (hl:cs.length=size) (hC:C a cs w) :
 ListS B E size C [a] (.slice (some ⟨g,0,none⟩) 1 1) w:=by
 refine ⟨[cs],rfl,fun i b ds hb hds=>?_,by simp[hl],.inr ⟨g,1,cs.toArray,rfl,hB,hg,Nat.le_refl _,by simp[maxLen],by simp[hl],by simp[← hl]⟩⟩
 cases i with
 | zero =>
  simp only[List.getElem?_cons_zero,Option.some.injEq] at hb hds
  subst hb hds
  exact ⟨hl,hC⟩
 | succ i=>simp at hb
theorem ListS.snoc {α:Type} {w w':World} {B:Nat} {E:TypeId} {size:Nat} {C:α→List Value→World→Prop} {Es:List TypeId} {l:List α} {v v':Value} {css:List (List Value)} (h1:css.length=l.length)
 (h2:∀ (i:Nat) (a:α) (cs:List Value),l[i]? = some a→css[i]? = some cs→cs.length=size∧C a cs w) (hv:w.ownsRow B E size v l.length css.flatten) (hK:Kp B Es C) (hE:E ∉ Es) {a:α} {cs:List Value} (hl:cs.length=size) (hC:C a cs w)
 (hg:w.grownBy w' v.ownBlock) (ho:w'.ownsRow B E size v' (l.length+1) (css.flatten++cs)):ListS B E size C (l++[a]) v' w':=by
 have hc:Chg v.ownBlock.toList w w':=⟨hg.os,hg.tape,hg.output,hg.size,fun k hk hn=>hg.block k hk (by
  intro e
  rw[← e] at hn
  simp at hn)⟩
 have hty:TyB v.ownBlock.toList w B Es:=fun k hk=>.inr fun ds e fr hh he=>by
  rcases hv.2 with ⟨rfl,_⟩|⟨g,cap,cur,rfl,_,hgg,_⟩
  · simp[Value.ownBlock] at hk
  simp[Value.ownBlock] at hk
  subst hk
  rw[hgg] at hh
  cases hh
  exact hE he
 refine ⟨css++[cs],by simp[h1],fun i b ds hb hds=>?_,by simpa using ho⟩
 rw[List.getElem?_append] at hb hds
 by_cases hi:i < l.length
 · rw[if_pos hi] at hb
   rw[if_pos (by omega)] at hds
   exact ⟨(h2 i b ds hb hds).1,hK _ _ _ _ _ hc hty (h2 i b ds hb hds).2⟩
 rw[if_neg hi] at hb
 rw[if_neg (by omega),h1] at hds
 obtain ⟨rfl⟩:i=l.length:=by
  have:=(List.getElem?_eq_some_iff.1 hb).1
  simp at this
  omega
 simp at hb hds
 subst hb hds
 exact ⟨hl,hK _ _ _ _ _ hc hty hC⟩
end Go.Proofs.YtglepipfdmphhaaGreatDoor
