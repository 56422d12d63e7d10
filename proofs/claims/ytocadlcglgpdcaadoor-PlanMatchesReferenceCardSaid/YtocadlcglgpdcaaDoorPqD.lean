/-
 Plan, the reference, layer 4: plain laws for item and level. Printed by genpqd06.py.
-/
import Derived.Test.YtocadlcglgpdcaaDoorPqC
import Derived.Deep.AppendLies
namespace Go.Proofs.YtocadlcglgpdcaaDoor
set_option linter.unusedVariables false
set_option linter.unusedSimpArgs false
open Go Go.RowKit Go.Shelf
open Lx (Tk)
theorem wpList_snoc6 {P : Program} {w : World} {ops : Array Oper} {rest : List Oper} {o : Oper} {a : Act} {Q : Exit → Act → World → Prop} (hgd : o.guard = none) (s x : Operand) (t : TypeId)
 (ho : o.op = .call { callee := .builtin .append, args := #[s, x], argTypes := #[t, t] })
 (e : TypeId) (i : TypeInfo) (z : Value) (size bytes : Nat) (ht : P.underlying t = some (.slice e)) (hi : P.info? e = some i) (hz : i.zero = some z)
 (hsize : i.size = size) (hby : i.bytes = bytes) (hzs : z.cells.size = size) (hsz : 0 < size)
 {α : Type} {C : α → List Value → World → Prop} {B : Nat} {Es : List TypeId} {l : List α} (v : Value) (n : Nat) (hs : a.eval s = v) (HL : ListS B e size C l v w) (hln : l.length = n) (hK : Kp B Es C) (hE : e ∉ Es)
 (el : α) (cs : List Value) (hC : C el cs w) (hlen : cs.length = size) (hone : ∀ u ∈ cs, u.oneCell' = true) (g : Nat) (hx : a.eval x = .slice (some ⟨g, 0, none⟩) 1 1) (hb : Blk w g cs e)
 (h63 : n + 1 ≤ maxLen) (hbytes : (n + 1) * bytes ≤ 140737488355328) (hbase : B ≤ w.heap.size)
 (h : ∀ g' cap w', ListS B e size C (l ++ [el]) (.slice (some ⟨g', 0, none⟩) (n + 1) cap) w' → w.grownBy w' v.ownBlock → (v.ownBlock = some g' ∨ g' = w.heap.size) → g' < w'.heap.size → wpList P ops Q rest (a.put o.dst (.slice (some ⟨g', 0, none⟩) (n + 1) cap)) w') :
 wpList P ops Q (o :: rest) a w := by
 obtain ⟨css, h1, h2, h3⟩ := HL
 rw [hln] at h3
 refine wpList_append_lies w hgd s x t ho B e i z size bytes ht hi hz hsize hby hzs hsz v n css.flatten hs h3 ⟨g, 0, none⟩ 1 1 cs hx (by rw [hlen, Nat.one_mul]) (fun j u hj => by rw [addr_add, Nat.zero_add]; exact hb.cell hj) hone (by omega) h63 hbytes hbase _ rfl fun g' cap' w' h4 h5 h6 h7 => ?_
 exact h g' cap' w' (ListS.snoc h1 h2 (by rw [hln]; exact h3) hK hE hlen hC h5 (by rw [hln]; exact h4)) h5 h6 h7
theorem tyb_blk6 {w : World} {T B : Nat} {cs : List Value} {e : TypeId} {Es : List TypeId} (h : Blk w T cs e) (he : e ∉ Es) : TyB [T] w B Es := fun k hk => .inr fun ds e' fr h2 => by
 simp at hk
 subst hk
 unfold Blk at h
 rw [h] at h2
 cases h2
 exact he
theorem tyb_lv {w : World} {b X3 X4 B : Nat} {cs ds : List Value} {Es : List TypeId} (hb : b < B) (h3 : Blk w X3 cs 47) (h4 : Blk w X4 ds 47) (he : 47 ∉ Es) : TyB [b, X3, X4] w B Es := fun k hk => by
 simp only [List.mem_cons, List.not_mem_nil, or_false] at hk
 rcases hk with rfl | rfl | rfl
 · exact .inl hb
 · exact tyb_blk6 h3 he _ (by simp)
 · exact tyb_blk6 h4 he _ (by simp)
theorem rr_item {en : Nat} {q r q' : List Tk} {er a er' a' k at9 : Nat} {it : Pn.It} (hI : Pn.item q = Pn.itemK k at9 r) (h : RR (Pn.itemK k at9) en r er a it q' er' a') : RR Pn.item en q er a it q' er' a' := ⟨h.1, fun h0 => by rw [hI]; exact h.2 h0⟩
/-- A level's lists from B on; those of aisles and of pillars are rows apart. -/
def LX (B : Nat) (L : Pn.Lv) (u1 u2 u3 u4 u5 : Value) (w : World) : Prop := LvL B L u1 u2 u3 u4 u5 w ∧ ∀ k, u3.ownBlock = some k → u4.ownBlock ≠ some k
theorem LX.keep {B : Nat} {L : Pn.Lv} {u1 u2 u3 u4 u5 : Value} {own : List Nat} {w w' : World} (h : LX B L u1 u2 u3 u4 u5 w) (hc : Chg own w w') (ho : TyB own w B [51, 54, 64, 58, 56, 24]) : LX B L u1 u2 u3 u4 u5 w' := ⟨h.1.keep hc ho, h.2⟩
/-- What an append to one of the lists leaves alone. -/
def AppK (B : Nat) (E : TypeId) (w w' : World) : Prop := (∀ k ds T, Blk w k ds T → k < B ∨ T ≠ E → Blk w' k ds T) ∧ ∀ own W, Chg own W w → W.heap.size ≤ B → Chg own W w'
theorem appk {α : Type} {w w' : World} {B : Nat} {E : TypeId} {size : Nat} {C : α → List Value → World → Prop} {l : List α} {u : Value} (h : ListS B E size C l u w) (hg : w.grownBy w' u.ownBlock) : AppK B E w w' := by
 obtain ⟨css, c1, c2, ho⟩ := h
 refine ⟨fun k ds T hb hor => ?_, fun own W hc hW => hc.grown hg (fun k hk => .inr (Nat.le_trans hW (own_ge ho k hk)))⟩
 rcases hor with h1 | h1
 · refine (hg.block k hb.lt (fun e => ?_)).trans hb
   have := own_ge ho k e.symm
   omega
 · exact grown_blk hb hg ho h1
theorem LX.app1 {B : Nat} {L : Pn.Lv} {u1 u2 u3 u4 u5 v : Value} {w w' : World} (h : LX B L u1 u2 u3 u4 u5 w) (hg : w.grownBy w' u1.ownBlock) (z : Pn.Bl) (hv : ListS B 51 3 (Cbk B) (L.blocks ++ [z]) v w') :
 LX B { L with blocks := L.blocks ++ [z] } v u2 u3 u4 u5 w' := by
 obtain ⟨⟨l1, l2, l3, l4, l5⟩, ne⟩ := h
 obtain ⟨css, c1, c2, ho⟩ := l1
 refine ⟨⟨hv, l2.grown (kp_ar B) hg ho (by decide) (.inl (by decide)), l3.grown (kp_bx B) hg ho (by decide) (.inl (by decide)), l4.grown (kp_bx B) hg ho (by decide) (.inl (by decide)), l5.grown (kp_pt B) hg ho (by decide) (.inl (by decide))⟩, ne⟩
theorem LX.app2 {B : Nat} {L : Pn.Lv} {u1 u2 u3 u4 u5 v : Value} {w w' : World} (h : LX B L u1 u2 u3 u4 u5 w) (hg : w.grownBy w' u2.ownBlock) (z : Pn.Ar) (hv : ListS B 58 7 Car (L.areas ++ [z]) v w') :
 LX B { L with areas := L.areas ++ [z] } u1 v u3 u4 u5 w' := by
 obtain ⟨⟨l1, l2, l3, l4, l5⟩, ne⟩ := h
 obtain ⟨css, c1, c2, ho⟩ := l2
 refine ⟨⟨l1.grown (kp_bk B) hg ho (by decide) (.inl (by decide)), hv, l3.grown (kp_bx B) hg ho (by decide) (.inl (by decide)), l4.grown (kp_bx B) hg ho (by decide) (.inl (by decide)), l5.grown (kp_pt B) hg ho (by decide) (.inl (by decide))⟩, ne⟩
theorem LX.app3 {B : Nat} {L : Pn.Lv} {u1 u2 u3 u4 u5 v : Value} {w w' : World} (h : LX B L u1 u2 u3 u4 u5 w) (hg : w.grownBy w' u3.ownBlock) (z : Pn.Bx) (hv : ListS B 56 4 Cbx (L.aisles ++ [z]) v w') (hn : v.ownBlock = u3.ownBlock ∨ ∃ g, v.ownBlock = some g ∧ ∀ k, u4.ownBlock = some k → k < g) :
 LX B { L with aisles := L.aisles ++ [z] } u1 u2 v u4 u5 w' := by
 obtain ⟨⟨l1, l2, l3, l4, l5⟩, ne⟩ := h
 obtain ⟨css, c1, c2, ho⟩ := l3
 refine ⟨⟨l1.grown (kp_bk B) hg ho (by decide) (.inl (by decide)), l2.grown (kp_ar B) hg ho (by decide) (.inl (by decide)), hv, l4.grown (kp_bx B) hg ho (by decide) (.inr (fun k hk e => ne k e hk)), l5.grown (kp_pt B) hg ho (by decide) (.inl (by decide))⟩, fun k hk h9 => ?_⟩
 rcases hn with hn | ⟨g, hn, hlt⟩
 · rw [hn] at hk; exact ne k hk h9
 · rw [hn] at hk; cases hk; exact Nat.lt_irrefl _ (hlt _ h9)
theorem LX.app4 {B : Nat} {L : Pn.Lv} {u1 u2 u3 u4 u5 v : Value} {w w' : World} (h : LX B L u1 u2 u3 u4 u5 w) (hg : w.grownBy w' u4.ownBlock) (z : Pn.Bx) (hv : ListS B 56 4 Cbx (L.pillars ++ [z]) v w') (hn : v.ownBlock = u4.ownBlock ∨ ∃ g, v.ownBlock = some g ∧ ∀ k, u3.ownBlock = some k → k < g) :
 LX B { L with pillars := L.pillars ++ [z] } u1 u2 u3 v u5 w' := by
 obtain ⟨⟨l1, l2, l3, l4, l5⟩, ne⟩ := h
 obtain ⟨css, c1, c2, ho⟩ := l4
 refine ⟨⟨l1.grown (kp_bk B) hg ho (by decide) (.inl (by decide)), l2.grown (kp_ar B) hg ho (by decide) (.inl (by decide)), l3.grown (kp_bx B) hg ho (by decide) (.inr (fun k hk => ne k hk)), hv, l5.grown (kp_pt B) hg ho (by decide) (.inl (by decide))⟩, fun k hk h9 => ?_⟩
 rcases hn with hn | ⟨g, hn, hlt⟩
 · rw [hn] at h9; exact ne k hk h9
 · rw [hn] at h9; cases h9; exact Nat.lt_irrefl _ (hlt _ hk)
theorem LX.app5 {B : Nat} {L : Pn.Lv} {u1 u2 u3 u4 u5 v : Value} {w w' : World} (h : LX B L u1 u2 u3 u4 u5 w) (hg : w.grownBy w' u5.ownBlock) (z : Nat × Nat) (hv : ListS B 24 2 Cpt (L.doors ++ [z]) v w') :
 LX B { L with doors := L.doors ++ [z] } u1 u2 u3 u4 v w' := by
 obtain ⟨⟨l1, l2, l3, l4, l5⟩, ne⟩ := h
 obtain ⟨css, c1, c2, ho⟩ := l5
 refine ⟨⟨l1.grown (kp_bk B) hg ho (by decide) (.inl (by decide)), l2.grown (kp_ar B) hg ho (by decide) (.inl (by decide)), l3.grown (kp_bx B) hg ho (by decide) (.inl (by decide)), l4.grown (kp_bx B) hg ho (by decide) (.inl (by decide)), hv⟩, ne⟩
namespace Pn
def addIt (L : Lv) : It → Lv
 | .block z => { L with blocks := L.blocks ++ [z] }
 | .area z => { L with areas := L.areas ++ [z] }
 | .aisle z => { L with aisles := L.aisles ++ [z] }
 | .pillar z => { L with pillars := L.pillars ++ [z] }
 | .door z => { L with doors := L.doors ++ [z] }
theorem lev_add (nm : Bytes) (h : Nat) (its : List It) (at_ : Nat) (it : It) : addIt (lev nm h its at_) it = lev nm h (its ++ [it]) at_ := by
 cases it <;> simp [addIt, lev, It.block?, It.area?, It.aisle?, It.pillar?, It.door?]
/-- Words of sorts are words. -/
def Wz (t : Tk) : Prop := ∀ x ∈ sortsL, t.text = x → t.kind ≠ 2
theorem itm_of {q : List Tk} (i : Nat) (en : Nat) (hi : i < 5) (h : isw (sortsL.getD i []) q = true) : item q = itemK (i + 1) (Rl.place en q) q.tail := by
 obtain ⟨t, r, rfl, ht, -⟩ := isw_cons h
 have hk : Rl.codeIn sortsL 1 (headText (t :: r)) = i + 1 := by
  rw [show headText (t :: r) = t.text from rfl, ht]
  match i, hi with
  | 0, _ => rfl
  | 1, _ => rfl
  | 2, _ => rfl
  | 3, _ => rfl
  | 4, _ => rfl
 unfold item
 rw [show atO (t :: r) = .ok t.at_ (t :: r) from rfl]
 show (if Rl.codeIn sortsL 1 (headText (t :: r)) = 0 then Rl.Out.bad 4 (t :: r) else itemK (Rl.codeIn sortsL 1 (headText (t :: r))) t.at_ (t :: r).tail) = _
 rw [hk, if_neg (by omega)]
 rfl
theorem itm_none {q : List Tk} (h : ∀ i, i < 5 → isw (sortsL.getD i []) q = false) (hz : ∀ t ∈ q, Wz t) : item q = .bad 4 q := by
 cases q with
 | nil => rfl
 | cons t r =>
  unfold item
  rw [show atO (t :: r) = .ok t.at_ (t :: r) from rfl]
  show (if Rl.codeIn sortsL 1 (headText (t :: r)) = 0 then Rl.Out.bad 4 (t :: r) else itemK (Rl.codeIn sortsL 1 (headText (t :: r))) t.at_ (t :: r).tail) = _
  rw [if_pos]
  apply Classical.byContradiction
  intro hne
  obtain ⟨j, -, hj⟩ := codeIn_at6 sortsL 1 _ hne
  have hm : t.text ∈ sortsL := List.mem_of_getElem? hj
  have hk := hz t (by simp) _ hm rfl
  have hj5 : j < 5 := (List.getElem?_eq_some_iff.1 hj).1
  have := h j hj5
  rw [show sortsL.getD j [] = t.text by rw [List.getD_eq_getElem?_getD]; rw [show sortsL[j]? = some t.text from hj]; rfl] at this
  simp [isw, hk] at this
end Pn
theorem RR.conv {α : Type} {f : List Tk → Rl.Out α} {en : Nat} {q q' : List Tk} {er a er' a' : Nat} {x : α} (h : RR f en q er a x q' er' a') {y : α} (hx : er' = 0 → y = x) : RR f en q er a y q' er' a' := ⟨h.1, fun h0 => by
 have h1 := h.2 h0
 cases hf : f q with
 | ok z r =>
  rw [hf] at h1
  exact ⟨(hx h1.2.2).trans h1.1, h1.2⟩
 | bad c r =>
  rw [hf] at h1
  exact h1⟩
theorem RR.eqv {α : Type} {f g : List Tk → Rl.Out α} {en : Nat} {q q' : List Tk} {er a er' a' : Nat} {x : α} (h : RR f en q er a x q' er' a') (e : g q = f q) : RR g en q er a x q' er' a' := ⟨h.1, fun h0 => by rw [e]; exact h.2 h0⟩
/-- Where a loop over things between braces stands. -/
def GLI {α : Type} (one : List Tk → Rl.Out α) (en : Nat) (q0 : List Tk) (e0 a0 : Nat) (ms : List α) (q : List Tk) (er a : Nat) : Prop :=
 (e0 ≠ 0 → er = e0 ∧ a = a0) ∧ (e0 = 0 → (er = 0 → ∃ k, Pn.loop (Pn.isw Pn.cClose) one q0 = Pn.loopG (Pn.isw Pn.cClose) one k ms q ∧ q.length < k ∧ q <:+ q0 ∧ ms.length + q.length ≤ q0.length) ∧ (er ≠ 0 → ∃ c r, Pn.braced one q0 = .bad c r ∧ er = Rl.code c r ∧ a = Rl.place en r)) ∧ ms.length ≤ q0.length + 1
theorem gli_start {α : Type} (one : List Tk → Rl.Out α) (en : Nat) (q : List Tk) (er a : Nat) : GLI one en q er a [] q er a := ⟨fun _ => ⟨rfl, rfl⟩, fun h => ⟨fun _ => ⟨q.length + 1, rfl, Nat.lt_succ_self _, List.suffix_refl _, by simp⟩, fun h9 => absurd h h9⟩, by simp⟩
theorem gli_e0 {α : Type} {one : List Tk → Rl.Out α} {en : Nat} {q0 : List Tk} {e0 a0 : Nat} {ms : List α} {q : List Tk} {er a : Nat} (h : GLI one en q0 e0 a0 ms q er a) (he : er = 0) : e0 = 0 := by
 apply Classical.byContradiction
 intro h0
 exact h0 ((h.1 h0).1 ▸ he)
theorem gli_suf {α : Type} {one : List Tk → Rl.Out α} {en : Nat} {q0 : List Tk} {e0 a0 : Nat} {ms : List α} {q : List Tk} {er a : Nat} (h : GLI one en q0 e0 a0 ms q er a) : Sf q0 e0 q er := fun he => ⟨gli_e0 h he, by obtain ⟨k, -, -, h1, -⟩ := (h.2.1 (gli_e0 h he)).1 he; exact h1⟩
theorem gli_step {α : Type} {one : List Tk → Rl.Out α} {en : Nat} {q0 : List Tk} {e0 a0 : Nat} {ms : List α} {q q' : List Tk} {er a er' a' : Nat} {m : α} (h : GLI one en q0 e0 a0 ms q er a) (he : er = 0) (hs : Pn.isw Pn.cClose q = false) (hn : Rl.Nice one) (hl : ∀ y r, one q = .ok y r → r.length < q.length) (hr : RR one en q er a m q' er' a') : GLI one en q0 e0 a0 (ms ++ [m]) q' er' a' ∧ (er' = 0 → q'.length < q.length) := by
 have h0 := gli_e0 h he
 obtain ⟨k, h1, h2, h3, h4⟩ := (h.2.1 h0).1 he
 obtain ⟨k', rfl⟩ : ∃ k', k = k' + 1 := ⟨k - 1, by omega⟩
 have hm := hr.2 he
 refine ⟨⟨fun h9 => absurd h0 h9, fun _ => ⟨fun h9 => ?_, fun h9 => ?_⟩, by simp only [List.length_append, List.length_singleton]; omega⟩, fun h9 => ?_⟩
 · cases hq : one q with
   | bad c r => rw [hq] at hm; exact absurd h9 hm.2.2
   | ok y r =>
    rw [hq] at hm
    obtain ⟨rfl, rfl, -⟩ := hm
    have hl := hl _ _ hq
    have hs' := hn.suf q
    rw [hq] at hs'
    rw [loopG_ok hs hq] at h1
    refine ⟨k', h1, by omega, (show q' <:+ q from hs').trans h3, by simp only [List.length_append, List.length_singleton]; omega⟩
 · cases hq : one q with
   | ok y r => rw [hq] at hm; exact absurd hm.2.2 h9
   | bad c r =>
    rw [hq] at hm
    rw [loopG_bad hs hq] at h1
    exact ⟨c, r, by unfold Pn.braced; rw [h1]; rfl, hm.1, hm.2.1⟩
 · cases hq : one q with
   | bad c r => rw [hq] at hm; exact absurd h9 hm.2.2
   | ok y r =>
    rw [hq] at hm
    obtain ⟨rfl, rfl, -⟩ := hm
    exact hl _ _ hq
theorem gli_close {α : Type} {one : List Tk → Rl.Out α} {en : Nat} {q0 : List Tk} {e0 a0 : Nat} {ms : List α} {q q' : List Tk} {er a er' a' : Nat} (h : GLI one en q0 e0 a0 ms q er a) (he : er = 0) (hs : Pn.isw Pn.cClose q = true) (hr : RR (Pn.must Pn.cClose) en q er a () q' er' a') : RR (Pn.braced one) en q0 e0 a0 ms q' er' a' := ⟨fun h9 => absurd (gli_e0 h he) h9, fun h0 => by
 have h1 := hr.2 he
 obtain ⟨k, h2, -⟩ := (h.2.1 h0).1 he
 rw [show Pn.must Pn.cClose q = .ok () q.tail by unfold Pn.must; rw [if_pos hs]] at h1
 unfold Pn.braced
 rw [h2, loopG_stop hs]
 exact ⟨rfl, h1.2⟩⟩
theorem gli_over {α : Type} {one : List Tk → Rl.Out α} {en : Nat} {q0 : List Tk} {e0 a0 : Nat} {ms : List α} {q q' : List Tk} {er a er' a' : Nat} (h : GLI one en q0 e0 a0 ms q er a) (he : er ≠ 0) (hr : RR (Pn.must Pn.cClose) en q er a () q' er' a') (ms' : List α) : RR (Pn.braced one) en q0 e0 a0 ms' q' er' a' := by
 obtain ⟨h1, h2⟩ := hr.1 he
 rw [h1, h2]
 refine ⟨h.1, fun h0 => ?_⟩
 obtain ⟨c, r, h3, h4, h5⟩ := (h.2.1 h0).2 he
 rw [h3]
 exact ⟨h4, h5, he⟩
/-- What an item of the reference comes to. -/
def ItemR (Wb : World) (b B en : Nat) (q : List Tk) (er a : Nat) (L : Pn.Lv) (w : World) (e : Ending) (w' : World) : Prop :=
 ∃ (L' : Pn.Lv) (v1 v2 v3 v4 v5 : Value) (it : Pn.It) (q' : List Tk) (er' a' : Nat), e = .returned (.agg #[.string ⟨L'.name.toArray⟩, .int .i64 (L'.height : Nat), v1, v2, v3, v4, v5, .int .i64 (L'.at_ : Nat)]) ∧ LX B L' v1 v2 v3 v4 v5 w' ∧ RR Pn.item en q er a it q' er' a' ∧ (L' = Pn.addIt L it ∨ (L' = L ∧ er' ≠ 0)) ∧ Rp w' b q' er' a' en ∧ Chg [b] Wb w' ∧ ∀ K ds, Blk w K ds 47 → K ≠ b → Blk w' K ds 47
theorem rrow_r {w : World} {b er a en : Nat} {q : List Tk} (HP : Hid (Rp w b q er a en)) (HWK : Hid (∀ t ∈ q, Pn.Wk t)) (B : Nat) (hB : B ≤ w.heap.size) {R : Ending → World → Prop}
 (h : ∀ (x : Pn.Rw) (uo : Option Addr) (uc : Nat) (q' : List Tk) (er' a' : Nat) (w' : World), Hid (RR Pn.row en q er a x q' er' a') → Hid (Rp w' b q' er' a' en) → Hid (Chg [b] w w') → Hid (ListS B 64 3 Cm x.marks (.slice uo x.marks.length uc) w') → R (.returned (.agg #[.string ⟨x.name.toArray⟩, .int .i64 (x.x : Nat), .int .i64 (x.y : Nat), .int .i64 (x.f : Nat), .int .i64 (x.t : Nat), .int .i64 (x.step : Nat), .slice uo x.marks.length uc, .int .i64 (x.at_ : Nat)])) w') :
 Calls Tryd.prog 58 #[.pointer (some ⟨b, 0, none⟩)] w R :=
 (rrow_spec w b er a en q HP HWK).mono fun e w' hx => by
  obtain ⟨x, u, q', er', a', rfl, h1, h2, h3, h4⟩ := hx
  obtain ⟨uo, uc, rfl⟩ := h4.form
  exact h x uo uc q' er' a' w' (hd h1) (hd h2) (hd h3) (hd (h4.mono hB (mono_m hB)))
end Go.Proofs.YtocadlcglgpdcaaDoor

