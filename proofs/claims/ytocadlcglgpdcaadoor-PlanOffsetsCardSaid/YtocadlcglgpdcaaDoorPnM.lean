/-
  Plan, layer 12: a level in memory. Printed by genpnm06.py.
-/
import Derived.Test.YtocadlcglgpdcaaDoorPnL
import Derived.Deep.AppendLies
namespace Go.Proofs.YtocadlcglgpdcaaDoor
set_option linter.unusedVariables false
set_option linter.unusedSimpArgs false
open Go Go.RowKit Go.Shelf
open Lx (Tk)
/-- The same, with what is known of the rows' blocks. -/
theorem step_snoc2 {P : Program} {w : World} {ops : Array Oper} {o : Oper} {a : Act} {K : Act → World → Prop} {Q : Exit → Act → World → Prop} {E : Prop} (hgd : o.guard = none) (s x : Operand) (t : TypeId)
    (ho : o.op = .call { callee := .builtin .append, args := #[s, x], argTypes := #[t, t] })
    (e : TypeId) (i : TypeInfo) (z : Value) (size bytes : Nat) (ht : P.underlying t = some (.slice e)) (hi : P.info? e = some i) (hz : i.zero = some z)
    (hsize : i.size = size) (hby : i.bytes = bytes) (hzs : z.cells.size = size) (hsz : 0 < size)
    {α : Type} {C : α → List Value → World → Prop} {B : Nat} {Es : List TypeId} {l : List α} (v : Value) (n : Nat) (hs : a.eval s = v) (HL : ListS B e size C l v w) (hln : l.length = n) (hK : Kp B Es C) (hE : e ∉ Es)
    (el : α) (cs : List Value) (hC : C el cs w) (hlen : cs.length = size) (hone : ∀ u ∈ cs, u.oneCell' = true) (g : Nat) (hx : a.eval x = .slice (some ⟨g, 0, none⟩) 1 1) (hb : Blk w g cs e)
    (h63 : n + 1 ≤ maxLen) (hbytes : (n + 1) * bytes ≤ 140737488355328) (hbase : B ≤ w.heap.size)
    (h : ∀ g' cap w', ListS B e size C (l ++ [el]) (.slice (some ⟨g', 0, none⟩) (n + 1) cap) w' → w.grownBy w' v.ownBlock → (v.ownBlock = some g' ∨ g' = w.heap.size) → g' < w'.heap.size → K (a.put o.dst (.slice (some ⟨g', 0, none⟩) (n + 1) cap)) w') :
    if Region.wanted o (yielded ops a.tmps) = true then Oper.wp P o a w K Q else E := by
  have hwd : Region.wanted o (yielded ops a.tmps) = true := by simp [Region.wanted, hgd]
  rw [if_pos hwd]
  obtain ⟨css, h1, h2, h3⟩ := HL
  rw [hln] at h3
  refine wp_append_lies w s x t ho B e i z size bytes ht hi hz hsize hby hzs hsz v n css.flatten hs h3 ⟨g, 0, none⟩ 1 1 cs hx (by rw [hlen, Nat.one_mul]) (fun j u hj => by rw [addr_add, Nat.zero_add]; exact hb.cell hj) hone (by omega) h63 hbytes hbase _ rfl fun g' cap' w' h4 h5 h6 h7 => ?_
  exact h g' cap' w' (ListS.snoc h1 h2 (by rw [hln]; exact h3) hK hE hlen hC h5 (by rw [hln]; exact h4)) h5 h6 h7
def Car (x : Pn.Ar) (cs : List Value) (w : World) : Prop := cs = [.string ⟨x.name.toArray⟩, .int .i64 (x.box.x : Nat), .int .i64 (x.box.y : Nat), .int .i64 (x.box.x2 : Nat), .int .i64 (x.box.y2 : Nat), .int .i64 (x.holds : Nat), .int .i64 (x.at_ : Nat)]
def Cbx (x : Pn.Bx) (cs : List Value) (w : World) : Prop := cs = [.int .i64 (x.x : Nat), .int .i64 (x.y : Nat), .int .i64 (x.x2 : Nat), .int .i64 (x.y2 : Nat)]
def Cpt (x : Nat × Nat) (cs : List Value) (w : World) : Prop := cs = [.int .i64 (x.1 : Nat), .int .i64 (x.2 : Nat)]
theorem kp_ar (B : Nat) : Kp B [] Car := fun own w w' a cs hc ho h => h
theorem kp_bx (B : Nat) : Kp B [] Cbx := fun own w w' a cs hc ho h => h
theorem kp_pt (B : Nat) : Kp B [] Cpt := fun own w w' a cs hc ho h => h
/-- A level at block D; its lists lie from B on. -/
structure LevAt (B D : Nat) (L : Pn.Lv) (u1 u2 u3 u4 u5 : Value) (w : World) : Prop where
  blk : Blk w D [.string ⟨L.name.toArray⟩, .int .i64 (L.height : Nat), u1, u2, u3, u4, u5, .int .i64 (L.at_ : Nat)] 47
  l1 : ListS B 51 3 (Cbk B) L.blocks u1 w
  l2 : ListS B 58 7 Car L.areas u2 w
  l3 : ListS B 56 4 Cbx L.aisles u3 w
  l4 : ListS B 56 4 Cbx L.pillars u4 w
  l5 : ListS B 24 2 Cpt L.doors u5 w
  ne : ∀ k, u3.ownBlock = some k → u4.ownBlock ≠ some k
  low : D < B
theorem LevAt.keep {B D : Nat} {L : Pn.Lv} {u1 u2 u3 u4 u5 : Value} {own : List Nat} {w w' : World} (h : LevAt B D L u1 u2 u3 u4 u5 w) (hc : Chg own w w') (hD : D ∉ own) (hB : ∀ k ∈ own, k < B) : LevAt B D L u1 u2 u3 u4 u5 w' :=
  ⟨hc.blk h.blk hD, h.l1.keep (kp_bk B) hc (TyB.lower hB _), h.l2.keep (kp_ar B) hc (TyB.lower hB _), h.l3.keep (kp_bx B) hc (TyB.lower hB _), h.l4.keep (kp_bx B) hc (TyB.lower hB _), h.l5.keep (kp_pt B) hc (TyB.lower hB _), h.ne, h.low⟩
/-- What a row's growing leaves of a list whose row it is not. -/
theorem ListS.grown {α : Type} {w w' : World} {B B' : Nat} {E E' : TypeId} {size size' n : Nat} {C : α → List Value → World → Prop} {Es : List TypeId} {l : List α} {v u : Value} {xs : List Value} (h : ListS B E size C l v w) (hC : Kp B Es C) (hg : w.grownBy w' u.ownBlock) (ho : w.ownsRow B' E' size' u n xs) (hE : E' ∉ Es) (hne : E' ≠ E ∨ ∀ k, v.ownBlock = some k → u.ownBlock ≠ some k) : ListS B E size C l v w' := by
  have hc : Chg u.ownBlock.toList w w' := ⟨hg.os, hg.tape, hg.output, hg.size, fun k hk hn => hg.block k hk (by
    intro e
    rw [← e] at hn
    simp at hn)⟩
  have hty : ∀ k ∈ u.ownBlock.toList, ∀ cs e fr, w.heap[k]? = some (.cells cs e fr) → e = E' := fun k hk cs e fr hh => by
    rcases ho.2 with ⟨rfl, _⟩ | ⟨g, cap, cur, rfl, _, hgg, _⟩
    · simp [Value.ownBlock] at hk
    · simp [Value.ownBlock] at hk
      subst hk
      rw [hgg] at hh
      cases hh
      rfl
  obtain ⟨css, h1, h2, h3⟩ := h
  refine ⟨css, h1, fun i a cs ha hcs => ⟨(h2 i a cs ha hcs).1, hC _ _ _ _ _ hc (fun k hk => .inr fun ds e fr hh he => hE (hty k hk ds e fr hh ▸ he)) (h2 i a cs ha hcs).2⟩, h3.1, ?_⟩
  rcases h3.2 with h0 | ⟨g, cap, cur, rfl, hb, hgg, rest⟩
  · exact .inl h0
  · refine .inr ⟨g, cap, cur, rfl, hb, (hg.block g (Array.getElem?_eq_some_iff.1 hgg).1 (fun e => ?_)).trans hgg, rest⟩
    rcases hne with hne | hne
    · exact hne (hty g (by rw [← e]; simp) _ _ _ hgg).symm
    · exact hne g rfl e.symm
theorem LevAt.app1 {B D : Nat} {L : Pn.Lv} {u1 u2 u3 u4 u5 v : Value} {w w' : World} (h : LevAt B D L u1 u2 u3 u4 u5 w) (hg : w.grownBy w' u1.ownBlock) (z : Pn.Bl) (hv : ListS B 51 3 (Cbk B) (L.blocks ++ [z]) v w') :
    LevAt B D { L with blocks := L.blocks ++ [z] } v u2 u3 u4 u5 (w'.setCell ⟨D, 2, none⟩ v) := by
  obtain ⟨css, c1, c2, ho⟩ := h.l1
  have hb := grown_blk h.blk hg ho (by decide)
  have hs : Chg [D] w' (w'.setCell ⟨D, 2, none⟩ v) := (Chg.refl _ _).setCell _ _ (.inl (by simp))
  have hB : ∀ k ∈ [D], k < B := fun k hk => by simp at hk; rw [hk]; exact h.low
  refine ⟨hb.set 2 v, hv.keep (kp_bk B) hs (TyB.lower hB _), (h.l2.grown (kp_ar B) hg ho (by decide) (.inl (by decide))).keep (kp_ar B) hs (TyB.lower hB _), (h.l3.grown (kp_bx B) hg ho (by decide) (.inl (by decide))).keep (kp_bx B) hs (TyB.lower hB _), (h.l4.grown (kp_bx B) hg ho (by decide) (.inl (by decide))).keep (kp_bx B) hs (TyB.lower hB _), (h.l5.grown (kp_pt B) hg ho (by decide) (.inl (by decide))).keep (kp_pt B) hs (TyB.lower hB _), h.ne, h.low⟩
theorem LevAt.app2 {B D : Nat} {L : Pn.Lv} {u1 u2 u3 u4 u5 v : Value} {w w' : World} (h : LevAt B D L u1 u2 u3 u4 u5 w) (hg : w.grownBy w' u2.ownBlock) (z : Pn.Ar) (hv : ListS B 58 7 Car (L.areas ++ [z]) v w') :
    LevAt B D { L with areas := L.areas ++ [z] } u1 v u3 u4 u5 (w'.setCell ⟨D, 3, none⟩ v) := by
  obtain ⟨css, c1, c2, ho⟩ := h.l2
  have hb := grown_blk h.blk hg ho (by decide)
  have hs : Chg [D] w' (w'.setCell ⟨D, 3, none⟩ v) := (Chg.refl _ _).setCell _ _ (.inl (by simp))
  have hB : ∀ k ∈ [D], k < B := fun k hk => by simp at hk; rw [hk]; exact h.low
  refine ⟨hb.set 3 v, (h.l1.grown (kp_bk B) hg ho (by decide) (.inl (by decide))).keep (kp_bk B) hs (TyB.lower hB _), hv.keep (kp_ar B) hs (TyB.lower hB _), (h.l3.grown (kp_bx B) hg ho (by decide) (.inl (by decide))).keep (kp_bx B) hs (TyB.lower hB _), (h.l4.grown (kp_bx B) hg ho (by decide) (.inl (by decide))).keep (kp_bx B) hs (TyB.lower hB _), (h.l5.grown (kp_pt B) hg ho (by decide) (.inl (by decide))).keep (kp_pt B) hs (TyB.lower hB _), h.ne, h.low⟩
theorem LevAt.app3 {B D : Nat} {L : Pn.Lv} {u1 u2 u3 u4 u5 v : Value} {w w' : World} (h : LevAt B D L u1 u2 u3 u4 u5 w) (hg : w.grownBy w' u3.ownBlock) (z : Pn.Bx) (hv : ListS B 56 4 Cbx (L.aisles ++ [z]) v w') (hn : ∀ k, v.ownBlock = some k → u4.ownBlock ≠ some k) :
    LevAt B D { L with aisles := L.aisles ++ [z] } u1 u2 v u4 u5 (w'.setCell ⟨D, 4, none⟩ v) := by
  obtain ⟨css, c1, c2, ho⟩ := h.l3
  have hb := grown_blk h.blk hg ho (by decide)
  have hs : Chg [D] w' (w'.setCell ⟨D, 4, none⟩ v) := (Chg.refl _ _).setCell _ _ (.inl (by simp))
  have hB : ∀ k ∈ [D], k < B := fun k hk => by simp at hk; rw [hk]; exact h.low
  refine ⟨hb.set 4 v, (h.l1.grown (kp_bk B) hg ho (by decide) (.inl (by decide))).keep (kp_bk B) hs (TyB.lower hB _), (h.l2.grown (kp_ar B) hg ho (by decide) (.inl (by decide))).keep (kp_ar B) hs (TyB.lower hB _), hv.keep (kp_bx B) hs (TyB.lower hB _), (h.l4.grown (kp_bx B) hg ho (by decide) (.inr (fun k hk e => h.ne k e hk))).keep (kp_bx B) hs (TyB.lower hB _), (h.l5.grown (kp_pt B) hg ho (by decide) (.inl (by decide))).keep (kp_pt B) hs (TyB.lower hB _), hn, h.low⟩
theorem LevAt.app4 {B D : Nat} {L : Pn.Lv} {u1 u2 u3 u4 u5 v : Value} {w w' : World} (h : LevAt B D L u1 u2 u3 u4 u5 w) (hg : w.grownBy w' u4.ownBlock) (z : Pn.Bx) (hv : ListS B 56 4 Cbx (L.pillars ++ [z]) v w') (hn : ∀ k, u3.ownBlock = some k → v.ownBlock ≠ some k) :
    LevAt B D { L with pillars := L.pillars ++ [z] } u1 u2 u3 v u5 (w'.setCell ⟨D, 5, none⟩ v) := by
  obtain ⟨css, c1, c2, ho⟩ := h.l4
  have hb := grown_blk h.blk hg ho (by decide)
  have hs : Chg [D] w' (w'.setCell ⟨D, 5, none⟩ v) := (Chg.refl _ _).setCell _ _ (.inl (by simp))
  have hB : ∀ k ∈ [D], k < B := fun k hk => by simp at hk; rw [hk]; exact h.low
  refine ⟨hb.set 5 v, (h.l1.grown (kp_bk B) hg ho (by decide) (.inl (by decide))).keep (kp_bk B) hs (TyB.lower hB _), (h.l2.grown (kp_ar B) hg ho (by decide) (.inl (by decide))).keep (kp_ar B) hs (TyB.lower hB _), (h.l3.grown (kp_bx B) hg ho (by decide) (.inr (fun k hk => h.ne k hk))).keep (kp_bx B) hs (TyB.lower hB _), hv.keep (kp_bx B) hs (TyB.lower hB _), (h.l5.grown (kp_pt B) hg ho (by decide) (.inl (by decide))).keep (kp_pt B) hs (TyB.lower hB _), hn, h.low⟩
theorem LevAt.app5 {B D : Nat} {L : Pn.Lv} {u1 u2 u3 u4 u5 v : Value} {w w' : World} (h : LevAt B D L u1 u2 u3 u4 u5 w) (hg : w.grownBy w' u5.ownBlock) (z : Nat × Nat) (hv : ListS B 24 2 Cpt (L.doors ++ [z]) v w') :
    LevAt B D { L with doors := L.doors ++ [z] } u1 u2 u3 u4 v (w'.setCell ⟨D, 6, none⟩ v) := by
  obtain ⟨css, c1, c2, ho⟩ := h.l5
  have hb := grown_blk h.blk hg ho (by decide)
  have hs : Chg [D] w' (w'.setCell ⟨D, 6, none⟩ v) := (Chg.refl _ _).setCell _ _ (.inl (by simp))
  have hB : ∀ k ∈ [D], k < B := fun k hk => by simp at hk; rw [hk]; exact h.low
  refine ⟨hb.set 6 v, (h.l1.grown (kp_bk B) hg ho (by decide) (.inl (by decide))).keep (kp_bk B) hs (TyB.lower hB _), (h.l2.grown (kp_ar B) hg ho (by decide) (.inl (by decide))).keep (kp_ar B) hs (TyB.lower hB _), (h.l3.grown (kp_bx B) hg ho (by decide) (.inl (by decide))).keep (kp_bx B) hs (TyB.lower hB _), (h.l4.grown (kp_bx B) hg ho (by decide) (.inl (by decide))).keep (kp_bx B) hs (TyB.lower hB _), hv.keep (kp_pt B) hs (TyB.lower hB _), h.ne, h.low⟩
end Go.Proofs.YtocadlcglgpdcaaDoor

