/-
  Layer 4: the iterator of the levels.
-/
import Derived.Test.YtpeehlflhnhhjaaDoorTrE
import Derived.Deep.AppendLies
namespace Go.Proofs.YtpeehlflhnhhjaaDoor
set_option linter.unusedVariables false
set_option linter.unusedSimpArgs false
open Go Go.RowKit Go.Shelf
attribute [local go_sem] Oper.semAt_some

namespace Tr
/-- The next higher level. -/
def up : List Bytes → List Bytes
  | a :: b :: r => node a b :: up r
  | l => l
/-- The levels from l on. -/
def levs : Nat → List Bytes → List (List Bytes)
  | 0, l => [l]
  | f + 1, l => if l.length ≤ 1 then [l] else l :: levs f (up l)
/-- The first k leaves' digests, and empty texts behind them. -/
def lay (l : List Bytes) (k : Nat) : List Bytes := (l.take k).map leaf ++ List.replicate (l.length - k) []
theorem lay_zero (l : List Bytes) : lay l 0 = List.replicate l.length [] := by simp [lay]
theorem lay_all (l : List Bytes) : lay l l.length = l.map leaf := by simp [lay]
theorem lay_len (l : List Bytes) (k : Nat) (h : k ≤ l.length) : (lay l k).length = l.length := by simp [lay]; omega
theorem lay_set (l : List Bytes) (k : Nat) (x : Bytes) (hx : l[k]? = some x) : (lay l k).set k (leaf x) = lay l (k + 1) := by
  have hk := (List.getElem?_eq_some_iff.1 hx).1
  unfold lay
  rw [List.take_add_one, hx, Option.toList_some, List.map_append, show l.length - k = (l.length - (k + 1)) + 1 by omega, List.replicate_succ, List.set_append_right _ _ (by simp; omega)]
  simp [show min k l.length = k by omega]
/-- What the pair at place k makes. -/
def pairOf (l : List Bytes) (k : Nat) : Bytes := if 2 * k + 1 < l.length then node (l.getD (2 * k) []) (l.getD (2 * k + 1) []) else l.getD (2 * k) []
theorem up_eq : ∀ l : List Bytes, up l = (List.range ((l.length + 1) / 2)).map (pairOf l)
  | [] => rfl
  | [a] => by simp [up, pairOf]
  | a :: b :: r => by
    have h := up_eq r
    rw [up, h, show ((a :: b :: r).length + 1) / 2 = (r.length + 1) / 2 + 1 by simp; omega, List.range_succ_eq_map, List.map_cons, List.map_map]
    refine congr (congrArg List.cons ?_) ?_
    · simp [pairOf]
    · apply List.map_congr_left
      intro k _
      simp only [pairOf, Function.comp, Nat.succ_eq_add_one, List.length_cons, show 2 * (k + 1) = 2 * k + 1 + 1 by omega, List.getD_cons_succ]
      by_cases h : 2 * k + 1 < r.length
      · rw [if_pos h, if_pos (by omega)]
      · rw [if_neg h, if_neg (by omega)]
theorem levs_len : ∀ (f : Nat) (l : List Bytes), (levs f l).length ≤ f + 1 ∧ 1 ≤ (levs f l).length
  | 0, l => by simp [levs]
  | f + 1, l => by
    have h := levs_len f (up l)
    unfold levs
    split <;> simp <;> omega
theorem levs_pre {α : Type} {n f : Nat} {l lev : List Bytes} {pre : List (α × List Bytes)} (h : levs n l = pre.map Prod.snd ++ levs f lev) : pre.length < n + 1 := by
  have h1 := congrArg List.length h
  have h2 := levs_len n l
  have h3 := levs_len f lev
  simp at h1
  omega
theorem up_len (l : List Bytes) : (up l).length = (l.length + 1) / 2 := by rw [up_eq]; simp
theorem up_small {l : List Bytes} (h : ∀ x ∈ l, x.length ≤ 1000000) : ∀ x ∈ up l, x.length ≤ 1000000 := by
  intro x hx
  rw [up_eq] at hx
  obtain ⟨k, hk, rfl⟩ := List.mem_map.1 hx
  have hk := List.mem_range.1 hk
  unfold pairOf
  split
  · rw [node_len]; decide
  · rw [List.getD_eq_getElem?_getD, List.getElem?_eq_getElem (by omega)]
    exact h _ (List.getElem_mem _)
end Tr
theorem Chg.grown0 {w w' : World} (h : Chg [] w w') : w.grownBy w' none := ⟨h.os, h.tape, h.output, h.size, fun k hk _ => h.block k hk (by simp)⟩
theorem grown0_chg {w w' : World} (h : w.grownBy w' none) : Chg [] w w' := ⟨h.os, h.tape, h.output, h.size, fun k hk _ => h.block k hk (by simp)⟩
theorem put_cells {W : World} {l k : Nat} {o o' : Obj} {cs : Array Value} {e : TypeId} {fr : Nat × Nat} (hl : W.heap[l]? = some o) (ho : o.isCells = false) (hk : W.heap[k]? = some (.cells cs e fr)) : (W.putObj l o').heap[k]? = some (.cells cs e fr) := by
  refine (World.putObj_heap_other ?_).trans hk
  intro h
  subst h
  rw [hl] at hk
  cases hk
  cases ho
/-- A boxed row of texts of the loop's own speaks of cells alone. -/
theorem row_cellish (bx : Nat) (w0 : World) (hbx : bx < w0.heap.size) (k : Nat) (xs : List Value) :
    Cellish w0.heap.size (fun W' => ∃ v, Blk W' bx [v] 22 ∧ W'.ownsRow 0 9 1 v k xs ∧ (∀ b ∈ v.ownBlock.toList, w0.heap.size ≤ b) ∧ Chg [bx] w0 W') := by
  refine ⟨?_, ?_, ?_⟩
  · rintro W o ⟨v, h1, h2, h3, h4⟩
    exact ⟨v, h1.alloc _, h2.alloc _, h3, h4.alloc _⟩
  · rintro W W' ⟨v, h1, h2, h3, h4⟩ hg
    exact ⟨v, (grown0_chg hg).blk h1 (by simp), row_keptB h2 (grown0_chg hg), h3, h4.trans (grown0_chg hg) (by simp)⟩
  · rintro W l o o' hl ho hoc ⟨v, h1, h2, h3, h4⟩
    refine ⟨v, put_cells ho hoc h1, ⟨h2.1, ?_⟩, h3, ⟨h4.os, h4.tape, h4.output, by simpa using h4.size, fun j hj hn => (World.putObj_heap_other (by omega)).trans (h4.block j hj hn)⟩⟩
    rcases h2.2 with h0 | ⟨g, cap, cur, rfl, hb, hg, rest⟩
    · exact .inl h0
    · exact .inr ⟨g, cap, cur, rfl, hb, put_cells ho hoc hg, rest⟩
/-- Behind a round: one more text in the row. -/
theorem body_end {bx : Nat} {w0 W5 w9 w10 : World} {v5 : Value} {lev : List Bytes} {pre : List Nat} {x g9 cap9 : Nat} {s : Bytes} {Bs Bn : Nat}
    (HPO : Hid (Tr.pairOf lev x = s)) (HB5 : Hid (Blk W5 bx [v5] 22)) (HR5 : Hid (W5.ownsRow 0 9 1 v5 pre.length ((pre.map (Tr.pairOf lev)).map vstr))) (HO5 : Hid (∀ b ∈ v5.ownBlock.toList, w0.heap.size ≤ b)) (HC5 : Hid (Chg [bx] w0 W5))
    (HC9 : Hid (Chg [] W5 w9)) (HBW : Hid (w0.heap.size ≤ W5.heap.size)) (HOW : Hid (bx < w0.heap.size)) (hown : w10.ownsRow 0 9 1 (.slice (some ⟨g9, 0, none⟩) (pre.length + 1) cap9) (pre.length + 1) ((pre.map (Tr.pairOf lev)).map vstr ++ [.string ⟨s.toArray⟩]))
    (hgrow : (w9.alloc (.cells #[.string ⟨s.toArray⟩] 9)).grownBy w10 v5.ownBlock) (hat : v5.ownBlock = some g9 ∨ g9 = w9.heap.size + 1) (hBs : Bs < w0.heap.size ∧ Bs ≠ bx) (hBn : Bn < w0.heap.size ∧ Bn ≠ bx) :
    KeepsOthers W5 (w10.setCell ⟨bx, 0, none⟩ (.slice (some ⟨g9, 0, none⟩) (pre.length + 1) cap9)) ∧
    ((w10.setCell ⟨bx, 0, none⟩ (.slice (some ⟨g9, 0, none⟩) (pre.length + 1) cap9)).heap[Bs]? = W5.heap[Bs]? ∧ (w10.setCell ⟨bx, 0, none⟩ (.slice (some ⟨g9, 0, none⟩) (pre.length + 1) cap9)).heap[Bn]? = W5.heap[Bn]?) ∧
    ∃ v, Blk (w10.setCell ⟨bx, 0, none⟩ (.slice (some ⟨g9, 0, none⟩) (pre.length + 1) cap9)) bx [v] 22 ∧ (w10.setCell ⟨bx, 0, none⟩ (.slice (some ⟨g9, 0, none⟩) (pre.length + 1) cap9)).ownsRow 0 9 1 v (pre ++ [x]).length (((pre ++ [x]).map (Tr.pairOf lev)).map vstr) ∧ (∀ b ∈ v.ownBlock.toList, w0.heap.size ≤ b) ∧
      Chg [bx] w0 (w10.setCell ⟨bx, 0, none⟩ (.slice (some ⟨g9, 0, none⟩) (pre.length + 1) cap9)) := by
  have h1 : Chg [] W5 (w9.alloc (.cells #[.string ⟨s.toArray⟩] 9)) := HC9.out.alloc _
  have h2 : Chg v5.ownBlock.toList W5 w10 := (h1.mono (by simp)).grown hgrow (fun k hk => .inl (by rw [hk]; simp))
  have h3 : Chg (bx :: v5.ownBlock.toList) W5 (w10.setCell ⟨bx, 0, none⟩ (.slice (some ⟨g9, 0, none⟩) (pre.length + 1) cap9)) := (h2.mono (fun k hk => by simp [hk])).setCell _ _ (.inl (by simp))
  have hnb : bx ∉ v5.ownBlock.toList := fun hm => by have := HO5.out bx hm; have := HOW.out; omega
  have hg9 : w0.heap.size ≤ g9 := by
    rcases hat with h | h
    · exact HO5.out g9 (by rw [h]; simp)
    · have := HC9.out.size; have := HBW.out; omega
  have hne : ∀ k, k < w0.heap.size → k ≠ bx → k ∉ bx :: v5.ownBlock.toList := fun k hk hb hm => by
    rcases List.mem_cons.1 hm with h | h
    · exact hb h
    · have := HO5.out k h; omega
  refine ⟨⟨h3.size, fun k o ho hoc => (h3.block k (Array.getElem?_eq_some_iff.1 ho).1 (fun hm => ?_)).trans ho⟩, ⟨h3.block Bs (by have := HBW.out; omega) (hne Bs hBs.1 hBs.2), h3.block Bn (by have := HBW.out; omega) (hne Bn hBn.1 hBn.2)⟩, _, (h2.blk HB5.out hnb).set 0 _, ?_, ?_, HC5.out.trans h3 (fun k hk => ?_)⟩
  · rcases List.mem_cons.1 hm with h | h
    · subst h
      have := HB5.out
      unfold Blk at this
      rw [ho] at this
      cases this
      cases hoc
    · rcases HR5.out.2 with ⟨h0, _⟩ | ⟨g, cap, cur, h0, _, hg, _⟩
      · rw [h0] at h; simp [Value.ownBlock] at h
      · rw [h0] at h
        simp [Value.ownBlock] at h
        subst h
        rw [ho] at hg
        cases hg
        cases hoc
  · have hr : (w10.setCell ⟨bx, 0, none⟩ (.slice (some ⟨g9, 0, none⟩) (pre.length + 1) cap9)).ownsRow 0 9 1 (.slice (some ⟨g9, 0, none⟩) (pre.length + 1) cap9) (pre.length + 1) ((pre.map (Tr.pairOf lev)).map vstr ++ [.string ⟨s.toArray⟩]) := by
      refine ⟨hown.1, ?_⟩
      rcases hown.2 with h0 | ⟨g, cap, cur, h0, hb, hg, rest⟩
      · exact .inl h0
      · refine .inr ⟨g, cap, cur, h0, hb, (heap_setCell_other w10 _ g _ ?_).trans hg, rest⟩
        simp at h0
        have := HOW.out
        show g ≠ bx
        omega
    simp only [List.length_append, List.length_cons, List.length_nil, List.map_append, List.map_cons, List.map_nil]
    rw [HPO.out]
    exact hr
  · intro b hb
    simp [Value.ownBlock] at hb
    subst hb
    exact hg9
  · rcases List.mem_cons.1 hk with h | h
    · exact .inl (by simp [h])
    · exact .inr (HO5.out k h)
/-- The marks that ranges over functions leave on the deferred calls, and the blocks they name. -/
def marks (Ds : List Nat) : List Deferred := Ds.map fun D => { target := .collected D, args := #[] }
def Marked (B : Nat) (Ds : List Nat) (w : World) : Prop := Ds.Nodup ∧ ∀ D ∈ Ds, B ≤ D ∧ w.heap[D]? = some (.deferred (some []))
theorem Marked.nil (B : Nat) (w : World) : Marked B [] w := ⟨List.nodup_nil, by simp⟩
theorem Marked.keeps {B : Nat} {Ds : List Nat} {w w' : World} (h : Marked B Ds w) (hk : KeepsOthers w w') : Marked B Ds w' :=
  ⟨h.1, fun D hD => ⟨(h.2 D hD).1, hk.same _ _ (h.2 D hD).2 rfl⟩⟩
theorem Marked.lt {B : Nat} {Ds : List Nat} {w : World} (h : Marked B Ds w) {D : Nat} (hD : D ∈ Ds) : D < w.heap.size := (Array.getElem?_eq_some_iff.1 (h.2 D hD).2).1
theorem Marked.cons {B : Nat} {Ds : List Nat} {w : World} (h : Marked B Ds w) {D : Nat} (hn : D ∉ Ds) (hB : B ≤ D) (hD : w.heap[D]? = some (.deferred (some []))) : Marked B (D :: Ds) w :=
  ⟨List.nodup_cons.2 ⟨hn, h.1⟩, fun E hE => (List.mem_cons.1 hE).elim (fun h1 => by rw [h1]; exact ⟨hB, hD⟩) (h.2 E)⟩
theorem Marked.chg {own : List Nat} {B : Nat} {Ds : List Nat} {w w' : World} (h : Marked B Ds w) (hc : Chg own w w') (ho : ∀ k ∈ own, ∃ o, w.heap[k]? = some o ∧ o.isCells = true) : Marked B Ds w' :=
  ⟨h.1, fun D hD => ⟨(h.2 D hD).1, (hc.block D (h.lt hD) (fun hm => by
    obtain ⟨o, h1, h2⟩ := ho D hm
    rw [(h.2 D hD).2] at h1
    cases h1
    cases h2)).trans (h.2 D hD).2⟩⟩
/-- The function's end: the marks are taken off, one after the other. -/
theorem leaves_marks {n : Nat} {P : Program} {fn : Func} {tmps : Array Value} {R : Ending → World → Prop} {B : Nat} (hr : fn.results = #[]) (J : World → Prop)
    (HJ : ∀ A D, B ≤ D → A.heap[D]? = some (.deferred (some [])) → J A → J (A.putObj D (.deferred none))) (hR : ∀ w, J w → R (.returned (.tuple #[])) w) :
    ∀ (Ds : List Nat) (w : World), Marked B Ds w → J w → LeavesInM Fence.wide n P fn tmps R (marks Ds) .returning w := by
  intro Ds
  induction Ds with
  | nil =>
    intro w _ hj
    exact ⟨_, results_none hr _ _ _, hR w hj⟩
  | cons D Ds ih =>
    intro w hm hj
    have hD := hm.2 D (by simp)
    have hnd := List.nodup_cons.1 hm.1
    refine ⟨by simp, .inl ⟨D, _, rfl, run_takeDeferred hD.2, ih _ ⟨hnd.2, fun E hE => ⟨(hm.2 E (by simp [hE])).1, (World.putObj_heap_other ?_).trans (hm.2 E (by simp [hE])).2⟩⟩ (HJ _ _ hD.1 hD.2 hj)⟩⟩
    rintro rfl
    exact hnd.1 hE
def lenOf : Value → Nat
  | .slice _ n _ => n
  | _ => 0
set_option maxRecDepth 100000 in
set_option maxHeartbeats 4000000 in
theorem levels1_in (n : Nat) (hn : 4 ≤ n) (l Bl : Nat) (leaves : List Bytes) (hl0 : leaves ≠ []) (hl : leaves.length ≤ 900) (HB : Hid (∀ x ∈ leaves, x.length ≤ 1000000)) (J : List (Value × List Bytes) → World → Prop) (Kp : World → World → Prop) (wf : World → Prop)
    (HJ : Hid (∀ pre A B, J pre A → A.grownBy B none → J pre B)) (HW1 : Hid (∀ A B, wf A → A.grownBy B none → wf B)) (HW2 : Hid (∀ A B, wf A → Kp A B → wf B)) (HKL : Hid (∀ A B, wf A → Kp A B → Laid A → Laid B))
    (HKK : Hid (∀ V A B g, wf V → V.grownBy A none → V.heap.size ≤ g → g < A.heap.size → (∃ i u, A.cell? ⟨g, i, none⟩ = some u) → Kp A B → B.heap[g]? = A.heap[g]?))
    (HY : Hid (∀ pre x A, J pre A → Strs A x.1 x.2 → x.2 ≠ [] → x.2.length ≤ 900 → pre.length < leaves.length + 1 → YieldAt Fence.wide (n - 1) Tryd.prog l #[x.1] A fun e B => e = .returned (.bool true) ∧ J (pre ++ [x]) B ∧ Kp A B ∧ KeepsOthers A B))
    (W : World) (HJM : Hid (∀ pre A D, W.heap.size ≤ D → A.heap[D]? = some (.deferred (some [])) → J pre A → J pre (A.putObj D (.deferred none)))) (hwf : wf W) (HL : Hid (Laid W)) (v : Value) (HV : Hid (Strs W v leaves)) (hBl : W.cell? ⟨Bl, 0, none⟩ = some v) (h0 : J [] W) :
    CallsIn Fence.wide n Tryd.prog 34 #[.func (.yield l) #[] #[], .pointer (some ⟨Bl, 0, none⟩)] W fun e W' => (∃ v, e = .returned v) ∧ ∃ xs, xs.map Prod.snd = Tr.levs leaves.length (leaves.map Tr.leaf) ∧ J xs W' := by
  obtain ⟨ao, cap, rfl, _, hv⟩ := HV.out
  have HE := Lib.hid hv
  obtain ⟨m, hm⟩ : ∃ m, m = leaves.length := ⟨_, rfl⟩
  rw [← hm] at hBl
  have Hm := Lib.hid hm
  have hm9 : m ≤ 900 := by omega
  obtain ⟨Z, hZ⟩ : ∃ Z, Z = ((List.replicate m ([] : Bytes)).map vstr).toArray := ⟨_, rfl⟩
  have hmk := make_strs m (by omega) W
  rw [← hZ] at hmk
  have HZ := Lib.hid hZ
  have hBlt : Bl < W.heap.size := World.block_lt_of_cell? _ _ hBl
  clear hZ
  clear hm hv hl
  refine callsIn_of_wp_marks Tryd.func34 rfl trivial ?_ rfl
  simp only [Tryd.ntmps34, List.size_toArray, List.length_cons, List.length_nil, Nat.reduceAdd, Nat.reduceSub, Array.replicate_succ, Array.replicate_zero, List.push_toArray, List.append_toArray, List.nil_append, List.cons_append]
  gi_wp2
  have hb0 : Blk (W.alloc (.cells Z 9)) W.heap.size ((Tr.lay leaves 0).map vstr) 9 := by
    rw [HZ.out, Tr.lay_zero, ← Hm.out]
    exact Blk.new W _ _
  have hc0 : Chg [] W (W.alloc (.cells Z 9)) := (Chg.refl _ _).alloc _
  have HB0 := Lib.hid hb0
  have HC0 := Lib.hid hc0
  obtain ⟨G, hG⟩ : ∃ G, G = W.heap.size := ⟨_, rfl⟩
  rw [← hG] at HB0 ⊢
  have HG := Lib.hid hG
  have HWF := Lib.hid hwf
  have HJ0 := Lib.hid h0
  clear hb0 hc0 hmk hBl hBlt hG hwf h0
  gi_loopw [13] (fun i wr => ∃ k : Nat, k ≤ m ∧ i = .int .i64 k ∧ Blk wr G ((Tr.lay leaves k).map vstr) 9 ∧ Chg [] W wr) (fun i _ => m - (intOf i).toNat)
  case atStart => exact ⟨0, Nat.zero_le _, rfl, HB0.out, HC0.out⟩
  case round =>
    obtain ⟨k, hk, rfl, hB, hC⟩ := hrel
    have HB1 := Lib.hid hB
    have HC1 := Lib.hid hC
    clear hB hC HB0 HC0
    by_cases hlt : k < m
    · obtain ⟨x, hx⟩ : ∃ x, leaves[k]? = some x := ⟨leaves[k]'(by rw [← Hm.out]; exact hlt), by simp⟩
      obtain ⟨g, off, rfl, hc⟩ := HE.out k x hx
      have c0 := (World.cell?_of_block (HC1.out.block g (World.block_lt_of_cell? _ _ hc) (by simp))).trans hc
      have HXL : Hid (x.length ≤ 1000000) := Lib.hid (HB.out x (List.mem_of_getElem? hx))
      have HSET := Lib.hid (Tr.lay_set leaves k x hx)
      have hold : wr.cell? ⟨G, k, none⟩ = some (vstr ((Tr.lay leaves k)[k]'(by rw [Tr.lay_len _ _ (by rw [← Hm.out]; exact hk), ← Hm.out]; exact hlt))) := HB1.out.cell (i := k) (by rw [List.getElem?_map, List.getElem?_eq_getElem (by rw [Tr.lay_len _ _ (by rw [← Hm.out]; exact hk), ← Hm.out]; exact hlt)]; rfl)
      have HOLD := Lib.hid hold
      clear hx hc hold
      gi_wp2
      have HA : Hid (Chg [] wr (wr.alloc (.cells #[.string ⟨#[108, 101, 97, 102]⟩, .string ⟨x.toArray⟩] 9))) := Lib.hid ((Chg.refl _ _).alloc _)
      refine ⟨trivial, (fun h0 => by cases h0), ?_⟩
      refine (callsIn_wide.2 (of_spec _ (Lib.hid ((HL.out.quiet HC1.out).quiet HA.out)) _ [[108, 101, 97, 102], x] (Lib.hid (two_strs wr [108, 101, 97, 102] x)) (by simp) (Lib.hid (all2 (by decide) HXL.out)))).mono ?_
      rintro e w5 ⟨rfl, hc⟩
      have HC5 := Lib.hid (HA.out.trans hc (by simp))
      have HB5 := Lib.hid (HC5.out.blk HB1.out (by simp))
      have o0 := (World.cell?_of_block (a := ⟨G, k, none⟩) (HC5.out.block G HB1.out.lt (by simp))).trans HOLD.out
      have f0 := HB5.out.free k
      have HC6 := Lib.hid (HC1.out.trans HC5.out (by simp))
      clear hc c0 HB1 HC1
      gi_wp2
      go_roundw
      case rel =>
        refine ⟨k + 1, by omega, by go_num, ?_, HC6.out.setCell _ _ (.inr (by rw [HG.out]; exact Nat.le_refl _))⟩
        rw [← HSET.out, List.map_set]
        exact HB5.out.set k _
      case measure => simp [intOf]; omega
    · have hkm : k = m := by omega
      have hall : Tr.lay leaves k = leaves.map Tr.leaf := by rw [hkm, Hm.out]; exact Tr.lay_all _
      have HBL : Hid (Blk wr G ((leaves.map Tr.leaf).map vstr) 9) := Lib.hid (by have := HB1.out; rw [hall] at this; exact this)
      have hne : leaves.map Tr.leaf ≠ [] := by simpa using hl0
      have hlen : (leaves.map Tr.leaf).length = m := by rw [List.length_map, Hm.out]
      obtain ⟨lev0, hlev0⟩ : ∃ lev0, lev0 = leaves.map Tr.leaf := ⟨_, rfl⟩
      rw [← hlev0] at HBL hne hlen
      have HLN := Lib.hid hlen
      have HNE := Lib.hid hne
      have H16 : Hid (∀ x ∈ lev0, x.length ≤ 1000000) := Lib.hid (by
        rw [hlev0]
        intro x hx
        obtain ⟨y, _, rfl⟩ := List.mem_map.1 hx
        rw [Tr.leaf_len]; decide)
      have HGL : Hid (W.heap.size ≤ G) := Lib.hid (by rw [HG.out]; exact Nat.le_refl _)
      have HLV0 := Lib.hid hlev0
      have HJ1 := Lib.hid (HJ.out _ _ _ HJ0.out HC1.out.grown0)
      have HL1 := Lib.hid (HL.out.quiet HC1.out)
      clear hall hkm HB1 hlev0 hne hlen HG HJ0
      gi_wp2
      refine wpIn_loop (fun a' wr => ∃ (u3 u6 u7 u25 u26 u27 u28 u29 u30 u31 u32 u33 u34 u35 u36 u37 u38 u39 u40 u41 u42 u43 u44 u45 u46 u47 u48 u49 u50 u51 u52 u53 u54 u55 u56 : Value) (ds : List Deferred), (∃ (pre : List (Value × List Bytes)) (lev : List Bytes) (f g cap : Nat) (V : World) (Ds : List Nat), ds = marks Ds ∧ Marked W.heap.size Ds wr ∧ W.heap.size ≤ wr.heap.size ∧ u3 = .slice (some ⟨g, 0, none⟩) lev.length cap ∧ lev.length ≤ cap ∧ lev ≠ [] ∧ lev.length ≤ 900 ∧ (∀ x ∈ lev, x.length ≤ 1000000) ∧ (∀ i x, lev[i]? = some x → wr.cell? ⟨g, i, none⟩ = some (.string ⟨x.toArray⟩)) ∧ J pre wr ∧ Laid wr ∧ wf V ∧ V.grownBy wr none ∧ V.heap.size ≤ g ∧ g < wr.heap.size ∧ lev.length ≤ f ∧ Tr.levs leaves.length lev0 = pre.map Prod.snd ++ Tr.levs f lev) ∧ a' = { tmps := #[.func (.yield l) #[] #[], .pointer (some ⟨Bl, 0, none⟩), undef, u3, u4, u5, u6, u7, .slice ao m cap, .int .i64 m, .slice (some ⟨G, 0, none⟩) m m, .slice ao m cap, .int .i64 m, .int .i64 k, .bool false, u15, u16, u17, u18, u19, u20, u21, u22, u23, u24, u25, u26, u27, u28, u29, u30, u31, u32, u33, u34, u35, u36, u37, u38, u39, u40, u41, u42, u43, u44, u45, u46, u47, u48, u49, u50, u51, u52, u53, u54, u55, u56], defers := ds }) (fun a' _ => lenOf (a'.tmps.getD 3 undef)) ?atStart ?round
      case atStart =>
        repeat apply Exists.intro
        refine ⟨?_, rfl⟩
        refine ⟨[], lev0, leaves.length, G, m, W, [], rfl, Marked.nil _ _, HC1.out.size, by rw [HLN.out], by rw [HLN.out]; exact Nat.le_refl _, HNE.out, by rw [HLN.out]; exact hm9, H16.out, fun i x hx => ?_, HJ1.out, HL1.out, HWF.out, HC1.out.grown0, HGL.out, HBL.out.lt, by rw [HLN.out, Hm.out]; exact Nat.le_refl _, rfl⟩
        exact HBL.out.cell (by rw [List.getElem?_map, hx]; rfl)
      case round =>
        rintro a' wr2 ⟨u3, u6, u7, u25, u26, u27, u28, u29, u30, u31, u32, u33, u34, u35, u36, u37, u38, u39, u40, u41, u42, u43, u44, u45, u46, u47, u48, u49, u50, u51, u52, u53, u54, u55, u56, ds, ⟨pre, lev, f, g, cap2, V, Ds, rfl, hmk, hWr, rfl, hcap2, hlne, hl9, hl16, hcells, hj, hla, hwV, hVg, hgV, hgl, hlf, hlv⟩, rfl⟩
        have hst : Strs _ (Value.slice (some ⟨g, 0, none⟩) lev.length cap2) lev := ⟨_, cap2, rfl, hcap2, fun i x hx => ⟨g, 0, rfl, by rw [Nat.zero_add]; exact hcells i x hx⟩⟩
        obtain ⟨fn, tmps, assign, body, hy, hR⟩ := HY.out pre (.slice (some ⟨g, 0, none⟩) lev.length cap2, lev) _ hj hst hlne hl9 (Tr.levs_pre hlv)
        simp only at hy
        obtain ⟨q, hq⟩ : ∃ q, q = lev.length := ⟨_, rfl⟩
        rw [← hq] at hy hcap2 hl9 hlf ⊢
        have HQ := Lib.hid hq
        have HLV := Lib.hid hlv
        have HCE := Lib.hid hcells
        have HWV := Lib.hid hwV
        have HVG := Lib.hid hVg
        have HLA := Lib.hid hla
        have HL16 := Lib.hid hl16
        have HLNE := Lib.hid hlne
        have HMK := Lib.hid hmk
        have HWR := Lib.hid hWr
        clear hWr
        clear hmk hq hlv hcells hwV hVg hla hl16 hst hj hlne HJ1 HL1 HBL
        by_cases hq1 : q ≤ 1
        · gi_wp2
          refine ⟨(fun h0 => by cases h0), hR.mono ?_⟩
          rintro e W3 ⟨rfl, hJ3, hk3, hko⟩
          have HJ3 := Lib.hid hJ3
          have HMK3 := Lib.hid (HMK.out.keeps hko)
          clear hJ3 hk3 hy hR hko
          gi_wp2
          refine leaves_marks rfl (J _) (HJM.out _) (fun w hw => ⟨⟨_, rfl⟩, _, ?_, hw⟩) Ds _ HMK3.out HJ3.out
          rw [← HLV0.out, HLV.out, List.map_append]
          congr 1
          cases f with
          | zero => rfl
          | succ f =>
            show _ = if lev.length ≤ 1 then [lev] else _
            rw [if_pos (by rw [← HQ.out]; exact hq1)]
            rfl
        · have hq2 : 1 < q := by omega
          gi_wp2
          refine ⟨(fun h0 => by cases h0), hR.mono ?_⟩
          rintro e W3 ⟨rfl, hJ3, hk3, hko⟩
          have HMK3 := Lib.hid (HMK.out.keeps hko)
          have HWR3 : Hid (W.heap.size ≤ W3.heap.size) := Lib.hid (Nat.le_trans HWR.out hko.size)
          have hsame := HKK.out V _ W3 g HWV.out HVG.out hgV hgl (by
            obtain ⟨y0, hy0⟩ : ∃ y0, lev[0]? = some y0 := ⟨lev[0]'(by rw [← HQ.out]; omega), by simp⟩
            exact ⟨0, _, HCE.out 0 y0 hy0⟩) hk3
          have HJ3 := Lib.hid hJ3
          have HL3 := Lib.hid (HKL.out _ _ (HW1.out _ _ HWV.out HVG.out) hk3 HLA.out)
          have HW3 := Lib.hid (HW2.out _ _ (HW1.out _ _ HWV.out HVG.out) hk3)
          have HC3 : Hid (∀ (i : Nat) (x : Bytes), lev[i]? = some x → W3.cell? ⟨g, i, none⟩ = some (.string ⟨x.toArray⟩)) := Lib.hid (fun i x hx => (World.cell?_of_block (a := ⟨g, i, none⟩) hsame).trans (HCE.out i x hx))
          have HG3 : Hid (g < W3.heap.size) := Lib.hid (by
            rcases Nat.lt_or_ge g W3.heap.size with h | h
            · exact h
            · rw [Array.getElem?_eq_none h, Array.getElem?_eq_getElem hgl] at hsame
              cases hsame)
          clear hko hJ3 hk3 hy hR hsame hgV hgl HLA HWV HVG HCE
          gi_wp2
          refine ⟨trivial, (fun h0 => by cases h0), (callsIn_wide.2 (chunk_spec _ _ q cap2)).mono ?_⟩
          rintro e W4 ⟨rfl, rfl⟩
          have hbx := ((Blk.new W3 [.slice none 0 0] 22).alloc (.cells #[.slice (some ⟨g, 0, none⟩) q cap2] 22)).alloc (.cells #[.int .i64 2] 3)
          have hbs := (Blk.new (W3.alloc (.cells #[.slice none 0 0] 22)) [.slice (some ⟨g, 0, none⟩) q cap2] 22).alloc (.cells #[.int .i64 2] 3)
          have hbn := Blk.new ((W3.alloc (.cells #[.slice none 0 0] 22)).alloc (.cells #[.slice (some ⟨g, 0, none⟩) q cap2] 22)) [.int .i64 2] 3
          have hc4 : Chg [] W3 (((W3.alloc (.cells #[.slice none 0 0] 22)).alloc (.cells #[.slice (some ⟨g, 0, none⟩) q cap2] 22)).alloc (.cells #[.int .i64 2] 3)) := (((Chg.refl _ _).alloc _).alloc _).alloc _
          simp only [World.size_alloc] at hbs hbn ⊢
          obtain ⟨w0, hw0⟩ : ∃ w0, w0 = ((W3.alloc (.cells #[.slice none 0 0] 22)).alloc (.cells #[.slice (some ⟨g, 0, none⟩) q cap2] 22)).alloc (.cells #[.int .i64 2] 3) := ⟨_, rfl⟩
          rw [← hw0] at hbx hbs hbn hc4 ⊢
          have HBX := Lib.hid hbx
          have HBS := Lib.hid hbs
          have HBN := Lib.hid hbn
          have HC4 := Lib.hid hc4
          clear hw0 hbx hbs hbn hc4
          gi_wp2
          obtain ⟨bx, hbxe⟩ : ∃ bx, bx = W3.heap.size := ⟨_, rfl⟩
          rw [← hbxe] at HBX HBS HBN ⊢
          have HBXE := Lib.hid hbxe
          clear hbxe
          have cBs := HBS.out.cell (i := 0) rfl
          have cBn := HBN.out.cell (i := 0) rfl
          have lBs := HBS.out.lt
          have lBn := HBN.out.lt
          have hq9 : q ≤ 1000000 := by omega
          refine range_hands (I := fun pre W' => ∃ v, Blk W' bx [v] 22 ∧ W'.ownsRow 0 9 1 v pre.length ((pre.map (Tr.pairOf lev)).map vstr) ∧ (∀ b ∈ v.ownBlock.toList, w0.heap.size ≤ b) ∧ Chg [bx] w0 W')
            (by omega) rfl (enters_of Tryd.func43 (by kernel_rfl) rfl) (chunk_hands (n - 1) (by omega) (bx + 1) (bx + 1 + 1) g 0 q cap2 hq9 hcap2 w0 cBs cBn) (fun h k => ⟨k.1.trans h.1, k.2.trans h.2⟩) ?kb ?hI ?hP ?h0 ?a1 ?assign ?body ?done
          case assign =>
            intro l2 x W5 K hK
            gi_wp2
            exact hK
          case hP => exact fun x => ⟨fun _ _ h => h, fun _ _ h _ => h, fun _ _ _ _ _ _ _ h => h⟩
          case hI => exact fun pre2 => row_cellish bx w0 HBX.out.lt _ _
          case kb =>
            intro W6 l6 o6 o6' hl6 _ _
            exact ⟨World.putObj_heap_other (by omega), World.putObj_heap_other (by omega)⟩
          case h0 => exact ⟨_, HBX.out, World.ownsRow_nil _ _ _ _, by simp [Value.ownBlock], Chg.refl _ _⟩
          case body =>
            rintro l2 pre2 x W5 ⟨v5, hb5, hr5, ho5, hc5⟩ hx hpl2
            have HGB : Hid (g ≠ bx) := Lib.hid (by have := HG3.out; have := HBXE.out; omega)
            have hg0 : W5.heap[g]? = W3.heap[g]? := (hc5.block g (by have := HG3.out; have := HC4.out.size; omega) (by simpa using HGB.out)).trans (HC4.out.block g HG3.out (by simp))
            have HCX : Hid (∀ (i : Nat) (x : Bytes), lev[i]? = some x → W5.cell? ⟨g, i, none⟩ = some (.string ⟨x.toArray⟩)) := Lib.hid (fun i x hx => (World.cell?_of_block (a := ⟨g, i, none⟩) hg0).trans (HC3.out i x hx))
            have HX2 := Lib.hid hx
            clear hg0
            by_cases h2 : 2 * x + 1 < q
            · have hch : chunk g 0 q cap2 x = .slice (some ⟨g, 2 * x, none⟩) 2 2 := by
                unfold chunk
                rw [show min 2 (q - 2 * x) = 2 by omega, Nat.zero_add]
              obtain ⟨y, hy⟩ : ∃ y, lev[2 * x]? = some y := ⟨lev[2 * x]'(by rw [← HQ.out]; omega), by simp⟩
              obtain ⟨z, hz⟩ : ∃ z, lev[2 * x + 1]? = some z := ⟨lev[2 * x + 1]'(by rw [← HQ.out]; omega), by simp⟩
              have k0 := HCX.out _ _ hy
              have k1 := HCX.out _ _ hz
              have HPO : Hid (Tr.pairOf lev x = Tr.node y z) := Lib.hid (by
                unfold Tr.pairOf
                rw [if_pos (by rw [← HQ.out]; exact h2), List.getD_eq_getElem?_getD, List.getD_eq_getElem?_getD, hy, hz]
                rfl)
              have HYL := Lib.hid (HL16.out y (List.mem_of_getElem? hy))
              have HZL := Lib.hid (HL16.out z (List.mem_of_getElem? hz))
              have cbx := hb5.cell (i := 0) rfl
              have fbx := hb5.free 0
              rw [hch]
              generalize 2 * x = j at *
              have HB5 := Lib.hid hb5
              have HR5 := Lib.hid hr5
              have HO5 := Lib.hid ho5
              have HC5 := Lib.hid hc5
              have HBW : Hid (w0.heap.size ≤ W5.heap.size) := Lib.hid hc5.size
              have HOW : Hid (bx < w0.heap.size) := Lib.hid HBX.out.lt
              have HA5 : Hid (Chg [] W5 (W5.alloc (.cells #[.string ⟨#[110, 111, 100, 101]⟩, .string ⟨y.toArray⟩, .string ⟨z.toArray⟩] 9)).drew) := Lib.hid ((Chg.refl _ _).alloc _).drew
              have HL5 : Hid (Laid W5) := Lib.hid (HL3.out.quiet (HC4.out.trans hc5 (fun k hk => .inr (by simp at hk; rw [hk, HBXE.out]; exact Nat.le_refl _))))
              have lbx : bx < W5.heap.size := hb5.lt
              have hqp : v5.ownBlock ≠ some bx := fun e => by have := ho5 bx (by rw [e]; simp); have := HBX.out.lt; omega
              obtain ⟨i0, hi, hz0, hz1, hz2⟩ := info_parts info_str
              clear hy hz hch hx h2 hb5 hr5 ho5 hc5
              gi_wp2
              refine region_round' (by kernel_rfl) (by kernel_rfl) ?hno ?_
              case hno =>
                rintro ⟨a9, w9, h9⟩
                cases h9.1
              refine wpAny_take (i := 1) (v := ?v1) rfl (by kernel_rfl) (by kernel_rfl) (by kernel_rfl) (fun _ _ _ h => h) (Or.inl ⟨by rfl, ?hy1⟩) ?rest1
              case hy1 => (intro w9; go_simp; try with_reducible rfl)
              refine wpAny_take (i := 2) (v := ?v2) rfl (by kernel_rfl) (by kernel_rfl) (by kernel_rfl) (fun _ _ _ h => h) (Or.inl ⟨by rfl, ?hy2⟩) ?rest2
              case hy2 => (intro w9; go_simp; try with_reducible rfl)
              refine wpAny_take (i := 4) (v := ?v4) rfl (by kernel_rfl) (by kernel_rfl) (by kernel_rfl) (fun _ _ _ h => h) (Or.inl ⟨by rfl, ?hy4⟩) ?rest4
              case hy4 => (intro w9; go_simp; try with_reducible rfl)
              refine wpAny_take (i := 5) (v := ?v5) rfl (by kernel_rfl) (by kernel_rfl) (by kernel_rfl) (fun _ _ _ h => h) (Or.inl ⟨by rfl, ?hy5⟩) ?rest5
              case hy5 => (intro w9; go_simp; try with_reducible rfl)
              try simp only [Act.put, List.setIfInBounds_toArray, List.set_cons_zero, List.set_cons_succ]
              -- region 11
              refine wpAny_all (rs := [0, 3, 6]) (by kernel_rfl) (by decide) (AllReady.cons rfl (fun K hK => ?_) (AllReady.cons rfl (fun K hK => ?_) (AllReady.cons rfl (fun K hK => ?_) AllReady.nil)))
              · go_simp
                refine hK _ _ ?_
                clear hK K
                refine wpAny_all (rs := [3, 6]) (by kernel_rfl) (by decide) (AllReady.cons rfl (fun K hK => ?_) (AllReady.cons rfl (fun K hK => ?_) AllReady.nil))
                · go_simp
                  refine hK _ _ ?_
                  clear hK K
                  refine wpAny_all (rs := [6]) (by kernel_rfl) (by decide) (AllReady.cons rfl (fun K hK => ?_) AllReady.nil)
                  · go_simp
                    refine hK _ _ ?_
                    clear hK K
                    refine wpAny_all (rs := [7]) (by kernel_rfl) (by decide) (AllReady.cons rfl (fun K hK => ?_) AllReady.nil)
                    · go_simp
                      refine hK _ _ ?_
                      clear hK K
                      refine wpAny_all (rs := [8]) (by kernel_rfl) (by decide) (AllReady.cons rfl (fun K hK => ?_) AllReady.nil)
                      · go_simp
                        refine (of_spec _ (Lib.hid (HL5.out.quiet HA5.out)) _ [[110, 111, 100, 101], y, z] (Lib.hid ((three_strs W5 [110, 111, 100, 101] y z).quiet ((Chg.refl [] _).drew))) (by simp) (Lib.hid (all3 (by decide) HYL.out HZL.out))).mono ?_
                        rintro e9 w9 ⟨rfl, hc9⟩
                        have HC9 : Hid (Chg [] W5 w9) := Lib.hid (HA5.out.trans hc9 (by simp))
                        have c9 : w9.cell? ⟨bx, 0, none⟩ = some v5 := (HC9.out.blk HB5.out (by simp)).cell (i := 0) rfl
                        have l9 : bx < w9.heap.size := (HC9.out.blk HB5.out (by simp)).lt
                        clear hc9
                        try go_simp
                        refine hK _ _ ?_
                        clear hK K
                        refine wpAny_all (rs := [9]) (by kernel_rfl) (by decide) (AllReady.cons rfl (fun K hK => ?_) AllReady.nil)
                        · go_simp
                          refine hK _ _ ?_
                          clear hK K
                          refine wpAny_all (rs := [10]) (by kernel_rfl) (by decide) (AllReady.cons rfl (fun K hK => ?_) AllReady.nil)
                          · refine step_append_lies (w9.alloc (.cells #[.string ⟨(Dg.list [[110, 111, 100, 101], y, z]).toArray⟩] 9)) rfl (.tmp 39) (.tmp 48) 22 rfl 0 9 i0 (.string ⟨#[]⟩) 1 16 Tryd.underlying22 hi hz0 hz1 hz2 rfl (by decide) v5 pre2.length ((pre2.map (Tr.pairOf lev)).map vstr) rfl ((row_keptB HR5.out HC9.out).alloc _) ⟨w9.heap.size, 0, none⟩ 1 1 [.string ⟨(Dg.list [[110, 111, 100, 101], y, z]).toArray⟩] rfl rfl (fun j u hj => by rw [addr_add, Nat.zero_add]; exact (Blk.new w9 [.string ⟨(Dg.list [[110, 111, 100, 101], y, z]).toArray⟩] _).cell hj) (by intro u hu; simp at hu; rw [hu]; rfl) (by decide) (by unfold maxLen; omega) (by omega) (Nat.zero_le _) _ rfl (fun g9 cap9 w10 hown hgrow hat hlt10 => ?_)
                            have e2 : w10.cell? ⟨bx, 0, none⟩ = some v5 := (hgrow.cell_far ⟨bx, 0, none⟩ (by simp; omega) (fun e => hqp e.symm)).trans ((World.cell?_alloc_past _ bx 0 l9).trans c9)
                            have ef : w10.frozen? ⟨bx, 0, none⟩ = false := (hgrow.frozen_far ⟨bx, 0, none⟩ (by simp; omega) (fun e => hqp e.symm)).trans ((World.frozen?_alloc_past _ bx 0 l9).trans ((HC9.out.blk HB5.out (by simp)).free 0))
                            refine hK _ _ ?_
                            clear hK K
                            refine wpAny_all (rs := [11]) (by kernel_rfl) (by decide) (AllReady.cons rfl (fun K hK => ?_) AllReady.nil)
                            · go_simp
                              refine hK _ _ ?_
                              clear hK K
                              refine wpAny_done (by kernel_rfl) ?_ _
                              exact ⟨rfl, body_end HPO HB5 HR5 HO5 HC5 HC9 HBW HOW hown hgrow (by simpa using hat) ⟨lBs, by omega⟩ ⟨lBn, by omega⟩⟩
                · go_simp
                  refine hK _ _ ?_
                  clear hK K
                  refine wpAny_all (rs := [3]) (by kernel_rfl) (by decide) (AllReady.cons rfl (fun K hK => ?_) AllReady.nil)
                  · go_simp
                    refine hK _ _ ?_
                    clear hK K
                    refine wpAny_all (rs := [7]) (by kernel_rfl) (by decide) (AllReady.cons rfl (fun K hK => ?_) AllReady.nil)
                    · go_simp
                      refine hK _ _ ?_
                      clear hK K
                      refine wpAny_all (rs := [8]) (by kernel_rfl) (by decide) (AllReady.cons rfl (fun K hK => ?_) AllReady.nil)
                      · go_simp
                        refine (of_spec _ (Lib.hid (HL5.out.quiet HA5.out)) _ [[110, 111, 100, 101], y, z] (Lib.hid ((three_strs W5 [110, 111, 100, 101] y z).quiet ((Chg.refl [] _).drew))) (by simp) (Lib.hid (all3 (by decide) HYL.out HZL.out))).mono ?_
                        rintro e9 w9 ⟨rfl, hc9⟩
                        have HC9 : Hid (Chg [] W5 w9) := Lib.hid (HA5.out.trans hc9 (by simp))
                        have c9 : w9.cell? ⟨bx, 0, none⟩ = some v5 := (HC9.out.blk HB5.out (by simp)).cell (i := 0) rfl
                        have l9 : bx < w9.heap.size := (HC9.out.blk HB5.out (by simp)).lt
                        clear hc9
                        try go_simp
                        refine hK _ _ ?_
                        clear hK K
                        refine wpAny_all (rs := [9]) (by kernel_rfl) (by decide) (AllReady.cons rfl (fun K hK => ?_) AllReady.nil)
                        · go_simp
                          refine hK _ _ ?_
                          clear hK K
                          refine wpAny_all (rs := [10]) (by kernel_rfl) (by decide) (AllReady.cons rfl (fun K hK => ?_) AllReady.nil)
                          · refine step_append_lies (w9.alloc (.cells #[.string ⟨(Dg.list [[110, 111, 100, 101], y, z]).toArray⟩] 9)) rfl (.tmp 39) (.tmp 48) 22 rfl 0 9 i0 (.string ⟨#[]⟩) 1 16 Tryd.underlying22 hi hz0 hz1 hz2 rfl (by decide) v5 pre2.length ((pre2.map (Tr.pairOf lev)).map vstr) rfl ((row_keptB HR5.out HC9.out).alloc _) ⟨w9.heap.size, 0, none⟩ 1 1 [.string ⟨(Dg.list [[110, 111, 100, 101], y, z]).toArray⟩] rfl rfl (fun j u hj => by rw [addr_add, Nat.zero_add]; exact (Blk.new w9 [.string ⟨(Dg.list [[110, 111, 100, 101], y, z]).toArray⟩] _).cell hj) (by intro u hu; simp at hu; rw [hu]; rfl) (by decide) (by unfold maxLen; omega) (by omega) (Nat.zero_le _) _ rfl (fun g9 cap9 w10 hown hgrow hat hlt10 => ?_)
                            have e2 : w10.cell? ⟨bx, 0, none⟩ = some v5 := (hgrow.cell_far ⟨bx, 0, none⟩ (by simp; omega) (fun e => hqp e.symm)).trans ((World.cell?_alloc_past _ bx 0 l9).trans c9)
                            have ef : w10.frozen? ⟨bx, 0, none⟩ = false := (hgrow.frozen_far ⟨bx, 0, none⟩ (by simp; omega) (fun e => hqp e.symm)).trans ((World.frozen?_alloc_past _ bx 0 l9).trans ((HC9.out.blk HB5.out (by simp)).free 0))
                            refine hK _ _ ?_
                            clear hK K
                            refine wpAny_all (rs := [11]) (by kernel_rfl) (by decide) (AllReady.cons rfl (fun K hK => ?_) AllReady.nil)
                            · go_simp
                              refine hK _ _ ?_
                              clear hK K
                              refine wpAny_done (by kernel_rfl) ?_ _
                              exact ⟨rfl, body_end HPO HB5 HR5 HO5 HC5 HC9 HBW HOW hown hgrow (by simpa using hat) ⟨lBs, by omega⟩ ⟨lBn, by omega⟩⟩
              · go_simp
                refine hK _ _ ?_
                clear hK K
                refine wpAny_all (rs := [0, 6]) (by kernel_rfl) (by decide) (AllReady.cons rfl (fun K hK => ?_) (AllReady.cons rfl (fun K hK => ?_) AllReady.nil))
                · go_simp
                  refine hK _ _ ?_
                  clear hK K
                  refine wpAny_all (rs := [6]) (by kernel_rfl) (by decide) (AllReady.cons rfl (fun K hK => ?_) AllReady.nil)
                  · go_simp
                    refine hK _ _ ?_
                    clear hK K
                    refine wpAny_all (rs := [7]) (by kernel_rfl) (by decide) (AllReady.cons rfl (fun K hK => ?_) AllReady.nil)
                    · go_simp
                      refine hK _ _ ?_
                      clear hK K
                      refine wpAny_all (rs := [8]) (by kernel_rfl) (by decide) (AllReady.cons rfl (fun K hK => ?_) AllReady.nil)
                      · go_simp
                        refine (of_spec _ (Lib.hid (HL5.out.quiet HA5.out)) _ [[110, 111, 100, 101], y, z] (Lib.hid ((three_strs W5 [110, 111, 100, 101] y z).quiet ((Chg.refl [] _).drew))) (by simp) (Lib.hid (all3 (by decide) HYL.out HZL.out))).mono ?_
                        rintro e9 w9 ⟨rfl, hc9⟩
                        have HC9 : Hid (Chg [] W5 w9) := Lib.hid (HA5.out.trans hc9 (by simp))
                        have c9 : w9.cell? ⟨bx, 0, none⟩ = some v5 := (HC9.out.blk HB5.out (by simp)).cell (i := 0) rfl
                        have l9 : bx < w9.heap.size := (HC9.out.blk HB5.out (by simp)).lt
                        clear hc9
                        try go_simp
                        refine hK _ _ ?_
                        clear hK K
                        refine wpAny_all (rs := [9]) (by kernel_rfl) (by decide) (AllReady.cons rfl (fun K hK => ?_) AllReady.nil)
                        · go_simp
                          refine hK _ _ ?_
                          clear hK K
                          refine wpAny_all (rs := [10]) (by kernel_rfl) (by decide) (AllReady.cons rfl (fun K hK => ?_) AllReady.nil)
                          · refine step_append_lies (w9.alloc (.cells #[.string ⟨(Dg.list [[110, 111, 100, 101], y, z]).toArray⟩] 9)) rfl (.tmp 39) (.tmp 48) 22 rfl 0 9 i0 (.string ⟨#[]⟩) 1 16 Tryd.underlying22 hi hz0 hz1 hz2 rfl (by decide) v5 pre2.length ((pre2.map (Tr.pairOf lev)).map vstr) rfl ((row_keptB HR5.out HC9.out).alloc _) ⟨w9.heap.size, 0, none⟩ 1 1 [.string ⟨(Dg.list [[110, 111, 100, 101], y, z]).toArray⟩] rfl rfl (fun j u hj => by rw [addr_add, Nat.zero_add]; exact (Blk.new w9 [.string ⟨(Dg.list [[110, 111, 100, 101], y, z]).toArray⟩] _).cell hj) (by intro u hu; simp at hu; rw [hu]; rfl) (by decide) (by unfold maxLen; omega) (by omega) (Nat.zero_le _) _ rfl (fun g9 cap9 w10 hown hgrow hat hlt10 => ?_)
                            have e2 : w10.cell? ⟨bx, 0, none⟩ = some v5 := (hgrow.cell_far ⟨bx, 0, none⟩ (by simp; omega) (fun e => hqp e.symm)).trans ((World.cell?_alloc_past _ bx 0 l9).trans c9)
                            have ef : w10.frozen? ⟨bx, 0, none⟩ = false := (hgrow.frozen_far ⟨bx, 0, none⟩ (by simp; omega) (fun e => hqp e.symm)).trans ((World.frozen?_alloc_past _ bx 0 l9).trans ((HC9.out.blk HB5.out (by simp)).free 0))
                            refine hK _ _ ?_
                            clear hK K
                            refine wpAny_all (rs := [11]) (by kernel_rfl) (by decide) (AllReady.cons rfl (fun K hK => ?_) AllReady.nil)
                            · go_simp
                              refine hK _ _ ?_
                              clear hK K
                              refine wpAny_done (by kernel_rfl) ?_ _
                              exact ⟨rfl, body_end HPO HB5 HR5 HO5 HC5 HC9 HBW HOW hown hgrow (by simpa using hat) ⟨lBs, by omega⟩ ⟨lBn, by omega⟩⟩
                · go_simp
                  refine hK _ _ ?_
                  clear hK K
                  refine wpAny_all (rs := [0, 7]) (by kernel_rfl) (by decide) (AllReady.cons rfl (fun K hK => ?_) (AllReady.cons rfl (fun K hK => ?_) AllReady.nil))
                  · go_simp
                    refine hK _ _ ?_
                    clear hK K
                    refine wpAny_all (rs := [7]) (by kernel_rfl) (by decide) (AllReady.cons rfl (fun K hK => ?_) AllReady.nil)
                    · go_simp
                      refine hK _ _ ?_
                      clear hK K
                      refine wpAny_all (rs := [8]) (by kernel_rfl) (by decide) (AllReady.cons rfl (fun K hK => ?_) AllReady.nil)
                      · go_simp
                        refine (of_spec _ (Lib.hid (HL5.out.quiet HA5.out)) _ [[110, 111, 100, 101], y, z] (Lib.hid ((three_strs W5 [110, 111, 100, 101] y z).quiet ((Chg.refl [] _).drew))) (by simp) (Lib.hid (all3 (by decide) HYL.out HZL.out))).mono ?_
                        rintro e9 w9 ⟨rfl, hc9⟩
                        have HC9 : Hid (Chg [] W5 w9) := Lib.hid (HA5.out.trans hc9 (by simp))
                        have c9 : w9.cell? ⟨bx, 0, none⟩ = some v5 := (HC9.out.blk HB5.out (by simp)).cell (i := 0) rfl
                        have l9 : bx < w9.heap.size := (HC9.out.blk HB5.out (by simp)).lt
                        clear hc9
                        try go_simp
                        refine hK _ _ ?_
                        clear hK K
                        refine wpAny_all (rs := [9]) (by kernel_rfl) (by decide) (AllReady.cons rfl (fun K hK => ?_) AllReady.nil)
                        · go_simp
                          refine hK _ _ ?_
                          clear hK K
                          refine wpAny_all (rs := [10]) (by kernel_rfl) (by decide) (AllReady.cons rfl (fun K hK => ?_) AllReady.nil)
                          · refine step_append_lies (w9.alloc (.cells #[.string ⟨(Dg.list [[110, 111, 100, 101], y, z]).toArray⟩] 9)) rfl (.tmp 39) (.tmp 48) 22 rfl 0 9 i0 (.string ⟨#[]⟩) 1 16 Tryd.underlying22 hi hz0 hz1 hz2 rfl (by decide) v5 pre2.length ((pre2.map (Tr.pairOf lev)).map vstr) rfl ((row_keptB HR5.out HC9.out).alloc _) ⟨w9.heap.size, 0, none⟩ 1 1 [.string ⟨(Dg.list [[110, 111, 100, 101], y, z]).toArray⟩] rfl rfl (fun j u hj => by rw [addr_add, Nat.zero_add]; exact (Blk.new w9 [.string ⟨(Dg.list [[110, 111, 100, 101], y, z]).toArray⟩] _).cell hj) (by intro u hu; simp at hu; rw [hu]; rfl) (by decide) (by unfold maxLen; omega) (by omega) (Nat.zero_le _) _ rfl (fun g9 cap9 w10 hown hgrow hat hlt10 => ?_)
                            have e2 : w10.cell? ⟨bx, 0, none⟩ = some v5 := (hgrow.cell_far ⟨bx, 0, none⟩ (by simp; omega) (fun e => hqp e.symm)).trans ((World.cell?_alloc_past _ bx 0 l9).trans c9)
                            have ef : w10.frozen? ⟨bx, 0, none⟩ = false := (hgrow.frozen_far ⟨bx, 0, none⟩ (by simp; omega) (fun e => hqp e.symm)).trans ((World.frozen?_alloc_past _ bx 0 l9).trans ((HC9.out.blk HB5.out (by simp)).free 0))
                            refine hK _ _ ?_
                            clear hK K
                            refine wpAny_all (rs := [11]) (by kernel_rfl) (by decide) (AllReady.cons rfl (fun K hK => ?_) AllReady.nil)
                            · go_simp
                              refine hK _ _ ?_
                              clear hK K
                              refine wpAny_done (by kernel_rfl) ?_ _
                              exact ⟨rfl, body_end HPO HB5 HR5 HO5 HC5 HC9 HBW HOW hown hgrow (by simpa using hat) ⟨lBs, by omega⟩ ⟨lBn, by omega⟩⟩
                  · go_simp
                    refine hK _ _ ?_
                    clear hK K
                    refine wpAny_all (rs := [0, 8]) (by kernel_rfl) (by decide) (AllReady.cons rfl (fun K hK => ?_) (AllReady.cons rfl (fun K hK => ?_) AllReady.nil))
                    · go_simp
                      refine hK _ _ ?_
                      clear hK K
                      refine wpAny_all (rs := [8]) (by kernel_rfl) (by decide) (AllReady.cons rfl (fun K hK => ?_) AllReady.nil)
                      · go_simp
                        refine (of_spec _ (Lib.hid (HL5.out.quiet HA5.out)) _ [[110, 111, 100, 101], y, z] (Lib.hid ((three_strs W5 [110, 111, 100, 101] y z).quiet ((Chg.refl [] _).drew))) (by simp) (Lib.hid (all3 (by decide) HYL.out HZL.out))).mono ?_
                        rintro e9 w9 ⟨rfl, hc9⟩
                        have HC9 : Hid (Chg [] W5 w9) := Lib.hid (HA5.out.trans hc9 (by simp))
                        have c9 : w9.cell? ⟨bx, 0, none⟩ = some v5 := (HC9.out.blk HB5.out (by simp)).cell (i := 0) rfl
                        have l9 : bx < w9.heap.size := (HC9.out.blk HB5.out (by simp)).lt
                        clear hc9
                        try go_simp
                        refine hK _ _ ?_
                        clear hK K
                        refine wpAny_all (rs := [9]) (by kernel_rfl) (by decide) (AllReady.cons rfl (fun K hK => ?_) AllReady.nil)
                        · go_simp
                          refine hK _ _ ?_
                          clear hK K
                          refine wpAny_all (rs := [10]) (by kernel_rfl) (by decide) (AllReady.cons rfl (fun K hK => ?_) AllReady.nil)
                          · refine step_append_lies (w9.alloc (.cells #[.string ⟨(Dg.list [[110, 111, 100, 101], y, z]).toArray⟩] 9)) rfl (.tmp 39) (.tmp 48) 22 rfl 0 9 i0 (.string ⟨#[]⟩) 1 16 Tryd.underlying22 hi hz0 hz1 hz2 rfl (by decide) v5 pre2.length ((pre2.map (Tr.pairOf lev)).map vstr) rfl ((row_keptB HR5.out HC9.out).alloc _) ⟨w9.heap.size, 0, none⟩ 1 1 [.string ⟨(Dg.list [[110, 111, 100, 101], y, z]).toArray⟩] rfl rfl (fun j u hj => by rw [addr_add, Nat.zero_add]; exact (Blk.new w9 [.string ⟨(Dg.list [[110, 111, 100, 101], y, z]).toArray⟩] _).cell hj) (by intro u hu; simp at hu; rw [hu]; rfl) (by decide) (by unfold maxLen; omega) (by omega) (Nat.zero_le _) _ rfl (fun g9 cap9 w10 hown hgrow hat hlt10 => ?_)
                            have e2 : w10.cell? ⟨bx, 0, none⟩ = some v5 := (hgrow.cell_far ⟨bx, 0, none⟩ (by simp; omega) (fun e => hqp e.symm)).trans ((World.cell?_alloc_past _ bx 0 l9).trans c9)
                            have ef : w10.frozen? ⟨bx, 0, none⟩ = false := (hgrow.frozen_far ⟨bx, 0, none⟩ (by simp; omega) (fun e => hqp e.symm)).trans ((World.frozen?_alloc_past _ bx 0 l9).trans ((HC9.out.blk HB5.out (by simp)).free 0))
                            refine hK _ _ ?_
                            clear hK K
                            refine wpAny_all (rs := [11]) (by kernel_rfl) (by decide) (AllReady.cons rfl (fun K hK => ?_) AllReady.nil)
                            · go_simp
                              refine hK _ _ ?_
                              clear hK K
                              refine wpAny_done (by kernel_rfl) ?_ _
                              exact ⟨rfl, body_end HPO HB5 HR5 HO5 HC5 HC9 HBW HOW hown hgrow (by simpa using hat) ⟨lBs, by omega⟩ ⟨lBn, by omega⟩⟩
                    · go_simp
                      refine (of_spec _ (Lib.hid (HL5.out.quiet HA5.out)) _ [[110, 111, 100, 101], y, z] (Lib.hid ((three_strs W5 [110, 111, 100, 101] y z).quiet ((Chg.refl [] _).drew))) (by simp) (Lib.hid (all3 (by decide) HYL.out HZL.out))).mono ?_
                      rintro e9 w9 ⟨rfl, hc9⟩
                      have HC9 : Hid (Chg [] W5 w9) := Lib.hid (HA5.out.trans hc9 (by simp))
                      have c9 : w9.cell? ⟨bx, 0, none⟩ = some v5 := (HC9.out.blk HB5.out (by simp)).cell (i := 0) rfl
                      have l9 : bx < w9.heap.size := (HC9.out.blk HB5.out (by simp)).lt
                      clear hc9
                      try go_simp
                      refine hK _ _ ?_
                      clear hK K
                      refine wpAny_all (rs := [0, 9]) (by kernel_rfl) (by decide) (AllReady.cons rfl (fun K hK => ?_) (AllReady.cons rfl (fun K hK => ?_) AllReady.nil))
                      · go_simp
                        refine hK _ _ ?_
                        clear hK K
                        refine wpAny_all (rs := [9]) (by kernel_rfl) (by decide) (AllReady.cons rfl (fun K hK => ?_) AllReady.nil)
                        · go_simp
                          refine hK _ _ ?_
                          clear hK K
                          refine wpAny_all (rs := [10]) (by kernel_rfl) (by decide) (AllReady.cons rfl (fun K hK => ?_) AllReady.nil)
                          · refine step_append_lies (w9.alloc (.cells #[.string ⟨(Dg.list [[110, 111, 100, 101], y, z]).toArray⟩] 9)) rfl (.tmp 39) (.tmp 48) 22 rfl 0 9 i0 (.string ⟨#[]⟩) 1 16 Tryd.underlying22 hi hz0 hz1 hz2 rfl (by decide) v5 pre2.length ((pre2.map (Tr.pairOf lev)).map vstr) rfl ((row_keptB HR5.out HC9.out).alloc _) ⟨w9.heap.size, 0, none⟩ 1 1 [.string ⟨(Dg.list [[110, 111, 100, 101], y, z]).toArray⟩] rfl rfl (fun j u hj => by rw [addr_add, Nat.zero_add]; exact (Blk.new w9 [.string ⟨(Dg.list [[110, 111, 100, 101], y, z]).toArray⟩] _).cell hj) (by intro u hu; simp at hu; rw [hu]; rfl) (by decide) (by unfold maxLen; omega) (by omega) (Nat.zero_le _) _ rfl (fun g9 cap9 w10 hown hgrow hat hlt10 => ?_)
                            have e2 : w10.cell? ⟨bx, 0, none⟩ = some v5 := (hgrow.cell_far ⟨bx, 0, none⟩ (by simp; omega) (fun e => hqp e.symm)).trans ((World.cell?_alloc_past _ bx 0 l9).trans c9)
                            have ef : w10.frozen? ⟨bx, 0, none⟩ = false := (hgrow.frozen_far ⟨bx, 0, none⟩ (by simp; omega) (fun e => hqp e.symm)).trans ((World.frozen?_alloc_past _ bx 0 l9).trans ((HC9.out.blk HB5.out (by simp)).free 0))
                            refine hK _ _ ?_
                            clear hK K
                            refine wpAny_all (rs := [11]) (by kernel_rfl) (by decide) (AllReady.cons rfl (fun K hK => ?_) AllReady.nil)
                            · go_simp
                              refine hK _ _ ?_
                              clear hK K
                              refine wpAny_done (by kernel_rfl) ?_ _
                              exact ⟨rfl, body_end HPO HB5 HR5 HO5 HC5 HC9 HBW HOW hown hgrow (by simpa using hat) ⟨lBs, by omega⟩ ⟨lBn, by omega⟩⟩
                      · go_simp
                        refine hK _ _ ?_
                        clear hK K
                        refine wpAny_all (rs := [0]) (by kernel_rfl) (by decide) (AllReady.cons rfl (fun K hK => ?_) AllReady.nil)
                        · go_simp
                          refine hK _ _ ?_
                          clear hK K
                          refine wpAny_all (rs := [10]) (by kernel_rfl) (by decide) (AllReady.cons rfl (fun K hK => ?_) AllReady.nil)
                          · refine step_append_lies (w9.alloc (.cells #[.string ⟨(Dg.list [[110, 111, 100, 101], y, z]).toArray⟩] 9)) rfl (.tmp 39) (.tmp 48) 22 rfl 0 9 i0 (.string ⟨#[]⟩) 1 16 Tryd.underlying22 hi hz0 hz1 hz2 rfl (by decide) v5 pre2.length ((pre2.map (Tr.pairOf lev)).map vstr) rfl ((row_keptB HR5.out HC9.out).alloc _) ⟨w9.heap.size, 0, none⟩ 1 1 [.string ⟨(Dg.list [[110, 111, 100, 101], y, z]).toArray⟩] rfl rfl (fun j u hj => by rw [addr_add, Nat.zero_add]; exact (Blk.new w9 [.string ⟨(Dg.list [[110, 111, 100, 101], y, z]).toArray⟩] _).cell hj) (by intro u hu; simp at hu; rw [hu]; rfl) (by decide) (by unfold maxLen; omega) (by omega) (Nat.zero_le _) _ rfl (fun g9 cap9 w10 hown hgrow hat hlt10 => ?_)
                            have e2 : w10.cell? ⟨bx, 0, none⟩ = some v5 := (hgrow.cell_far ⟨bx, 0, none⟩ (by simp; omega) (fun e => hqp e.symm)).trans ((World.cell?_alloc_past _ bx 0 l9).trans c9)
                            have ef : w10.frozen? ⟨bx, 0, none⟩ = false := (hgrow.frozen_far ⟨bx, 0, none⟩ (by simp; omega) (fun e => hqp e.symm)).trans ((World.frozen?_alloc_past _ bx 0 l9).trans ((HC9.out.blk HB5.out (by simp)).free 0))
                            refine hK _ _ ?_
                            clear hK K
                            refine wpAny_all (rs := [11]) (by kernel_rfl) (by decide) (AllReady.cons rfl (fun K hK => ?_) AllReady.nil)
                            · go_simp
                              refine hK _ _ ?_
                              clear hK K
                              refine wpAny_done (by kernel_rfl) ?_ _
                              exact ⟨rfl, body_end HPO HB5 HR5 HO5 HC5 HC9 HBW HOW hown hgrow (by simpa using hat) ⟨lBs, by omega⟩ ⟨lBn, by omega⟩⟩
              · go_simp
                refine hK _ _ ?_
                clear hK K
                refine wpAny_all (rs := [0, 3]) (by kernel_rfl) (by decide) (AllReady.cons rfl (fun K hK => ?_) (AllReady.cons rfl (fun K hK => ?_) AllReady.nil))
                · go_simp
                  refine hK _ _ ?_
                  clear hK K
                  refine wpAny_all (rs := [3]) (by kernel_rfl) (by decide) (AllReady.cons rfl (fun K hK => ?_) AllReady.nil)
                  · go_simp
                    refine hK _ _ ?_
                    clear hK K
                    refine wpAny_all (rs := [7]) (by kernel_rfl) (by decide) (AllReady.cons rfl (fun K hK => ?_) AllReady.nil)
                    · go_simp
                      refine hK _ _ ?_
                      clear hK K
                      refine wpAny_all (rs := [8]) (by kernel_rfl) (by decide) (AllReady.cons rfl (fun K hK => ?_) AllReady.nil)
                      · go_simp
                        refine (of_spec _ (Lib.hid (HL5.out.quiet HA5.out)) _ [[110, 111, 100, 101], y, z] (Lib.hid ((three_strs W5 [110, 111, 100, 101] y z).quiet ((Chg.refl [] _).drew))) (by simp) (Lib.hid (all3 (by decide) HYL.out HZL.out))).mono ?_
                        rintro e9 w9 ⟨rfl, hc9⟩
                        have HC9 : Hid (Chg [] W5 w9) := Lib.hid (HA5.out.trans hc9 (by simp))
                        have c9 : w9.cell? ⟨bx, 0, none⟩ = some v5 := (HC9.out.blk HB5.out (by simp)).cell (i := 0) rfl
                        have l9 : bx < w9.heap.size := (HC9.out.blk HB5.out (by simp)).lt
                        clear hc9
                        try go_simp
                        refine hK _ _ ?_
                        clear hK K
                        refine wpAny_all (rs := [9]) (by kernel_rfl) (by decide) (AllReady.cons rfl (fun K hK => ?_) AllReady.nil)
                        · go_simp
                          refine hK _ _ ?_
                          clear hK K
                          refine wpAny_all (rs := [10]) (by kernel_rfl) (by decide) (AllReady.cons rfl (fun K hK => ?_) AllReady.nil)
                          · refine step_append_lies (w9.alloc (.cells #[.string ⟨(Dg.list [[110, 111, 100, 101], y, z]).toArray⟩] 9)) rfl (.tmp 39) (.tmp 48) 22 rfl 0 9 i0 (.string ⟨#[]⟩) 1 16 Tryd.underlying22 hi hz0 hz1 hz2 rfl (by decide) v5 pre2.length ((pre2.map (Tr.pairOf lev)).map vstr) rfl ((row_keptB HR5.out HC9.out).alloc _) ⟨w9.heap.size, 0, none⟩ 1 1 [.string ⟨(Dg.list [[110, 111, 100, 101], y, z]).toArray⟩] rfl rfl (fun j u hj => by rw [addr_add, Nat.zero_add]; exact (Blk.new w9 [.string ⟨(Dg.list [[110, 111, 100, 101], y, z]).toArray⟩] _).cell hj) (by intro u hu; simp at hu; rw [hu]; rfl) (by decide) (by unfold maxLen; omega) (by omega) (Nat.zero_le _) _ rfl (fun g9 cap9 w10 hown hgrow hat hlt10 => ?_)
                            have e2 : w10.cell? ⟨bx, 0, none⟩ = some v5 := (hgrow.cell_far ⟨bx, 0, none⟩ (by simp; omega) (fun e => hqp e.symm)).trans ((World.cell?_alloc_past _ bx 0 l9).trans c9)
                            have ef : w10.frozen? ⟨bx, 0, none⟩ = false := (hgrow.frozen_far ⟨bx, 0, none⟩ (by simp; omega) (fun e => hqp e.symm)).trans ((World.frozen?_alloc_past _ bx 0 l9).trans ((HC9.out.blk HB5.out (by simp)).free 0))
                            refine hK _ _ ?_
                            clear hK K
                            refine wpAny_all (rs := [11]) (by kernel_rfl) (by decide) (AllReady.cons rfl (fun K hK => ?_) AllReady.nil)
                            · go_simp
                              refine hK _ _ ?_
                              clear hK K
                              refine wpAny_done (by kernel_rfl) ?_ _
                              exact ⟨rfl, body_end HPO HB5 HR5 HO5 HC5 HC9 HBW HOW hown hgrow (by simpa using hat) ⟨lBs, by omega⟩ ⟨lBn, by omega⟩⟩
                · go_simp
                  refine hK _ _ ?_
                  clear hK K
                  refine wpAny_all (rs := [0, 7]) (by kernel_rfl) (by decide) (AllReady.cons rfl (fun K hK => ?_) (AllReady.cons rfl (fun K hK => ?_) AllReady.nil))
                  · go_simp
                    refine hK _ _ ?_
                    clear hK K
                    refine wpAny_all (rs := [7]) (by kernel_rfl) (by decide) (AllReady.cons rfl (fun K hK => ?_) AllReady.nil)
                    · go_simp
                      refine hK _ _ ?_
                      clear hK K
                      refine wpAny_all (rs := [8]) (by kernel_rfl) (by decide) (AllReady.cons rfl (fun K hK => ?_) AllReady.nil)
                      · go_simp
                        refine (of_spec _ (Lib.hid (HL5.out.quiet HA5.out)) _ [[110, 111, 100, 101], y, z] (Lib.hid ((three_strs W5 [110, 111, 100, 101] y z).quiet ((Chg.refl [] _).drew))) (by simp) (Lib.hid (all3 (by decide) HYL.out HZL.out))).mono ?_
                        rintro e9 w9 ⟨rfl, hc9⟩
                        have HC9 : Hid (Chg [] W5 w9) := Lib.hid (HA5.out.trans hc9 (by simp))
                        have c9 : w9.cell? ⟨bx, 0, none⟩ = some v5 := (HC9.out.blk HB5.out (by simp)).cell (i := 0) rfl
                        have l9 : bx < w9.heap.size := (HC9.out.blk HB5.out (by simp)).lt
                        clear hc9
                        try go_simp
                        refine hK _ _ ?_
                        clear hK K
                        refine wpAny_all (rs := [9]) (by kernel_rfl) (by decide) (AllReady.cons rfl (fun K hK => ?_) AllReady.nil)
                        · go_simp
                          refine hK _ _ ?_
                          clear hK K
                          refine wpAny_all (rs := [10]) (by kernel_rfl) (by decide) (AllReady.cons rfl (fun K hK => ?_) AllReady.nil)
                          · refine step_append_lies (w9.alloc (.cells #[.string ⟨(Dg.list [[110, 111, 100, 101], y, z]).toArray⟩] 9)) rfl (.tmp 39) (.tmp 48) 22 rfl 0 9 i0 (.string ⟨#[]⟩) 1 16 Tryd.underlying22 hi hz0 hz1 hz2 rfl (by decide) v5 pre2.length ((pre2.map (Tr.pairOf lev)).map vstr) rfl ((row_keptB HR5.out HC9.out).alloc _) ⟨w9.heap.size, 0, none⟩ 1 1 [.string ⟨(Dg.list [[110, 111, 100, 101], y, z]).toArray⟩] rfl rfl (fun j u hj => by rw [addr_add, Nat.zero_add]; exact (Blk.new w9 [.string ⟨(Dg.list [[110, 111, 100, 101], y, z]).toArray⟩] _).cell hj) (by intro u hu; simp at hu; rw [hu]; rfl) (by decide) (by unfold maxLen; omega) (by omega) (Nat.zero_le _) _ rfl (fun g9 cap9 w10 hown hgrow hat hlt10 => ?_)
                            have e2 : w10.cell? ⟨bx, 0, none⟩ = some v5 := (hgrow.cell_far ⟨bx, 0, none⟩ (by simp; omega) (fun e => hqp e.symm)).trans ((World.cell?_alloc_past _ bx 0 l9).trans c9)
                            have ef : w10.frozen? ⟨bx, 0, none⟩ = false := (hgrow.frozen_far ⟨bx, 0, none⟩ (by simp; omega) (fun e => hqp e.symm)).trans ((World.frozen?_alloc_past _ bx 0 l9).trans ((HC9.out.blk HB5.out (by simp)).free 0))
                            refine hK _ _ ?_
                            clear hK K
                            refine wpAny_all (rs := [11]) (by kernel_rfl) (by decide) (AllReady.cons rfl (fun K hK => ?_) AllReady.nil)
                            · go_simp
                              refine hK _ _ ?_
                              clear hK K
                              refine wpAny_done (by kernel_rfl) ?_ _
                              exact ⟨rfl, body_end HPO HB5 HR5 HO5 HC5 HC9 HBW HOW hown hgrow (by simpa using hat) ⟨lBs, by omega⟩ ⟨lBn, by omega⟩⟩
                  · go_simp
                    refine hK _ _ ?_
                    clear hK K
                    refine wpAny_all (rs := [0, 8]) (by kernel_rfl) (by decide) (AllReady.cons rfl (fun K hK => ?_) (AllReady.cons rfl (fun K hK => ?_) AllReady.nil))
                    · go_simp
                      refine hK _ _ ?_
                      clear hK K
                      refine wpAny_all (rs := [8]) (by kernel_rfl) (by decide) (AllReady.cons rfl (fun K hK => ?_) AllReady.nil)
                      · go_simp
                        refine (of_spec _ (Lib.hid (HL5.out.quiet HA5.out)) _ [[110, 111, 100, 101], y, z] (Lib.hid ((three_strs W5 [110, 111, 100, 101] y z).quiet ((Chg.refl [] _).drew))) (by simp) (Lib.hid (all3 (by decide) HYL.out HZL.out))).mono ?_
                        rintro e9 w9 ⟨rfl, hc9⟩
                        have HC9 : Hid (Chg [] W5 w9) := Lib.hid (HA5.out.trans hc9 (by simp))
                        have c9 : w9.cell? ⟨bx, 0, none⟩ = some v5 := (HC9.out.blk HB5.out (by simp)).cell (i := 0) rfl
                        have l9 : bx < w9.heap.size := (HC9.out.blk HB5.out (by simp)).lt
                        clear hc9
                        try go_simp
                        refine hK _ _ ?_
                        clear hK K
                        refine wpAny_all (rs := [9]) (by kernel_rfl) (by decide) (AllReady.cons rfl (fun K hK => ?_) AllReady.nil)
                        · go_simp
                          refine hK _ _ ?_
                          clear hK K
                          refine wpAny_all (rs := [10]) (by kernel_rfl) (by decide) (AllReady.cons rfl (fun K hK => ?_) AllReady.nil)
                          · refine step_append_lies (w9.alloc (.cells #[.string ⟨(Dg.list [[110, 111, 100, 101], y, z]).toArray⟩] 9)) rfl (.tmp 39) (.tmp 48) 22 rfl 0 9 i0 (.string ⟨#[]⟩) 1 16 Tryd.underlying22 hi hz0 hz1 hz2 rfl (by decide) v5 pre2.length ((pre2.map (Tr.pairOf lev)).map vstr) rfl ((row_keptB HR5.out HC9.out).alloc _) ⟨w9.heap.size, 0, none⟩ 1 1 [.string ⟨(Dg.list [[110, 111, 100, 101], y, z]).toArray⟩] rfl rfl (fun j u hj => by rw [addr_add, Nat.zero_add]; exact (Blk.new w9 [.string ⟨(Dg.list [[110, 111, 100, 101], y, z]).toArray⟩] _).cell hj) (by intro u hu; simp at hu; rw [hu]; rfl) (by decide) (by unfold maxLen; omega) (by omega) (Nat.zero_le _) _ rfl (fun g9 cap9 w10 hown hgrow hat hlt10 => ?_)
                            have e2 : w10.cell? ⟨bx, 0, none⟩ = some v5 := (hgrow.cell_far ⟨bx, 0, none⟩ (by simp; omega) (fun e => hqp e.symm)).trans ((World.cell?_alloc_past _ bx 0 l9).trans c9)
                            have ef : w10.frozen? ⟨bx, 0, none⟩ = false := (hgrow.frozen_far ⟨bx, 0, none⟩ (by simp; omega) (fun e => hqp e.symm)).trans ((World.frozen?_alloc_past _ bx 0 l9).trans ((HC9.out.blk HB5.out (by simp)).free 0))
                            refine hK _ _ ?_
                            clear hK K
                            refine wpAny_all (rs := [11]) (by kernel_rfl) (by decide) (AllReady.cons rfl (fun K hK => ?_) AllReady.nil)
                            · go_simp
                              refine hK _ _ ?_
                              clear hK K
                              refine wpAny_done (by kernel_rfl) ?_ _
                              exact ⟨rfl, body_end HPO HB5 HR5 HO5 HC5 HC9 HBW HOW hown hgrow (by simpa using hat) ⟨lBs, by omega⟩ ⟨lBn, by omega⟩⟩
                    · go_simp
                      refine (of_spec _ (Lib.hid (HL5.out.quiet HA5.out)) _ [[110, 111, 100, 101], y, z] (Lib.hid ((three_strs W5 [110, 111, 100, 101] y z).quiet ((Chg.refl [] _).drew))) (by simp) (Lib.hid (all3 (by decide) HYL.out HZL.out))).mono ?_
                      rintro e9 w9 ⟨rfl, hc9⟩
                      have HC9 : Hid (Chg [] W5 w9) := Lib.hid (HA5.out.trans hc9 (by simp))
                      have c9 : w9.cell? ⟨bx, 0, none⟩ = some v5 := (HC9.out.blk HB5.out (by simp)).cell (i := 0) rfl
                      have l9 : bx < w9.heap.size := (HC9.out.blk HB5.out (by simp)).lt
                      clear hc9
                      try go_simp
                      refine hK _ _ ?_
                      clear hK K
                      refine wpAny_all (rs := [0, 9]) (by kernel_rfl) (by decide) (AllReady.cons rfl (fun K hK => ?_) (AllReady.cons rfl (fun K hK => ?_) AllReady.nil))
                      · go_simp
                        refine hK _ _ ?_
                        clear hK K
                        refine wpAny_all (rs := [9]) (by kernel_rfl) (by decide) (AllReady.cons rfl (fun K hK => ?_) AllReady.nil)
                        · go_simp
                          refine hK _ _ ?_
                          clear hK K
                          refine wpAny_all (rs := [10]) (by kernel_rfl) (by decide) (AllReady.cons rfl (fun K hK => ?_) AllReady.nil)
                          · refine step_append_lies (w9.alloc (.cells #[.string ⟨(Dg.list [[110, 111, 100, 101], y, z]).toArray⟩] 9)) rfl (.tmp 39) (.tmp 48) 22 rfl 0 9 i0 (.string ⟨#[]⟩) 1 16 Tryd.underlying22 hi hz0 hz1 hz2 rfl (by decide) v5 pre2.length ((pre2.map (Tr.pairOf lev)).map vstr) rfl ((row_keptB HR5.out HC9.out).alloc _) ⟨w9.heap.size, 0, none⟩ 1 1 [.string ⟨(Dg.list [[110, 111, 100, 101], y, z]).toArray⟩] rfl rfl (fun j u hj => by rw [addr_add, Nat.zero_add]; exact (Blk.new w9 [.string ⟨(Dg.list [[110, 111, 100, 101], y, z]).toArray⟩] _).cell hj) (by intro u hu; simp at hu; rw [hu]; rfl) (by decide) (by unfold maxLen; omega) (by omega) (Nat.zero_le _) _ rfl (fun g9 cap9 w10 hown hgrow hat hlt10 => ?_)
                            have e2 : w10.cell? ⟨bx, 0, none⟩ = some v5 := (hgrow.cell_far ⟨bx, 0, none⟩ (by simp; omega) (fun e => hqp e.symm)).trans ((World.cell?_alloc_past _ bx 0 l9).trans c9)
                            have ef : w10.frozen? ⟨bx, 0, none⟩ = false := (hgrow.frozen_far ⟨bx, 0, none⟩ (by simp; omega) (fun e => hqp e.symm)).trans ((World.frozen?_alloc_past _ bx 0 l9).trans ((HC9.out.blk HB5.out (by simp)).free 0))
                            refine hK _ _ ?_
                            clear hK K
                            refine wpAny_all (rs := [11]) (by kernel_rfl) (by decide) (AllReady.cons rfl (fun K hK => ?_) AllReady.nil)
                            · go_simp
                              refine hK _ _ ?_
                              clear hK K
                              refine wpAny_done (by kernel_rfl) ?_ _
                              exact ⟨rfl, body_end HPO HB5 HR5 HO5 HC5 HC9 HBW HOW hown hgrow (by simpa using hat) ⟨lBs, by omega⟩ ⟨lBn, by omega⟩⟩
                      · go_simp
                        refine hK _ _ ?_
                        clear hK K
                        refine wpAny_all (rs := [0]) (by kernel_rfl) (by decide) (AllReady.cons rfl (fun K hK => ?_) AllReady.nil)
                        · go_simp
                          refine hK _ _ ?_
                          clear hK K
                          refine wpAny_all (rs := [10]) (by kernel_rfl) (by decide) (AllReady.cons rfl (fun K hK => ?_) AllReady.nil)
                          · refine step_append_lies (w9.alloc (.cells #[.string ⟨(Dg.list [[110, 111, 100, 101], y, z]).toArray⟩] 9)) rfl (.tmp 39) (.tmp 48) 22 rfl 0 9 i0 (.string ⟨#[]⟩) 1 16 Tryd.underlying22 hi hz0 hz1 hz2 rfl (by decide) v5 pre2.length ((pre2.map (Tr.pairOf lev)).map vstr) rfl ((row_keptB HR5.out HC9.out).alloc _) ⟨w9.heap.size, 0, none⟩ 1 1 [.string ⟨(Dg.list [[110, 111, 100, 101], y, z]).toArray⟩] rfl rfl (fun j u hj => by rw [addr_add, Nat.zero_add]; exact (Blk.new w9 [.string ⟨(Dg.list [[110, 111, 100, 101], y, z]).toArray⟩] _).cell hj) (by intro u hu; simp at hu; rw [hu]; rfl) (by decide) (by unfold maxLen; omega) (by omega) (Nat.zero_le _) _ rfl (fun g9 cap9 w10 hown hgrow hat hlt10 => ?_)
                            have e2 : w10.cell? ⟨bx, 0, none⟩ = some v5 := (hgrow.cell_far ⟨bx, 0, none⟩ (by simp; omega) (fun e => hqp e.symm)).trans ((World.cell?_alloc_past _ bx 0 l9).trans c9)
                            have ef : w10.frozen? ⟨bx, 0, none⟩ = false := (hgrow.frozen_far ⟨bx, 0, none⟩ (by simp; omega) (fun e => hqp e.symm)).trans ((World.frozen?_alloc_past _ bx 0 l9).trans ((HC9.out.blk HB5.out (by simp)).free 0))
                            refine hK _ _ ?_
                            clear hK K
                            refine wpAny_all (rs := [11]) (by kernel_rfl) (by decide) (AllReady.cons rfl (fun K hK => ?_) AllReady.nil)
                            · go_simp
                              refine hK _ _ ?_
                              clear hK K
                              refine wpAny_done (by kernel_rfl) ?_ _
                              exact ⟨rfl, body_end HPO HB5 HR5 HO5 HC5 HC9 HBW HOW hown hgrow (by simpa using hat) ⟨lBs, by omega⟩ ⟨lBn, by omega⟩⟩
              -- end of region 11
            · have hch : chunk g 0 q cap2 x = .slice (some ⟨g, 2 * x, none⟩) 1 1 := by
                unfold chunk
                rw [show min 2 (q - 2 * x) = 1 by omega, Nat.zero_add]
              obtain ⟨y, hy⟩ : ∃ y, lev[2 * x]? = some y := ⟨lev[2 * x]'(by rw [← HQ.out]; omega), by simp⟩
              have k0 := HCX.out _ _ hy
              have HPO : Hid (Tr.pairOf lev x = y) := Lib.hid (by
                unfold Tr.pairOf
                rw [if_neg (by rw [← HQ.out]; exact h2), List.getD_eq_getElem?_getD, hy]
                rfl)
              have cbx := hb5.cell (i := 0) rfl
              have fbx := hb5.free 0
              rw [hch]
              generalize 2 * x = j at *
              have HB5 := Lib.hid hb5
              have HR5 := Lib.hid hr5
              have HO5 := Lib.hid ho5
              have HC5 := Lib.hid hc5
              have HBW : Hid (w0.heap.size ≤ W5.heap.size) := Lib.hid hc5.size
              have HOW : Hid (bx < w0.heap.size) := Lib.hid HBX.out.lt
              have HC9 : Hid (Chg [] W5 W5.drew) := Lib.hid (Chg.refl _ _).drew
              have lbx : bx < W5.heap.size := hb5.lt
              have hqp : v5.ownBlock ≠ some bx := fun e => by have := ho5 bx (by rw [e]; simp); have := HBX.out.lt; omega
              have c9 : W5.drew.cell? ⟨bx, 0, none⟩ = some v5 := cbx
              have l9 : bx < W5.drew.heap.size := lbx
              obtain ⟨i0, hi, hz0, hz1, hz2⟩ := info_parts info_str
              clear hy hch hx h2 hb5 hr5 ho5 hc5
              gi_wp2
              refine region_round' (by kernel_rfl) (by kernel_rfl) ?hno2 ?_
              case hno2 =>
                rintro ⟨a9, w9, h9⟩
                cases h9.1
              refine wpAny_take (i := 1) (v := ?w1) rfl (by kernel_rfl) (by kernel_rfl) (by kernel_rfl) (fun _ _ _ h => h) (Or.inl ⟨by rfl, ?hw1⟩) ?rst1
              case hw1 => (intro w9; go_simp; try with_reducible rfl)
              refine wpAny_take (i := 2) (v := ?w2) rfl (by kernel_rfl) (by kernel_rfl) (by kernel_rfl) (fun _ _ _ h => h) (Or.inl ⟨by rfl, ?hw2⟩) ?rst2
              case hw2 => (intro w9; go_simp; try with_reducible rfl)
              try simp only [Act.put, List.setIfInBounds_toArray, List.set_cons_zero, List.set_cons_succ]
              -- region 12
              refine wpAny_all (rs := [0, 3]) (by kernel_rfl) (by decide) (AllReady.cons rfl (fun K hK => ?_) (AllReady.cons rfl (fun K hK => ?_) AllReady.nil))
              · go_simp
                refine hK _ _ ?_
                clear hK K
                refine wpAny_all (rs := [3]) (by kernel_rfl) (by decide) (AllReady.cons rfl (fun K hK => ?_) AllReady.nil)
                · go_simp
                  refine hK _ _ ?_
                  clear hK K
                  refine wpAny_all (rs := [4]) (by kernel_rfl) (by decide) (AllReady.cons rfl (fun K hK => ?_) AllReady.nil)
                  · go_simp
                    refine hK _ _ ?_
                    clear hK K
                    refine wpAny_all (rs := [5]) (by kernel_rfl) (by decide) (AllReady.cons rfl (fun K hK => ?_) AllReady.nil)
                    · refine step_append_lies (W5.drew.alloc (.cells #[.string ⟨y.toArray⟩] 9)) rfl (.tmp 50) (.tmp 54) 22 rfl 0 9 i0 (.string ⟨#[]⟩) 1 16 Tryd.underlying22 hi hz0 hz1 hz2 rfl (by decide) v5 pre2.length ((pre2.map (Tr.pairOf lev)).map vstr) rfl ((row_keptB HR5.out HC9.out).alloc _) ⟨W5.drew.heap.size, 0, none⟩ 1 1 [.string ⟨y.toArray⟩] rfl rfl (fun j u hj => by rw [addr_add, Nat.zero_add]; exact (Blk.new W5.drew [.string ⟨y.toArray⟩] _).cell hj) (by intro u hu; simp at hu; rw [hu]; rfl) (by decide) (by unfold maxLen; omega) (by omega) (Nat.zero_le _) _ rfl (fun g9 cap9 w10 hown hgrow hat hlt10 => ?_)
                      have e2 : w10.cell? ⟨bx, 0, none⟩ = some v5 := (hgrow.cell_far ⟨bx, 0, none⟩ (by simp; omega) (fun e => hqp e.symm)).trans ((World.cell?_alloc_past _ bx 0 l9).trans c9)
                      have ef : w10.frozen? ⟨bx, 0, none⟩ = false := (hgrow.frozen_far ⟨bx, 0, none⟩ (by simp; omega) (fun e => hqp e.symm)).trans ((World.frozen?_alloc_past _ bx 0 l9).trans ((HC9.out.blk HB5.out (by simp)).free 0))
                      refine hK _ _ ?_
                      clear hK K
                      refine wpAny_all (rs := [6]) (by kernel_rfl) (by decide) (AllReady.cons rfl (fun K hK => ?_) AllReady.nil)
                      · go_simp
                        refine hK _ _ ?_
                        clear hK K
                        refine wpAny_done (by kernel_rfl) ?_ _
                        exact ⟨rfl, body_end HPO HB5 HR5 HO5 HC5 HC9 HBW HOW hown hgrow (by simpa using hat) ⟨lBs, by omega⟩ ⟨lBn, by omega⟩⟩
              · go_simp
                refine hK _ _ ?_
                clear hK K
                refine wpAny_all (rs := [0, 4]) (by kernel_rfl) (by decide) (AllReady.cons rfl (fun K hK => ?_) (AllReady.cons rfl (fun K hK => ?_) AllReady.nil))
                · go_simp
                  refine hK _ _ ?_
                  clear hK K
                  refine wpAny_all (rs := [4]) (by kernel_rfl) (by decide) (AllReady.cons rfl (fun K hK => ?_) AllReady.nil)
                  · go_simp
                    refine hK _ _ ?_
                    clear hK K
                    refine wpAny_all (rs := [5]) (by kernel_rfl) (by decide) (AllReady.cons rfl (fun K hK => ?_) AllReady.nil)
                    · refine step_append_lies (W5.drew.alloc (.cells #[.string ⟨y.toArray⟩] 9)) rfl (.tmp 50) (.tmp 54) 22 rfl 0 9 i0 (.string ⟨#[]⟩) 1 16 Tryd.underlying22 hi hz0 hz1 hz2 rfl (by decide) v5 pre2.length ((pre2.map (Tr.pairOf lev)).map vstr) rfl ((row_keptB HR5.out HC9.out).alloc _) ⟨W5.drew.heap.size, 0, none⟩ 1 1 [.string ⟨y.toArray⟩] rfl rfl (fun j u hj => by rw [addr_add, Nat.zero_add]; exact (Blk.new W5.drew [.string ⟨y.toArray⟩] _).cell hj) (by intro u hu; simp at hu; rw [hu]; rfl) (by decide) (by unfold maxLen; omega) (by omega) (Nat.zero_le _) _ rfl (fun g9 cap9 w10 hown hgrow hat hlt10 => ?_)
                      have e2 : w10.cell? ⟨bx, 0, none⟩ = some v5 := (hgrow.cell_far ⟨bx, 0, none⟩ (by simp; omega) (fun e => hqp e.symm)).trans ((World.cell?_alloc_past _ bx 0 l9).trans c9)
                      have ef : w10.frozen? ⟨bx, 0, none⟩ = false := (hgrow.frozen_far ⟨bx, 0, none⟩ (by simp; omega) (fun e => hqp e.symm)).trans ((World.frozen?_alloc_past _ bx 0 l9).trans ((HC9.out.blk HB5.out (by simp)).free 0))
                      refine hK _ _ ?_
                      clear hK K
                      refine wpAny_all (rs := [6]) (by kernel_rfl) (by decide) (AllReady.cons rfl (fun K hK => ?_) AllReady.nil)
                      · go_simp
                        refine hK _ _ ?_
                        clear hK K
                        refine wpAny_done (by kernel_rfl) ?_ _
                        exact ⟨rfl, body_end HPO HB5 HR5 HO5 HC5 HC9 HBW HOW hown hgrow (by simpa using hat) ⟨lBs, by omega⟩ ⟨lBn, by omega⟩⟩
                · go_simp
                  refine hK _ _ ?_
                  clear hK K
                  refine wpAny_all (rs := [0]) (by kernel_rfl) (by decide) (AllReady.cons rfl (fun K hK => ?_) AllReady.nil)
                  · go_simp
                    refine hK _ _ ?_
                    clear hK K
                    refine wpAny_all (rs := [5]) (by kernel_rfl) (by decide) (AllReady.cons rfl (fun K hK => ?_) AllReady.nil)
                    · refine step_append_lies (W5.drew.alloc (.cells #[.string ⟨y.toArray⟩] 9)) rfl (.tmp 50) (.tmp 54) 22 rfl 0 9 i0 (.string ⟨#[]⟩) 1 16 Tryd.underlying22 hi hz0 hz1 hz2 rfl (by decide) v5 pre2.length ((pre2.map (Tr.pairOf lev)).map vstr) rfl ((row_keptB HR5.out HC9.out).alloc _) ⟨W5.drew.heap.size, 0, none⟩ 1 1 [.string ⟨y.toArray⟩] rfl rfl (fun j u hj => by rw [addr_add, Nat.zero_add]; exact (Blk.new W5.drew [.string ⟨y.toArray⟩] _).cell hj) (by intro u hu; simp at hu; rw [hu]; rfl) (by decide) (by unfold maxLen; omega) (by omega) (Nat.zero_le _) _ rfl (fun g9 cap9 w10 hown hgrow hat hlt10 => ?_)
                      have e2 : w10.cell? ⟨bx, 0, none⟩ = some v5 := (hgrow.cell_far ⟨bx, 0, none⟩ (by simp; omega) (fun e => hqp e.symm)).trans ((World.cell?_alloc_past _ bx 0 l9).trans c9)
                      have ef : w10.frozen? ⟨bx, 0, none⟩ = false := (hgrow.frozen_far ⟨bx, 0, none⟩ (by simp; omega) (fun e => hqp e.symm)).trans ((World.frozen?_alloc_past _ bx 0 l9).trans ((HC9.out.blk HB5.out (by simp)).free 0))
                      refine hK _ _ ?_
                      clear hK K
                      refine wpAny_all (rs := [6]) (by kernel_rfl) (by decide) (AllReady.cons rfl (fun K hK => ?_) AllReady.nil)
                      · go_simp
                        refine hK _ _ ?_
                        clear hK K
                        refine wpAny_done (by kernel_rfl) ?_ _
                        exact ⟨rfl, body_end HPO HB5 HR5 HO5 HC5 HC9 HBW HOW hown hgrow (by simpa using hat) ⟨lBs, by omega⟩ ⟨lBn, by omega⟩⟩
              -- end of region 12
          case done =>
            rintro D xs W6 hD hxs ⟨v6, hb6, hr6, ho6, hc6⟩ hd6
            subst hxs
            have cb6 := hb6.cell (i := 0) rfl
            have hup : (List.range ((q + 1) / 2)).map (Tr.pairOf lev) = Tr.up lev := by rw [Tr.up_eq, ← HQ.out]
            rw [hup] at hr6
            have HU : Hid ((Tr.up lev).length = (q + 1) / 2) := Lib.hid (by rw [Tr.up_len, ← HQ.out])
            have hr7 : ∃ g7 cap7 cur7, v6 = .slice (some ⟨g7, 0, none⟩) (Tr.up lev).length cap7 ∧ w0.heap.size ≤ g7 ∧ W6.heap[g7]? = some (.cells cur7 9 (0, 0)) ∧ (Tr.up lev).length ≤ cap7 ∧ cur7.toList.take (Tr.up lev).length = (Tr.up lev).map vstr := by
              rcases hr6.2 with ⟨_, h0⟩ | ⟨g7, cap7, cur7, rfl, _, hg7, hle7, _, _, ht7⟩
              · simp at h0; omega
              · rw [List.length_range] at *
                refine ⟨g7, cap7, cur7, by rw [HU.out], ho6 g7 (by simp [Value.ownBlock]), hg7, by rw [HU.out]; exact hle7, ?_⟩
                rw [HU.out]
                simpa using ht7
            obtain ⟨g7, cap7, cur7, rfl, hg7w, hg7, hle7, ht7⟩ := hr7
            have H16u := Lib.hid (Tr.up_small HL16.out)
            have hC7 : ∀ (i : Nat) (x : Bytes), (Tr.up lev)[i]? = some x → W6.cell? ⟨g7, i, none⟩ = some (.string ⟨x.toArray⟩) := by
              intro i x hx
              have hi := (List.getElem?_eq_some_iff.1 hx).1
              have h1 : cur7.toList[i]? = some (vstr x) := by
                rw [← List.getElem?_take_of_lt hi, ht7, List.getElem?_map, hx]
                rfl
              unfold World.cell?
              simp only [hg7]
              simpa [vstr] using h1
            have HC7 := Lib.hid hC7
            have HC6 : Hid (Chg [] W3 W6) := Lib.hid (HC4.out.trans hc6 (fun k hk => .inr (by simp at hk; rw [hk, HBXE.out]; exact Nat.le_refl _)))
            have hl7 : g7 < W6.heap.size := (Array.getElem?_eq_some_iff.1 hg7).1
            have HG7 : Hid (W3.heap.size ≤ g7) := Lib.hid (Nat.le_trans HC4.out.size hg7w)
            have HM6 : Hid (Marked W.heap.size (D :: Ds) W6) := Lib.hid (((HMK3.out.chg HC4.out (by simp)).chg hc6 (fun k hk => ?hcells)).cons (fun hm => by have := (HMK3.out.chg HC4.out (by simp)).lt hm; omega) ?hBD hd6)
            case hcells =>
              simp at hk
              subst hk
              exact ⟨_, HBX.out, rfl⟩
            case hBD => exact Nat.le_trans HWR3.out (Nat.le_trans HC4.out.size hD)
            clear hb6 hr6 ho6 hc6 hd6 ht7 hg7 hC7 hup hg7w
            gi_wp2
            go_roundw
            case rel =>
              repeat apply Exists.intro
              refine ⟨?_, rfl⟩
              have hlu : (Tr.up lev).length < q := by rw [HU.out]; omega
              obtain ⟨f', rfl⟩ : ∃ f', f = f' + 1 := ⟨f - 1, by omega⟩
              refine ⟨pre ++ [(.slice (some ⟨g, 0, none⟩) lev.length cap2, lev)], Tr.up lev, f', g7, cap7, W3, D :: Ds, rfl, HM6.out, Nat.le_trans HWR3.out HC6.out.size, rfl, hle7, ?_, by omega, H16u.out, HC7.out, HJ.out _ _ _ HJ3.out HC6.out.grown0, HL3.out.quiet HC6.out, HW3.out, HC6.out.grown0, HG7.out, hl7, by omega, ?_⟩
              · intro h0
                have := HU.out
                rw [h0] at this
                simp at this
                omega
              · rw [HLV.out]
                show _ ++ (if lev.length ≤ 1 then [lev] else lev :: Tr.levs f' (Tr.up lev)) = _
                rw [if_neg (by rw [← HQ.out]; exact hq1)]
                simp
            case measure =>
              show (Tr.up lev).length < q
              rw [HU.out]
              omega
end Go.Proofs.YtpeehlflhnhhjaaDoor
