/-
  Layer 12: what a range's body keeps, drawn regions in a round, an append in a round; lists of tokens in memory.
-/
import Derived.Test.YtocadlcglgpdcaaDoorLxH
import Derived.OrdersIn
import Derived.Deep.RegionLaw
import Derived.Deep.AppendLies
import Derived.StillTail
namespace Go.Proofs.YtocadlcglgpdcaaDoor
set_option linter.unusedVariables false
set_option linter.unusedSimpArgs false
open Go Go.RowKit Go.Shelf

theorem rows_round {P : Program} {r : String} {args : Array Value} {w : World} {R : Value → World → Prop} {l n : Nat} (h : Rows P r args w R) : RowsIn (Fence.wide.inRound l) n P r args w R :=
  fun c cs _ => let ⟨v, w', hr, s⟩ := h c cs; ⟨v, w', hr, stepsIn_wide.2 s⟩
theorem oper_round {P : Program} {o : Oper} {a : Act} {w : World} {K : Act → World → Prop} {Q : Exit → Act → World → Prop} {l n : Nat} (hs : ∀ c, o.op ≠ .defer c)
    (h : o.wp P a w K Q) : o.wpIn (Fence.wide.inRound l) n P a w K Q := by
  refine ⟨fun _ _ => trivial, ?_⟩
  show o.uponIn (Fence.wide.inRound l) n P a K Q ((o.semAt (some l) a.eval).run P w)
  rw [Oper.semAt_eq _ _ _ hs]
  unfold Oper.wp at h
  generalize (execOp a.eval o).run P w = r at h
  match r, h with
  | .ok (.value v) w', h => exact h
  | .ok .skip w', h => exact h
  | .ok (.defer d) w', h => exact h
  | .ok (.enter f args) w', h => exact ⟨(fun h0 => by cases h0), CallsIn.inRound l (callsIn_wide.2 h)⟩
  | .ok (.row r args) w', h => exact ⟨(fun h0 => by cases h0), rows_round h⟩
  | .ok (.round ..) w', h => exact h.elim
  | .halt (.panic v) w', h => exact h
theorem any_round {P : Program} {md : Region.Mode} {ops : Array Oper} {Q : Exit → Act → World → Prop} {l n : Nat} (hops : ∀ (i : Nat) (o : Oper), ops[i]? = some o → ∀ c, o.op ≠ .defer c) (hno : ¬ LetsOut Q) :
    ∀ (fuel : Nat) (listed : Array Bool) (a : Act) (w : World), wpAny P md ops Q fuel listed a w → wpAnyIn (Fence.wide.inRound l) n P md ops Q fuel listed a w := by
  intro fuel
  induction fuel with
  | zero => exact fun _ _ _ h => h
  | succ fuel ih =>
    intro listed a w h
    refine ⟨h.1, fun i hi => ?_⟩
    have hw := h.2 i hi
    unfold wpOp at hw
    unfold wpOpIn
    cases ho : ops[i]? with
    | none => rw [ho] at hw; exact ih _ _ _ hw
    | some o =>
      rw [ho] at hw
      simp only at hw ⊢
      by_cases hwant : Region.wanted o (yielded ops a.tmps) = true
      · rw [if_pos hwant] at hw ⊢
        rcases hw with hw | hw
        · exact Oper.wpIn_mono (ih _) (oper_round (hops i o ho) hw)
        · exact absurd hw.2 hno
      · rw [if_neg hwant] at hw ⊢
        exact ⟨fun _ _ => trivial, ih _ _ _ hw⟩
theorem region_round {P : Program} {id : Nat} {ops : Array Oper} {Q : Exit → Act → World → Prop} {a : Act} {w : World} {l n : Nat} (hm : P.follows .mixedOrders = true) (hops : ∀ (i : Nat) (o : Oper), ops[i]? = some o → ∀ c, o.op ≠ .defer c) (hno : ¬ LetsOut Q)
    (h : wpAny P .any ops Q ops.size (Array.replicate ops.size false) a w.drew) : (Code.region id ops true).wpIn (Fence.wide.inRound l) n P Q a w :=
  wpIn_region_any hm (any_round hops hno _ _ _ _ h)
def noDefer (o : Oper) : Bool := match o.op with
  | .defer _ => false
  | _ => true
theorem region_round' {P : Program} {id : Nat} {ops : Array Oper} {Q : Exit → Act → World → Prop} {a : Act} {w : World} {l n : Nat} (hm : P.follows .mixedOrders = true) (hops : ops.all noDefer = true) (hno : ¬ LetsOut Q)
    (h : wpAny P .any ops Q ops.size (Array.replicate ops.size false) a w.drew) : (Code.region id ops true).wpIn (Fence.wide.inRound l) n P Q a w :=
  region_round hm (fun i o ho c hc => by
    have h1 := Array.all_eq_true.1 hops i (Array.getElem?_eq_some_iff.1 ho).1
    rw [(Array.getElem?_eq_some_iff.1 ho).2] at h1
    unfold noDefer at h1
    rw [hc] at h1
    cases h1) hno h
theorem region_round_tail {P : Program} {id : Nat} {Q : Exit → Act → World → Prop} {a : Act} {w : World} {l : List Oper} {lr n' : Nat} (n : Nat) (hm : P.follows .mixedOrders = true) (hB : Region.lexTailB .any l.toArray n = true)
    (hops : l.toArray.all noDefer = true) (hno : ¬ LetsOut Q) (h : ∀ L : Act → Prop, (∀ a', wpList P l.toArray Q (l.drop n) a' w.drew → L a') → wpStill P l.toArray w.drew L (l.take n) a) : (Code.region id l.toArray true).wpIn (Fence.wide.inRound lr) n' P Q a w := by
  have h := h _ (fun _ h => h)
  simp only [Region.lexTailB, Bool.and_eq_true, decide_eq_true_eq] at hB
  obtain ⟨⟨⟨⟨hsel, hn⟩, hs⟩, hc⟩, hlex⟩ := hB
  have hn' : n < l.length := by simpa using hn
  have htl : (l.take n).length = n := by simp; omega
  have hdl : (l.drop n).length = l.toArray.size - n := by simp
  have inv0 : HeadInv .any l.toArray n (Array.replicate l.toArray.size false) :=
    ⟨by simp, fun j oj _ hl => (by rw [getD_replicate_false] at hl; cases hl), fun t _ ht => getD_in (by simpa using ht) (getD_replicate_false _ _)⟩
  have H := wpAnyL_lex (md := .any) (g := l.toArray.size - n) hsel hs hc hn (l.take n) 0 _ a (fun j hj => by
    have hj' : j < n := by rw [htl] at hj; exact hj
    simp [hj']) (by simpa using htl) inv0 (by rw [htl]; exact hlex) h
  refine region_round' hm hops hno ?_
  have := wpAny_of_head (Q' := Q) (g := l.toArray.size - n) (fun listed a' hL => by
    have := wpAny_of_seq (md := .any) (Q' := Q) (l.drop n) n listed a' w.drew (fun j => by simp [List.getElem?_drop]) (by rw [hdl]; exact hL.1) hL.2
    rwa [hdl] at this) _ _ _ H
  rw [htl, show n + (l.toArray.size - n) = l.toArray.size by omega] at this
  exact this
theorem wpListIn_append_lies {F : Fence} {nn : Nat} {P : Program} (w : World) {ops : Array Oper} {rest : List Oper} {o : Oper} {a : Act} {Q : Exit → Act → World → Prop}
    (hgd : o.guard = none) (s x : Operand) (t : TypeId) (ho : o.op = .call { callee := .builtin .append, args := #[s, x], argTypes := #[t, t] })
    (base : Nat) (e : TypeId) (i : TypeInfo) (z : Value) (size bytes : Nat) (ht : P.underlying t = some (.slice e)) (hi : P.info? e = some i) (hz : i.zero = some z)
    (hsize : i.size = size) (hby : i.bytes = bytes) (hzs : z.cells.size = size) (hsz : 0 < size)
    (v : Value) (n : Nat) (xs : List Value) (hs : a.eval s = v) (hown : w.ownsRow base e size v n xs)
    (ad : Addr) (m c : Nat) (news : List Value) (hx : a.eval x = .slice (some ad) m c) (hl : news.length = m * size) (hnews : ∀ j u, news[j]? = some u → w.cell? (ad.add j) = some u) (h1 : ∀ u ∈ news, u.oneCell' = true)
    (hm : 0 < m) (h63 : n + m ≤ maxLen) (hbytes : (n + m) * bytes ≤ 140737488355328) (hbase : base ≤ w.heap.size) (H : Nat) (hH : w.heap.size = H)
    (h : ∀ g cap w', w'.ownsRow base e size (.slice (some ⟨g, 0, none⟩) (n + m) cap) (n + m) (xs ++ news) → w.grownBy w' v.ownBlock → (v.ownBlock = some g ∨ g = H) → g < w'.heap.size → wpListIn F nn P ops Q rest (a.put o.dst (.slice (some ⟨g, 0, none⟩) (n + m) cap)) w') :
    wpListIn F nn P ops Q (o :: rest) a w := by
  refine wpListIn_plain hgd fun K hK' => ?_
  obtain ⟨g, cap, w', hr, h2, h3, h4, h5⟩ := run_append_lies (P := P) w t o.type base e i z size bytes ht hi hz hsize hby hzs hsz v n xs hown ad m c news hl hnews h1 hm h63 hbytes hbase H hH
  unfold Oper.wpIn
  refine ⟨?_, ?_⟩
  · simp [Oper.about, ho, resolve, Target.leads, Sem.run_pure]
  · rw [Oper.semAt_plain F _ _ (by rw [ho]; intro c hc'; cases hc')]
    simp [execOp, ho, resolve, invoke, builtin, hs, hx, hr, Result.andThen]
    exact hK' _ _ (h g cap w' h2 h3 h4 h5)
theorem row_keptB {w w' : World} {B : Nat} {e : TypeId} {size : Nat} {v : Value} {n : Nat} {xs : List Value} (h : w.ownsRow B e size v n xs) (hc : Chg [] w w') : w'.ownsRow B e size v n xs := by
  refine ⟨h.1, ?_⟩
  rcases h.2 with h0 | ⟨g, cap, cur, rfl, hb, hg, rest⟩
  · exact .inl h0
  · exact .inr ⟨g, cap, cur, rfl, hb, (hc.block g (Array.getElem?_eq_some_iff.1 hg).1 (by simp)).trans hg, rest⟩
theorem put_cells {W : World} {l k : Nat} {o o' : Obj} {cs : Array Value} {e : TypeId} {fr : Nat × Nat} (hl : W.heap[l]? = some o) (ho : o.isCells = false) (hk : W.heap[k]? = some (.cells cs e fr)) : (W.putObj l o').heap[k]? = some (.cells cs e fr) := by
  refine (World.putObj_heap_other ?_).trans hk
  intro h
  subst h
  rw [hl] at hk
  cases hk
  cases ho
theorem grown0_chg {w w' : World} (h : w.grownBy w' none) : Chg [] w w' := ⟨h.os, h.tape, h.output, h.size, fun k hk _ => h.block k hk (by simp)⟩
/-- The marks that ranges over functions leave on the deferred calls, and the blocks they name. -/
def marks (Ds : List Nat) : List Deferred := Ds.map fun D => { target := .collected D, args := #[] }
def Marked (B : Nat) (Ds : List Nat) (w : World) : Prop := Ds.Nodup ∧ ∀ D ∈ Ds, B ≤ D ∧ w.heap[D]? = some (.deferred (some []))
theorem Marked.nil (B : Nat) (w : World) : Marked B [] w := ⟨List.nodup_nil, by simp⟩
theorem Marked.keeps {B : Nat} {Ds : List Nat} {w w' : World} (h : Marked B Ds w) (hk : KeepsOthers w w') : Marked B Ds w' :=
  ⟨h.1, fun D hD => ⟨(h.2 D hD).1, hk.same _ _ (h.2 D hD).2 rfl⟩⟩
theorem Marked.lt {B : Nat} {Ds : List Nat} {w : World} (h : Marked B Ds w) {D : Nat} (hD : D ∈ Ds) : D < w.heap.size := (Array.getElem?_eq_some_iff.1 (h.2 D hD).2).1
theorem Marked.cons {B : Nat} {Ds : List Nat} {w : World} (h : Marked B Ds w) {D : Nat} (hn : D ∉ Ds) (hB : B ≤ D) (hD : w.heap[D]? = some (.deferred (some []))) : Marked B (D :: Ds) w :=
  ⟨List.nodup_cons.2 ⟨hn, h.1⟩, fun E hE => (List.mem_cons.1 hE).elim (fun h1 => by rw [h1]; exact ⟨hB, hD⟩) (h.2 E)⟩
theorem Marked.chg {own : List Nat} {B : Nat} {Ds : List Nat} {w w' : World} (h : Marked B Ds w) (hc : Chg own w w') (ho : ∀ k ∈ own, ∃ o, w.heap[k]? = some o ∧ o.isCells = true) : Marked B Ds w' :=
  ⟨h.1, fun D hD => ⟨(h.2 D hD).1, (hc.block D (h.lt hD) (fun hm => by
    obtain ⟨o, h1, h2⟩ := ho D hm
    rw [(h.2 D hD).2] at h1
    cases h1
    cases h2)).trans (h.2 D hD).2⟩⟩
/-- A round writes at most the boxes bi and bo, and the row that the value in bo owns. -/
structure KpP (bi bo : Nat) (A B : World) : Prop where
  same : ∀ k o, k ≠ bi → k ≠ bo → (∀ v, A.cell? ⟨bo, 0, none⟩ = some v → v.ownBlock ≠ some k) → A.heap[k]? = some o → o.isCells = true → B.heap[k]? = some o
  own : ∀ v' k, B.cell? ⟨bo, 0, none⟩ = some v' → v'.ownBlock = some k → (∃ v, A.cell? ⟨bo, 0, none⟩ = some v ∧ v.ownBlock = some k) ∨ (A.heap.size ≤ k ∧ k < B.heap.size)
  size : A.heap.size ≤ B.heap.size
structure WfP (B0 bi bo : Nat) (V : World) : Prop where
  li : bi < V.heap.size
  lo : bo < V.heap.size
  gi : B0 ≤ bi
  go : B0 ≤ bo
  own : ∀ v k, V.cell? ⟨bo, 0, none⟩ = some v → v.ownBlock = some k → B0 ≤ k ∧ k < V.heap.size
theorem WfP.grown {B0 bi bo : Nat} {A B : World} (h : WfP B0 bi bo A) (hg : A.grownBy B none) : WfP B0 bi bo B := by
  have hb : B.heap[bo]? = A.heap[bo]? := hg.block bo h.lo (by simp)
  refine ⟨Nat.lt_of_lt_of_le h.li hg.size, Nat.lt_of_lt_of_le h.lo hg.size, h.gi, h.go, fun v k hv hk => ?_⟩
  have := h.own v k ((World.cell?_of_block (a := ⟨bo, 0, none⟩) hb).symm.trans hv) hk
  exact ⟨this.1, Nat.lt_of_lt_of_le this.2 hg.size⟩
theorem WfP.kp {B0 bi bo : Nat} {A B : World} (h : WfP B0 bi bo A) (hk : KpP bi bo A B) : WfP B0 bi bo B := by
  refine ⟨Nat.lt_of_lt_of_le h.li hk.size, Nat.lt_of_lt_of_le h.lo hk.size, h.gi, h.go, fun v k hv hkk => ?_⟩
  rcases hk.own v k hv hkk with ⟨u, hu, hku⟩ | ⟨h1, h2⟩
  · have := h.own u k hu hku
    exact ⟨this.1, Nat.lt_of_lt_of_le this.2 hk.size⟩
  · exact ⟨by have := h.gi; have := h.li; omega, h2⟩
theorem KpP.trans {bi bo : Nat} {A B C : World} (h : KpP bi bo A B) (h2 : KpP bi bo B C) : KpP bi bo A C := by
  refine ⟨fun k o n1 n2 hn ho hc => ?_, fun v' k hv hk => ?_, Nat.le_trans h.size h2.size⟩
  · refine h2.same k o n1 n2 (fun v hv e => ?_) (h.same k o n1 n2 hn ho hc) hc
    rcases h.own v k hv e with ⟨u, hu, hku⟩ | ⟨h3, _⟩
    · exact hn u hu hku
    · have := (Array.getElem?_eq_some_iff.1 ho).1
      omega
  · rcases h2.own v' k hv hk with ⟨u, hu, hku⟩ | ⟨h3, h4⟩
    · rcases h.own u k hu hku with h5 | ⟨h5, h6⟩
      · exact .inl h5
      · exact .inr ⟨h5, Nat.lt_of_lt_of_le h6 h2.size⟩
    · exact .inr ⟨Nat.le_trans h.size h3, h4⟩
theorem KpP.put {bi bo : Nat} {W : World} {l : Nat} {o o' : Obj} (hb : bo < l) (hl : W.heap[l]? = some o) (ho : o.isCells = false) : KpP bi bo W (W.putObj l o') := by
  have hbo : (W.putObj l o').heap[bo]? = W.heap[bo]? := World.putObj_heap_other (by omega)
  refine ⟨fun k q n1 n2 hn hq hc => ?_, fun v' k hv hk => ?_, by simp⟩
  · by_cases hkl : k = l
    · subst hkl
      rw [hl] at hq
      cases hq
      rw [ho] at hc
      cases hc
    · exact (World.putObj_heap_other hkl).trans hq
  · exact .inl ⟨v', (World.cell?_of_block (a := ⟨bo, 0, none⟩) hbo).symm.trans hv, hk⟩
/-- The function's end behind one range over a function: the mark is taken off, then the results are read. -/
theorem leaves_mark1 {n : Nat} {P : Program} {fn : Func} {tmps : Array Value} {R : Ending → World → Prop} {B : Nat} (J : World → Prop)
    (HJ : ∀ A D, B ≤ D → A.heap[D]? = some (.deferred (some [])) → J A → J (A.putObj D (.deferred none))) (hR : ∀ w, J w → ∃ v, (results fn tmps).run P w = .ok v w ∧ R (.returned v) w)
    (D : Nat) (w : World) (hm : Marked B [D] w) (hj : J w) : LeavesInM Fence.wide n P fn tmps R [{ target := .collected D, args := #[] }] .returning w := by
  have hD := hm.2 D (by simp)
  exact ⟨by simp, .inl ⟨D, _, rfl, run_takeDeferred hD.2, hR _ (HJ _ _ hD.1 hD.2 hj)⟩⟩
theorem keeps_setCell {W : World} {b i : Nat} {v : Value} {cs : List Value} {e : TypeId} (hb : Blk W b cs e) : KeepsOthers W (W.setCell ⟨b, i, none⟩ v) := by
  refine ⟨by simp, fun k o ho hoc => ?_⟩
  refine (heap_setCell_other W ⟨b, i, none⟩ k v ?_).trans ho
  rintro rfl
  have h := hb
  unfold Blk at h
  rw [ho] at h
  cases h
  cases hoc
/-- A store into one of the two boxes. -/
theorem kp_setCell {bi bo b : Nat} {W : World} {v : Value} {cs : List Value} {e : TypeId} (hb : Blk W b cs e) (hx : b = bi ∨ b = bo) (hv : ∀ k, v.ownBlock = some k → (∃ u, W.cell? ⟨bo, 0, none⟩ = some u ∧ u.ownBlock = some k) ∨ (W.heap.size ≤ k ∧ k < W.heap.size)) : KpP bi bo W (W.setCell ⟨b, 0, none⟩ v) := by
  refine ⟨fun k o n1 n2 _ ho _ => ?_, fun v' k hv' hk => ?_, by simp⟩
  · refine (heap_setCell_other W ⟨b, 0, none⟩ k v ?_).trans ho
    rintro rfl
    exact hx.elim n1 n2
  · by_cases hbb : bo = b
    · subst hbb
      have h := (hb.set 0 v)
      cases cs with
      | nil =>
        have h1 := h.cell (i := 0) (v := v')
        unfold Blk at h
        rw [cell_of_row _ bo 0 _ e (0, 0) h] at hv'
        simp at hv'
      | cons c cs =>
        rw [h.cell (i := 0) rfl] at hv'
        cases hv'
        exact (hv k hk).imp_right (fun h => by simpa using h)
    · exact .inl ⟨v', (World.cell?_of_block (a := ⟨bo, 0, none⟩) (heap_setCell_other W ⟨b, 0, none⟩ bo v hbb)).symm.trans hv', hk⟩
theorem KeepsOthers.setCell {W : World} {a : Addr} {v : Value} (h : ∃ cs e fr, W.heap[a.block]? = some (.cells cs e fr)) : KeepsOthers W (W.setCell a v) := by
  obtain ⟨cs, e, fr, h⟩ := h
  refine ⟨by simp, fun k o ho hoc => ?_⟩
  refine (heap_setCell_other W a k v ?_).trans ho
  rintro rfl
  rw [ho] at h
  cases h
  cases hoc
theorem owns_form {w : World} {base : Nat} {e : TypeId} {size : Nat} {v : Value} {n : Nat} {xs : List Value} (h : w.ownsRow base e size v n xs) : ∃ ao cap, v = .slice ao n cap := by
  rcases h.2 with ⟨rfl, rfl⟩ | ⟨g, cap, cur, rfl, _⟩
  · exact ⟨_, _, rfl⟩
  · exact ⟨_, _, rfl⟩
theorem info_tok : (Tryd.prog.info? 40).map (fun i => (i.zero, i.size, i.bytes)) = some (some (.agg #[.int .i64 0, .string ⟨#[]⟩, .int .i64 0, .int .i64 0]), 4, 40) := by kernel_rfl
/-- A token's cells. -/
def tkc (t : Lx.Tk) : List Value := [.int .i64 t.kind, .string ⟨t.text.toArray⟩, .int .i64 t.n, .int .i64 t.at_]
/-- A list of tokens that can be read. -/
def TokS (w : World) (v : Value) (l : List Lx.Tk) : Prop := ∃ ao cap, v = .slice ao l.length cap ∧ l.length ≤ cap ∧ ∀ (i : Nat) (t : Lx.Tk), l[i]? = some t → ∃ g off, ao = some ⟨g, off, none⟩ ∧
  w.cell? ⟨g, off + 4 * i, none⟩ = some (.int .i64 t.kind) ∧ w.cell? ⟨g, off + 4 * i + 1, none⟩ = some (.string ⟨t.text.toArray⟩) ∧ w.cell? ⟨g, off + 4 * i + 2, none⟩ = some (.int .i64 t.n) ∧ w.cell? ⟨g, off + 4 * i + 3, none⟩ = some (.int .i64 t.at_)
theorem TokS.quiet {w w' : World} {v : Value} {l : List Lx.Tk} (h : TokS w v l) (hc : Chg [] w w') : TokS w' v l := by
  obtain ⟨ao, cap, h1, h2, h3⟩ := h
  refine ⟨ao, cap, h1, h2, fun i t ht => ?_⟩
  obtain ⟨g, off, h4, h5, h6, h7, h8⟩ := h3 i t ht
  have hg := hc.block g (World.block_lt_of_cell? _ _ h5) (by simp)
  exact ⟨g, off, h4, (World.cell?_of_block (a := ⟨g, off + 4 * i, none⟩) hg).trans h5, (World.cell?_of_block (a := ⟨g, off + 4 * i + 1, none⟩) hg).trans h6, (World.cell?_of_block (a := ⟨g, off + 4 * i + 2, none⟩) hg).trans h7, (World.cell?_of_block (a := ⟨g, off + 4 * i + 3, none⟩) hg).trans h8⟩
theorem flat4 (l : List Lx.Tk) (i j : Nat) (hj : j < 4) (t : Lx.Tk) (h : l[i]? = some t) : (l.flatMap tkc)[4 * i + j]? = (tkc t)[j]? := by
  induction l generalizing i with
  | nil => simp at h
  | cons a r ih =>
    rw [List.flatMap_cons]
    cases i with
    | zero =>
      simp only [List.getElem?_cons_zero, Option.some.injEq] at h
      subst h
      rw [Nat.mul_zero, Nat.zero_add, List.getElem?_append_left (by show j < 4; exact hj)]
    | succ i =>
      rw [List.getElem?_append_right (by show 4 ≤ _; omega), show 4 * (i + 1) + j - (tkc a).length = 4 * i + j by show 4 * (i + 1) + j - 4 = _; omega]
      exact ih i (by simpa using h)
theorem flat_len (l : List Lx.Tk) : (l.flatMap tkc).length = l.length * 4 := by
  induction l with
  | nil => rfl
  | cons a r ih => rw [List.flatMap_cons, List.length_append, ih, List.length_cons]; show 4 + _ = _; omega
theorem toks_of_owns {w : World} {base : Nat} {e : TypeId} {v : Value} {l : List Lx.Tk} (h : w.ownsRow base e 4 v l.length (l.flatMap tkc)) : TokS w v l := by
  rcases h.2 with ⟨rfl, h0⟩ | ⟨g, cap, cur, rfl, _, hg, hle, _, hsz, ht⟩
  · have : l = [] := List.eq_nil_of_length_eq_zero h0
    subst this
    exact ⟨none, 0, rfl, Nat.le_refl _, fun i t h => by simp at h⟩
  · refine ⟨some ⟨g, 0, none⟩, cap, rfl, hle, fun i t hi => ⟨g, 0, rfl, ?_⟩⟩
    have hlt := (List.getElem?_eq_some_iff.1 hi).1
    have key : ∀ j, j < 4 → w.cell? ⟨g, 0 + 4 * i + j, none⟩ = (tkc t)[j]? := fun j hj => by
      have h1 := flat4 l i j hj t hi
      rw [← ht, List.getElem?_take_of_lt (by omega)] at h1
      rw [Nat.zero_add, cell_of_row w g _ _ e (0, 0) hg, ← h1]
      simp
    exact ⟨key 0 (by decide), key 1 (by decide), key 2 (by decide), key 3 (by decide)⟩
end Go.Proofs.YtocadlcglgpdcaaDoor
