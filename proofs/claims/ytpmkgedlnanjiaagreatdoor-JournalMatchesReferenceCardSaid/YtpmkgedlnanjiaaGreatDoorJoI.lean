/-
  Journal: Append.
-/
import Derived.Test.YtpmkgedlnanjiaaGreatDoorJoH
import Derived.Deep.AppendLies
namespace Go.Proofs.YtpmkgedlnanjiaaGreatDoor
set_option linter.unusedVariables false
set_option linter.unusedSimpArgs false
set_option maxRecDepth 100000
open Go Go.RowKit
attribute [local go_sem ↓] Go.wp_at_zero Go.wp_at_succ
attribute [local irreducible] Go.wpStill
/-- Texts are appended to a list of the call's own. -/
theorem step_app_strs {w : World} {ops : Array Oper} {o : Oper} {a : Act} {K : Act → World → Prop} {Q : Exit → Act → World → Prop} {E : Prop} (hgd : o.guard = none) (s x : Operand)
    (ho : o.op = .call { callee := .builtin .append, args := #[s, x], argTypes := #[26, 26] }) (B : Nat) (l : List Bytes) (v : Value) (hs : a.eval s = v) (hown : OwT B l v w) (ys : List Bytes) (hys : ys ≠ []) (xv : Value) (hx : a.eval x = xv) (HX : Strs w xv ys)
    (n : Nat) (hn : n = l.length + ys.length) (hsz : n ≤ 1000000) (hbase : B ≤ w.heap.size)
    (h : ∀ g cap w', OwT B (l ++ ys) (.slice (some ⟨g, 0, none⟩) n cap) w' → Chg v.ownBlock.toList w w' → (v.ownBlock = some g ∨ g = w.heap.size) → g < w'.heap.size → K (a.put o.dst (.slice (some ⟨g, 0, none⟩) n cap)) w') :
    if Region.wanted o (yielded ops a.tmps) = true then Oper.wp Tryz.prog o a w K Q else E := by
  subst hn
  obtain ⟨ims, i1, i2, i3, i4⟩ := info_str44
  obtain ⟨ao, cap, rfl, hle, hv⟩ := HX
  obtain ⟨y, hy⟩ : ∃ y, ys[0]? = some y := ⟨ys[0]'(List.length_pos_iff.2 hys), by simp⟩
  obtain ⟨g, off, rfl, _⟩ := hv 0 y hy
  have hp : 0 < ys.length := List.length_pos_iff.2 hys
  refine step_append_lies w hgd s x 26 ho B 9 ims (.string ⟨#[]⟩) 1 16 Tryz.underlying26 i1 i2 i3 i4 rfl (by decide) v l.length (l.map vstr) hs hown ⟨g, off, none⟩ ys.length cap (ys.map vstr) hx (by simp) (fun j u hj => ?_) (fun u hu => ?_) hp (by unfold maxLen; omega) (by omega) hbase w.heap.size rfl (fun g9 cap9 w9 h1 h2 h3 h4 => ?_)
  · rw [List.getElem?_map] at hj
    cases hz : ys[j]? with
    | none => rw [hz] at hj; cases hj
    | some z =>
      rw [hz] at hj
      injection hj with hj
      subst hj
      obtain ⟨g2, off2, he, hc⟩ := hv j z hz
      cases he
      rw [addr_add]
      exact hc
  · obtain ⟨z, _, rfl⟩ := List.mem_map.1 hu
    rfl
  · refine h g9 cap9 w9 ?_ ((Chg.refl v.ownBlock.toList w).grown h2 (fun k hk => .inl (by rw [Option.mem_toList]; exact hk))) h3 h4
    unfold OwT
    rw [List.length_append, List.map_append]
    exact h1
namespace Jn
/-- The steps of an Append, one by one. -/
def stN (D : DK) (L : List (Nat × List Bytes)) : Nat → Int × DK
  | 0 => (0, D)
  | i + 1 => put (stN D L i).2 (L.getD i (0, [])).1 (L.getD i (0, [])).2
theorem steps_cons (E : DK) (x : Nat × List Bytes) (r : List (Nat × List Bytes)) : steps E (x :: r) = if (put E x.1 x.2).1 ≠ 0 then put E x.1 x.2 else steps (put E x.1 x.2).2 r := by
  obtain ⟨p, l⟩ := x
  rfl
theorem stN_at {D : DK} {L : List (Nat × List Bytes)} {i : Nat} (hi : i < L.length) : L.drop i = L.getD i (0, []) :: L.drop (i + 1) := by
  rw [List.drop_eq_getElem_cons hi, List.getD_eq_getElem?_getD, List.getElem?_eq_getElem hi]
  rfl
theorem steps_drop (D : DK) (L : List (Nat × List Bytes)) : ∀ i, i ≤ L.length → (∀ m, m ≤ i → (stN D L m).1 = 0) → steps D L = steps (stN D L i).2 (L.drop i)
  | 0, _, _ => rfl
  | i + 1, hi, h => by
    have h1 : (put (stN D L i).2 (L.getD i (0, [])).1 (L.getD i (0, [])).2).1 = 0 := h (i + 1) (Nat.le_refl _)
    rw [steps_drop D L i (by omega) (fun m hm => h m (by omega)), stN_at (D := D) (by omega), steps_cons, if_neg (by rw [h1]; decide)]
    rfl
theorem steps_fail {D : DK} {L : List (Nat × List Bytes)} {i : Nat} (hi : i < L.length) (h : ∀ m, m ≤ i → (stN D L m).1 = 0) (hn : (stN D L (i + 1)).1 ≠ 0) : steps D L = stN D L (i + 1) := by
  have h1 : (put (stN D L i).2 (L.getD i (0, [])).1 (L.getD i (0, [])).2).1 ≠ 0 := hn
  rw [steps_drop D L i (by omega) h, stN_at (D := D) hi, steps_cons, if_pos h1]
  rfl
theorem steps_done {D : DK} {L : List (Nat × List Bytes)} (h : ∀ m, m ≤ L.length → (stN D L m).1 = 0) : steps D L = (0, (stN D L L.length).2) := by
  rw [steps_drop D L L.length (Nat.le_refl _) h, List.drop_length]
  rfl
theorem stN_q {D : DK} {L : List (Nat × List Bytes)} {k : Nat} (h : ∀ x ∈ L, x.2.length ≤ k) : ∀ i, (stN D L i).2.q.length ≤ D.q.length + k * i
  | 0 => Nat.le_refl _
  | i + 1 => by
    have h1 := stN_q (D := D) h i
    have h2 := put_q (L.getD i (0, [])).2 (stN D L i).2 (L.getD i (0, [])).1
    have h3 : (L.getD i (0, [])).2.length ≤ k := by
      rw [List.getD_eq_getElem?_getD]
      cases hx : L[i]? with
      | none => exact Nat.zero_le _
      | some x => exact h x (List.mem_of_getElem? hx)
    show (put (stN D L i).2 (L.getD i (0, [])).1 (L.getD i (0, [])).2).2.q.length ≤ _
    rw [Nat.mul_succ]
    omega
end Jn
/-- What Append answers. -/
def Appended (w : World) (B : Nat) (own : List Nat) (b p : Nat) (v : Value) (D : DK) (j : Jn.J) (rs : List Bytes) (R : Ending → World → Prop) : Prop :=
  ∀ e j' E own' v' w', Jn.append Dg.sum j D rs = ((e, j'), E) → DkAt w' own' p E → Chg (b :: (v.ownBlock.toList ++ own)) w w' → (∀ k ∈ own', k ∈ own ∨ w.heap.size ≤ k) → JR w' B b p j' v' →
    (∀ k, v'.ownBlock = some k → (v.ownBlock = some k ∨ w.heap.size ≤ k) ∧ k ∉ own' ∧ k ≠ b) → R (.returned (.int .i64 e)) w'
theorem door_0 {tmps : Array Value} {R : Ending → World → Prop} {b4 : Nat} {e : Int} {w : World} (t4 : tmps.getD 4 undef = .pointer (some ⟨b4, 0, none⟩)) (c4 : w.cell? ⟨b4, 0, none⟩ = some (.int .i64 e)) (hR : R (.returned (.int .i64 e)) w) :
    Leaves Tryz.prog Tryz.f13 tmps R [] .returning w := by
  refine ⟨.int .i64 e, ?_, hR⟩
  rw [Array.getD_eq_getD_getElem?] at t4
  simp [results, Tryz.results13, go_sem, t4, c4]
theorem door_1 {tmps : Array Value} {R : Ending → World → Prop} {b b2 b4 : Nat} {e : Int} {q : Bool} {w : World} (t4 : tmps.getD 4 undef = .pointer (some ⟨b4, 0, none⟩)) (c2 : w.cell? ⟨b2, 0, none⟩ = some (.pointer (some ⟨b, 0, none⟩))) (c4 : w.cell? ⟨b4, 0, none⟩ = some (.int .i64 e)) (hne : b4 ≠ b)
    (c0 : w.cell? ⟨b, 4, none⟩ = some (.bool q)) (f0 : w.frozen? ⟨b, 4, none⟩ = false) (hR : R (.returned (.int .i64 e)) (w.setCell ⟨b, 4, none⟩ (.bool (e != 0)))) :
    Leaves Tryz.prog Tryz.f13 tmps R [{ target := .fn (.func 49) #[.pointer (some ⟨b4, 0, none⟩), .pointer (some ⟨b2, 0, none⟩)], args := #[] }] .returning w := by
  refine leaves_cons (f := 49) (args := #[.pointer (some ⟨b4, 0, none⟩), .pointer (some ⟨b2, 0, none⟩)]) (by simp) (by simp [go_sem]) ?_
  refine (broken_d b b2 b4 e q c2 c4 c0 f0).mono ?_
  rintro en u' w' ⟨rfl, rfl, rfl⟩
  show Leaves _ _ _ _ [] (settle _) _
  have hs : settle FrameMode.returning = .returning := rfl
  rw [hs]
  have c9 : (w.setCell ⟨b, 4, none⟩ (.bool (e != 0))).cell? ⟨b4, 0, none⟩ = some (.int .i64 e) := cell_quiet ((Chg.refl [b] w).setCell _ _ (.inl (by simp))) c4 (by simpa using hne)
  exact door_0 t4 c9 hR
theorem leaves_frame44 {P : Program} {fn : Func} {t t' : Array Value} {R : Ending → World → Prop} (h : results fn t' = results fn t) : ∀ (ds : List Deferred) (u : FrameMode) (w : World), Leaves P fn t' R ds u w → Leaves P fn t R ds u w
  | [], .returning, w, ⟨v, h1, h2⟩ => ⟨v, by rw [← h]; exact h1, h2⟩
  | [], .panicking c, w, hh => hh
  | [], .run, w, hh => hh
  | d :: ds, u, w, ⟨hu, fv, cap, f, args, h1, h2, h3⟩ => ⟨hu, fv, cap, f, args, h1, h2, h3.mono (by
    intro e u' w' hh
    cases e with
    | returned v => exact leaves_frame44 h ds _ _ hh
    | panicked c => exact leaves_frame44 h ds _ _ hh
    | outgrown => exact hh)⟩
theorem res17 (t : Array Value) (i : Nat) (v : Value) (h4 : i ≠ 4) : results Tryz.f13 (t.setIfInBounds i v) = results Tryz.f13 t := by
  simp [results, Tryz.results13]
  rw [Array.getElem?_setIfInBounds_ne h4]
theorem hq17 {P : Program} {R : Ending → World → Prop} (i : Nat) (h4 : i ≠ 4) (v : Value) (c : List PanicEntry) (a : Act) (w : World) (h : bodyPostD P Tryz.f13 R (.panic c) (a.put (some i) v) w) : bodyPostD P Tryz.f13 R (.panic c) a w :=
  leaves_frame44 (res17 a.tmps i v h4) _ _ _ h
/-- An operation that is pure is taken first (in Append, which defers). -/
theorem tkd {ops : Array Oper} {Q : Exit → Act → World → Prop} {S : World → Prop} {md : Region.Mode} {oi : Oper} {fuel : Nat} {listed : Array Bool} {a : Act} {w : World} (i : Nat) (v : Value)
    (hy : ∀ w' : World, S w' → (execOp a.eval oi).run Tryz.prog w' = .ok (.value v) w') (h : wpAnyH Tryz.prog md ops Q S fuel (listed.setIfInBounds i true) (a.put oi.dst v) w)
    (hi : ops[i]? = some oi := by rfl) (hs : Region.noSelect ops = true := by kernel_rfl) (hf : Region.free md ops listed i = true := by kernel_rfl) (hr : (Region.ready md ops listed).contains i = true := by kernel_rfl)
    (hw : Region.wanted oi (yielded ops a.tmps) = true := by kernel_rfl)
    (hQ : ∀ c a w, Q (.panic c) (a.put oi.dst v) w → Q (.panic c) a w := by exact fun c a w h => hq17 _ (by decide) _ c a w h) (hS : S w := by assumption) : wpAnyH Tryz.prog md ops Q S (fuel + 1) listed a w :=
  wpAnyH_take hi hs hf hr hQ (Or.inl ⟨hw, hy⟩) hS h
theorem sectors_snoc44 (sm : Bytes → Bytes) : ∀ (l : List Bytes) (p : Nat) (x : Bytes), Jn.sectors sm p (l ++ [x]) = Jn.sectors sm p l ++ [Jn.sector sm (p + l.length) x]
  | [], p, x => rfl
  | y :: l, p, x => by
    show Jn.sector sm p y :: Jn.sectors sm (p + 1) (l ++ [x]) = Jn.sector sm p y :: (Jn.sectors sm (p + 1) l ++ [_])
    rw [sectors_snoc44 sm l (p + 1) x, List.length_cons, show p + 1 + l.length = p + (l.length + 1) by omega]
theorem sectors_len44 (sm : Bytes → Bytes) : ∀ (l : List Bytes) (p : Nat), (Jn.sectors sm p l).length = l.length
  | [], p => rfl
  | y :: l, p => by show (Jn.sectors sm (p + 1) l).length + 1 = _; rw [sectors_len44 sm l (p + 1), List.length_cons]
theorem Strs.off {w w' : World} {own : List Nat} {v : Value} {l : List Bytes} (h : Strs w v l) (hc : Chg own w w') (ho : offV v own) : Strs w' v l := by
  obtain ⟨ao, cap, rfl, hle, h2⟩ := h
  refine ⟨ao, cap, rfl, hle, fun i x hx => ?_⟩
  obtain ⟨g, off, rfl, hcl⟩ := h2 i x hx
  exact ⟨g, off, rfl, cell_quiet hc hcl (ho ⟨g, off, none⟩ l.length cap rfl)⟩
theorem append_fail {sm : Bytes → Bytes} {j : Jn.J} {D E : DK} {rs : List Bytes} {e : Int} (h0 : ¬ j.broken = true) (h1 : ¬ rs.any (fun r => decide (2000 < r.length)) = true) (h2 : ¬ Jn.room j < (Jn.pieces (Jn.text rs)).length) (h3 : ¬ rs = [])
    (hs : Jn.steps D (Jn.plan sm j.c (Jn.pieces (Jn.text rs))) = (e, E)) (he : e ≠ 0) : Jn.append sm j D rs = ((e, { j with broken := true }), E) := by
  unfold Jn.append
  rw [if_neg h0, if_neg h1, if_neg h2, if_neg h3, hs, if_pos he]
theorem append_done {sm : Bytes → Bytes} {j : Jn.J} {D E : DK} {rs : List Bytes} (h0 : ¬ j.broken = true) (h1 : ¬ rs.any (fun r => decide (2000 < r.length)) = true) (h2 : ¬ Jn.room j < (Jn.pieces (Jn.text rs)).length) (h3 : ¬ rs = [])
    (hs : Jn.steps D (Jn.plan sm j.c (Jn.pieces (Jn.text rs))) = (0, E)) : Jn.append sm j D rs = ((0, ⟨j.n, j.c + (Jn.pieces (Jn.text rs)).length, j.l ++ rs, false⟩), E) := by
  unfold Jn.append
  rw [if_neg h0, if_neg h1, if_neg h2, if_neg h3, hs, if_neg (fun h => h rfl)]
theorem Laid.kept3 {w0 w w' : World} {own : List Nat} (h : Laid w) (h0 : Laid w0) (hc : Chg own w w') (hn : ∀ k ∈ own, GN ≤ k ∨ w0.heap.size ≤ k) : Laid w' := by
  have hh : ∀ g, g < GN → g < w0.heap.size → g ∉ own := fun g h1 h2 hm => by rcases hn g hm with h3 | h3 <;> omega
  have tl : ∀ {name : String} {k : IntKind} {zs : List Int} {g : Nat}, Tryz.prog.globalNamed name = some g → Lib.TabIs Tryz.prog w0 name k zs → g < w0.heap.size := fun {name k zs g} hg h => by
    unfold Lib.TabIs World.var? at h
    rw [hg] at h
    simp only [Option.bind_some] at h
    rcases Nat.lt_or_ge g w0.heap.size with h' | h'
    · exact h'
    · rw [Array.getElem?_eq_none h'] at h; simp at h
  exact ⟨tab_kept2 glob_hex h.hex hc (hh _ (by decide) (tl glob_hex h0.hex)), tab_kept2 glob_pow h.pow hc (hh _ (by decide) (tl glob_pow h0.pow)),
    h.syn.imp (fun ev h1 => ⟨cell_quiet hc h1.1 (hh _ (by decide) (by obtain ⟨x, hx⟩ := h0.syn; exact block_lt_of_cell hx.1)), h1.2⟩),
    h.rng.imp (fun ev h1 => ⟨cell_quiet hc h1.1 (hh _ (by decide) (by obtain ⟨x, hx⟩ := h0.rng; exact block_lt_of_cell hx.1)), h1.2⟩),
    h.cut.imp (fun ev h1 => cell_quiet hc h1 (hh _ (by decide) (by obtain ⟨x, hx⟩ := h0.cut; exact block_lt_of_cell hx)))⟩
set_option maxHeartbeats 4000000 in
theorem append_r {w : World} (HL : Hid (Laid w)) {own : List Nat} (HF0 : Hid (∀ k ∈ own, GN ≤ k)) {B b p : Nat} {D : DK} {j : Jn.J} {v : Value} (H : Hid (DkAt w own p D)) (HJ : Hid (JR w B b p j v)) (HB : Hid (b ∉ own ∧ ∀ k, v.ownBlock = some k → k ∉ own ∧ k ≠ b)) (rv : Value) (rs : List Bytes) (HV : Hid (Strs w rv rs)) (HO : Hid (rs ≠ [] → offV rv (b :: (v.ownBlock.toList ++ own))))
    (hr : rs.length ≤ 900) (HR9 : Hid (∀ x ∈ rs, x.length ≤ 1000000)) (HT9 : Hid ((Jn.text rs).length ≤ 900000)) (hn : j.n ≤ 4000) (hc : j.c + 2 ≤ j.n) (hll : j.l.length ≤ 90000) (hBw : B ≤ w.heap.size) (hq : D.q.length ≤ 1000) {R : Ending → World → Prop} (h : Hid (Appended w B own b p v D j rs R)) :
    Calls Tryz.prog 13 #[.pointer (some ⟨b, 0, none⟩), rv] w R := by
  have HRR := h
  clear h
  obtain ⟨n, hn1⟩ : ∃ n, n = j.n := ⟨_, rfl⟩
  obtain ⟨c, hc1⟩ : ∃ c, c = j.c := ⟨_, rfl⟩
  obtain ⟨q, hq1⟩ : ∃ q, q = j.broken := ⟨_, rfl⟩
  have HNN := Lib.hid hn1
  have HCC := Lib.hid hc1
  have HQQ := Lib.hid hq1
  obtain ⟨ao, cap, rfl, hle, -⟩ := HV.out
  obtain ⟨vo, vc, rfl⟩ := HJ.out.own.form
  obtain ⟨rn, hrn⟩ : ∃ n, n = rs.length := ⟨_, rfl⟩
  obtain ⟨ln, hln⟩ : ∃ n, n = j.l.length := ⟨_, rfl⟩
  rw [← hrn] at hr hle HO HV ⊢
  rw [← hln] at hll HRR HO HB HJ
  have HRN := Lib.hid hrn
  have HLN := Lib.hid hln
  have HBK : Hid (Blk w b [.pointer (some ⟨p, 0, none⟩), .int .i64 (n : Int), .int .i64 (c : Int), .slice vo ln vc, .bool q] 53) := Lib.hid (by rw [hn1, hc1, hq1]; exact HJ.out.blk)
  rw [← hn1] at hn hc
  rw [← hc1] at hc
  clear hn1 hc1 hq1 hrn hln
  have hmf : ∀ (fn : Fn) (first cap : Array Value) (w : World), (Instr.makeFunc fn first cap).run Tryz.prog w = .ok (.func fn first cap) w := fun _ _ _ _ => rfl
  go_enter_defers Tryz.func13, Tryz.ntmps13
  go_upto_block 0 with (fail)
  obtain ⟨w1, hw1⟩ : ∃ W, W = (w.alloc (.cells #[.pointer (some ⟨b, 0, none⟩)] 25)).alloc (.cells #[.int .i64 0] 27) := ⟨_, rfl⟩
  rw [← hw1]
  obtain ⟨b2, hb2⟩ : ∃ b, b = w.heap.size := ⟨_, rfl⟩
  obtain ⟨b4, hb4⟩ : ∃ b, b = w.heap.size + 1 := ⟨_, rfl⟩
  rw [← hb4, ← hb2]
  have C1 : Hid (Chg [] w w1) := Lib.hid (by rw [hw1]; exact ((Chg.refl _ _).alloc _).alloc _)
  have HK2 : Hid (Blk w1 b2 [.pointer (some ⟨b, 0, none⟩)] 25) := Lib.hid (by rw [hw1, hb2]; exact (Blk.new w _ _).alloc _)
  have HK4 : Hid (Blk w1 b4 [.int .i64 0] 27) := Lib.hid (by rw [hw1, hb4]; have := Blk.new (w.alloc (.cells #[.pointer (some ⟨b, 0, none⟩)] 25)) [.int .i64 0] 27; simpa using this)
  have HN : Hid (b2 = w.heap.size ∧ b4 = w.heap.size + 1 ∧ b < w.heap.size ∧ b2 ∉ own ∧ b4 ∉ own) := Lib.hid ⟨hb2, hb4, HBK.out.lt, fun hm => by have := H.out.lt _ hm; omega, fun hm => by have := H.out.lt _ hm; omega⟩
  clear hw1 hb2 hb4
  -- an end ahead of the deferred call
  have HEND : Hid (∀ (e : Int) (wg : World) (tmps : Array Value), tmps.getD 4 undef = .pointer (some ⟨b4, 0, none⟩) → Jn.append Dg.sum j D rs = ((e, j), D) → Chg [] w1 wg → bodyPostD Tryz.prog Tryz.f13 R Exit.ret { tmps := tmps, defers := [] } (wg.setCell ⟨b4, 0, none⟩ (.int .i64 e))) := Lib.hid (fun e wg tmps ht ha hcg => by
    have h4 : (wg.setCell ⟨b4, 0, none⟩ (.int .i64 e)).cell? ⟨b4, 0, none⟩ = some (.int .i64 e) := ((hcg.blk HK4.out (by simp)).set 0 (.int .i64 e)).cell (i := 0) rfl
    have hcf : Chg [b4] w1 (wg.setCell ⟨b4, 0, none⟩ (.int .i64 e)) := (hcg.mono (by simp)).trans ((Chg.refl [b4] wg).setCell _ _ (.inl (by simp))) (fun k hk => .inl hk)
    have hc : Chg [] w (wg.setCell ⟨b4, 0, none⟩ (.int .i64 e)) := C1.out.trans hcf (fun k hk => .inr (by have := HN.out; simp only [List.mem_singleton] at hk; omega))
    exact door_0 ht h4 (HRR.out e j D own (.slice vo ln vc) _ ha (H.out.kept hc (by simp)) (hc.mono (by simp)) (fun k hk => .inl hk) ⟨by have h9 := hc.blk HBK.out (by simp); rw [HNN.out, HCC.out, HQQ.out] at h9; exact h9, HJ.out.own.keep hc (by simp)⟩ (fun k hk => ⟨.inl hk, HB.out.2 k hk⟩)))
  have c2 := HK2.out.cell (i := 0) rfl
  have c4 := HK4.out.cell (i := 0) rfl
  have f4 := HK4.out.free 0
  have x4 := (C1.out.blk HBK.out (by simp)).cell (i := 4) rfl
  cases q with
  | true =>
    have HAP : Hid (Jn.append Dg.sum j D rs = ((12, j), D)) := Lib.hid (by unfold Jn.append; rw [if_pos HQQ.out.symm])
    go_wp2_with fail
    exact HEND.out 12 w1 _ rfl HAP.out (Chg.refl _ _)
  | false =>
  have HQ0 : Hid (¬ j.broken = true) := Lib.hid (by rw [← HQQ.out]; decide)
  go_wp2_with fail
  refine contains_r (.slice ao rn cap) rs (Lib.hid (HV.out.quiet C1.out)) (by have := HRN.out; omega) ?_
  obtain ⟨qa, hqa⟩ : ∃ q, q = rs.any (fun r => decide (2000 < r.length)) := ⟨_, rfl⟩
  rw [← hqa]
  have HQA := Lib.hid hqa
  clear hqa
  cases qa with
  | true =>
    have HAP : Hid (Jn.append Dg.sum j D rs = ((3, j), D)) := Lib.hid (by unfold Jn.append; rw [if_neg HQ0.out, if_pos HQA.out.symm])
    go_wp2_with fail
    exact HEND.out 3 w1 _ rfl HAP.out (Chg.refl _ _)
  | false =>
  have HQ1 : Hid (¬ rs.any (fun r => decide (2000 < r.length)) = true) := Lib.hid (by rw [← HQA.out]; decide)
  clear HQA HQQ x4
  go_wp2_with fail
  refine (text_r44 w1 (Lib.hid (HL.out.quiet C1.out)) (.slice ao rn cap) rs (Lib.hid (HV.out.quiet C1.out)) (by have := HRN.out; omega) HR9).mono ?_
  rintro e w2 ⟨rfl, h2⟩
  have C12 : Hid (Chg [] w1 w2) := Lib.hid h2
  have C2 : Hid (Chg [] w w2) := Lib.hid (C1.out.trans h2 (by simp))
  obtain ⟨tx, htx⟩ : ∃ t, t = Jn.text rs := ⟨_, rfl⟩
  rw [← htx] at HT9 ⊢
  have HTX := Lib.hid htx
  clear h2 htx c2 c4 f4
  go_wp2_with fail
  refine split_r tx (by have := HT9.out; omega) (fun v5 w3 ho h3 => ?_)
  obtain ⟨ps, hps⟩ : ∃ ps, ps = Jn.pieces tx := ⟨_, rfl⟩
  rw [← hps] at ho
  have HPS : Hid (ps = Jn.pieces (Jn.text rs)) := Lib.hid (by rw [hps, HTX.out])
  obtain ⟨po, pc, rfl⟩ := ho.form
  obtain ⟨pn, hpn⟩ : ∃ n, n = ps.length := ⟨_, rfl⟩
  rw [← hpn] at ho ⊢
  have HPN := Lib.hid hpn
  have HO5 : Hid (OwT w2.heap.size ps (.slice po pn pc) w3) := Lib.hid ho
  have C13 : Hid (Chg [] w1 w3) := Lib.hid (C12.out.trans h3 (by simp))
  have C3 : Hid (Chg [] w w3) := Lib.hid (C1.out.trans C13.out (by simp))
  clear ho h3 hps hpn HTX HT9
  have c2 := (C13.out.blk HK2.out (by simp)).cell (i := 0) rfl
  go_wp2_with fail
  have HJ3 : Hid (JR w3 B b p j (.slice vo ln vc)) := Lib.hid ⟨by have h9 := C3.out.blk HBK.out (by simp); rw [HNN.out, HCC.out] at h9; rw [show j.broken = false from by simpa using HQ0.out]; exact h9, HJ.out.own.keep C3.out (by simp)⟩
  refine room_r HJ3 (by rw [← HNN.out]; exact hn) (by rw [← HNN.out, ← HCC.out]; exact hc) (fun w4 h4 => ?_)
  obtain ⟨rm, hrm⟩ : ∃ r, r = Jn.room j := ⟨_, rfl⟩
  rw [← hrm]
  have HRM := Lib.hid hrm
  have hrb : rm + 2 + c = n := by rw [hrm]; unfold Jn.room; rw [← HNN.out, ← HCC.out]; omega
  have C14 : Hid (Chg [] w1 w4) := Lib.hid (C13.out.trans h4 (by simp))
  have C4 : Hid (Chg [] w w4) := Lib.hid (C3.out.trans h4 (by simp))
  have HO54 : Hid (OwT w2.heap.size ps (.slice po pn pc) w4) := Lib.hid (HO5.out.keep h4 (by simp))
  clear h4 hrm c2 HO5
  have c4 := (C14.out.blk HK4.out (by simp)).cell (i := 0) rfl
  have f4 := (C14.out.blk HK4.out (by simp)).free 0
  by_cases hfull : rm < pn
  · have HAP : Hid (Jn.append Dg.sum j D rs = ((23, j), D)) := Lib.hid (by unfold Jn.append; rw [if_neg HQ0.out, if_neg HQ1.out, if_pos (by rw [← HRM.out, ← HPS.out, ← HPN.out]; exact hfull)])
    have z1 : (rm : Int) < (pn : Int) := by omega
    go_wp2_with fail
    exact HEND.out 23 w4 _ rfl HAP.out C14.out
  have HQ2 : Hid (¬ Jn.room j < (Jn.pieces (Jn.text rs)).length) := Lib.hid (by rw [← HRM.out, ← HPS.out, ← HPN.out]; exact hfull)
  have z1 : ¬ (rm : Int) < (pn : Int) := by omega
  by_cases hemp : rs = []
  · have HAP : Hid (Jn.append Dg.sum j D rs = ((0, j), D)) := Lib.hid (by unfold Jn.append; rw [if_neg HQ0.out, if_neg HQ1.out, if_neg HQ2.out, if_pos hemp])
    obtain rfl : rn = 0 := by rw [HRN.out, hemp]; rfl
    clear hemp
    go_wp2_with fail
    exact HEND.out 0 w4 _ rfl HAP.out C14.out
  have HNE := Lib.hid hemp
  have hrn0 : 0 < rn := by rw [HRN.out]; exact List.length_pos_iff.2 hemp
  have z2 : ((rn : Int) == 0) = false := by rw [beq_eq_false_iff_ne]; omega
  have z3 : (rn == 0) = false := by rw [beq_eq_false_iff_ne]; omega
  clear hemp c4 f4
  go_upto_region 13 with (fail)
  obtain ⟨fr, hfr⟩ : ∃ f, f = 2 + c := ⟨_, rfl⟩
  obtain ⟨nx, hnx⟩ : ∃ f, f = c + pn := ⟨_, rfl⟩
  have n2 : IntKind.i64.wrap (2 + (c : Int)) = (fr : Int) := by rw [IntWalk.i64_in _ (by omega)]; omega
  have n3 : IntKind.i64.wrap ((c : Int) + (pn : Int)) = (nx : Int) := by rw [IntWalk.i64_in _ (by omega)]; omega
  have HFR := Lib.hid hfr
  have HNX := Lib.hid hnx
  clear hfr hnx
  go_cut [6, 7] from 14 to 48 (fun s6 s7 wx => ∃ a6 a7 : Nat, s6 = .pointer (some ⟨a6, 0, none⟩) ∧ s7 = .pointer (some ⟨a7, 0, none⟩) ∧ Hid (Blk wx a6 [.int .i64 (fr : Int)] 3) ∧ Hid (Blk wx a7 [.int .i64 (nx : Int)] 3) ∧ Hid (a6 ≠ a7 ∧ w4.heap.size ≤ a6 ∧ w4.heap.size ≤ a7) ∧ Hid (Chg [] w4 wx))
  case first =>
    have g2 := (C14.out.blk HK2.out (by simp)).cell (i := 0) rfl
    have gc := (C4.out.blk HBK.out (by simp)).cell (i := 2) rfl
    refine wp_region_held_drew (S := fun W' => Chg [] w4 W') (by kernel_rfl) (Chg.refl _ _).drew (fun hHeld => ?_)
    obtain ⟨wd, hwd⟩ : ∃ x, x = w4.drew := ⟨_, rfl⟩
    rw [← hwd] at hHeld ⊢
    clear hwd
    refine tkd 0 ?va0 ?hya0 ?rsa0
    case hya0 => (intro w9 hSw; have t0 := cell_quiet hSw g2 (by simp); go_simp; try with_reducible rfl)
    try simp only [qq]
    refine tkd 1 ?va1 ?hya1 ?rsa1
    case hya1 => (intro w9 hSw; go_simp; try with_reducible rfl)
    try simp only [qq]
    refine tkd 2 ?va2 ?hya2 ?rsa2
    case hya2 => (intro w9 hSw; go_simp; try with_reducible rfl)
    try simp only [qq]
    refine tkd 3 ?va3 ?hya3 ?rsa3
    case hya3 => (intro w9 hSw; have t0 := cell_quiet hSw gc (by simp); go_simp; try with_reducible rfl)
    try simp only [qq]
    refine tkd 4 ?va4 ?hya4 ?rsa4
    case hya4 => (intro w9 hSw; go_simp; try with_reducible rfl)
    try simp only [qq]
    refine tkd 5 ?va5 ?hya5 ?rsa5
    case hya5 => (intro w9 hSw; have t0 := cell_quiet hSw g2 (by simp); go_simp; try with_reducible rfl)
    try simp only [qq]
    refine tkd 6 ?va6 ?hya6 ?rsa6
    case hya6 => (intro w9 hSw; go_simp; try with_reducible rfl)
    try simp only [qq]
    refine tkd 7 ?va7 ?hya7 ?rsa7
    case hya7 => (intro w9 hSw; go_simp; try with_reducible rfl)
    try simp only [qq]
    refine tkd 8 ?va8 ?hya8 ?rsa8
    case hya8 => (intro w9 hSw; have t0 := cell_quiet hSw gc (by simp); go_simp; try with_reducible rfl)
    try simp only [qq]
    refine tkd 9 ?va9 ?hya9 ?rsa9
    case hya9 => (intro w9 hSw; go_simp; try with_reducible rfl)
    try simp only [qq]
    refine tkd 10 ?va10 ?hya10 ?rsa10
    case hya10 => (intro w9 hSw; go_simp; try with_reducible rfl)
    try simp only [qq]
    refine tkd 11 ?va11 ?hya11 ?rsa11
    case hya11 => (intro w9 hSw; go_simp; try with_reducible rfl)
    try simp only [qq]
    refine rd2 12 13 ?oa ?ob
    case oa =>
      intro K hK
      go_simp
      obtain ⟨wa, hwwa⟩ : ∃ W, W = wd.alloc (.cells #[.int .i64 0] 3) := ⟨_, rfl⟩
      obtain ⟨a6, ha6⟩ : ∃ a, a = wd.heap.size := ⟨_, rfl⟩
      rw [← hwwa, ← ha6]
      have HBa6 : Hid (Blk wa a6 [.int .i64 0] 3) := Lib.hid (by rw [hwwa, ha6]; exact Blk.new _ _ _)
      have CAa6 : Hid (Chg [] wd wa) := Lib.hid (by rw [hwwa]; exact (Chg.refl _ _).alloc _)
      have HAa6 : Hid (a6 = wd.heap.size) := Lib.hid ha6
      have HDwa : Hid (Chg [] w4 wa) := Lib.hid (hHeld.trans CAa6.out (by simp))
      have HSwd : Hid (w4.heap.size ≤ wd.heap.size) := Lib.hid hHeld.size
      clear hwwa ha6
      refine hK.out _ _ HDwa.out (fun hHeld => ?_)
      clear hK K
      try simp only [qq]
      refine rd1 13 (fun K hK => ?_)
      go_simp
      obtain ⟨wb, hwwb⟩ : ∃ W, W = wa.alloc (.cells #[.int .i64 0] 3) := ⟨_, rfl⟩
      obtain ⟨a7, ha7⟩ : ∃ a, a = wa.heap.size := ⟨_, rfl⟩
      rw [← hwwb, ← ha7]
      have HBa7 : Hid (Blk wb a7 [.int .i64 0] 3) := Lib.hid (by rw [hwwb, ha7]; exact Blk.new _ _ _)
      have CAa7 : Hid (Chg [] wa wb) := Lib.hid (by rw [hwwb]; exact (Chg.refl _ _).alloc _)
      have HAa7 : Hid (a7 = wa.heap.size) := Lib.hid ha7
      have HDwb : Hid (Chg [] w4 wb) := Lib.hid (hHeld.trans CAa7.out (by simp))
      have HSwa : Hid (w4.heap.size ≤ wa.heap.size) := Lib.hid hHeld.size
      clear hwwb ha7
      refine hK.out _ _ HDwb.out (fun hHeld => ?_)
      clear hK K
      try simp only [qq]
      have HNE6 : Hid (a6 ≠ a7 ∧ w4.heap.size ≤ a6 ∧ w4.heap.size ≤ a7) := Lib.hid (by have h1 := HAa6.out; have h2 := HAa7.out; have h3 := HBa6.out.lt; have h4 := HSwd.out; have h5 := HSwa.out; omega)
      have HB6 := Lib.hid (CAa7.out.blk HBa6.out (by simp))
      have HB7 := HBa7
      refine rd1 14 (fun K hK => ?_)
      have y1 := HB6.out.cell (i := 0) rfl
      have y2 := HB6.out.free 0
      go_simp
      obtain ⟨we, hwe⟩ : ∃ W, W = wb.setCell ⟨a6, 0, none⟩ (.int .i64 (fr : Int)) := ⟨_, rfl⟩
      rw [← hwe]
      have HE6 : Hid (Blk we a6 [.int .i64 (fr : Int)] 3) := Lib.hid (by rw [hwe]; exact HB6.out.set 0 _)
      have CE : Hid (Chg [a6] wb we) := Lib.hid (by rw [hwe]; exact (Chg.refl [a6] wb).setCell _ _ (.inl (by simp)))
      have HE7 : Hid (Blk we a7 [.int .i64 0] 3) := Lib.hid (CE.out.blk HB7.out (by have := HNE6.out.1; simp; omega))
      have HDE : Hid (Chg [] w4 we) := Lib.hid (HDwb.out.trans CE.out (fun k hk => .inr (by have := HNE6.out; simp only [List.mem_singleton] at hk; omega)))
      clear hwe y1 y2
      refine hK.out _ _ HDE.out (fun hHeld => ?_)
      clear hK K
      try simp only [qq]
      refine rd1 15 (fun K hK => ?_)
      have y1 := HE7.out.cell (i := 0) rfl
      have y2 := HE7.out.free 0
      go_simp
      obtain ⟨wf, hwf⟩ : ∃ W, W = we.setCell ⟨a7, 0, none⟩ (.int .i64 (nx : Int)) := ⟨_, rfl⟩
      rw [← hwf]
      have HF7 : Hid (Blk wf a7 [.int .i64 (nx : Int)] 3) := Lib.hid (by rw [hwf]; exact HE7.out.set 0 _)
      have CF : Hid (Chg [a7] we wf) := Lib.hid (by rw [hwf]; exact (Chg.refl [a7] we).setCell _ _ (.inl (by simp)))
      have HF6 : Hid (Blk wf a6 [.int .i64 (fr : Int)] 3) := Lib.hid (CF.out.blk HE6.out (by have := HNE6.out.1; simp; omega))
      have HDF : Hid (Chg [] w4 wf) := Lib.hid (HDE.out.trans CF.out (fun k hk => .inr (by have := HNE6.out; simp only [List.mem_singleton] at hk; omega)))
      clear hwf y1 y2
      refine hK.out _ _ HDF.out (fun hHeld => ?_)
      clear hK K
      try simp only [qq]
      refine wpAnyH_done (by kernel_rfl) ?_ _
      try simp only [qq]
      clear hHeld
      go_wp2_with fail
      go_meet
      exact ⟨a6, a7, rfl, rfl, HF6, HF7, HNE6, HDF⟩
    case ob =>
      intro K hK
      go_simp
      obtain ⟨wa, hwwa⟩ : ∃ W, W = wd.alloc (.cells #[.int .i64 0] 3) := ⟨_, rfl⟩
      obtain ⟨a7, ha7⟩ : ∃ a, a = wd.heap.size := ⟨_, rfl⟩
      rw [← hwwa, ← ha7]
      have HBa7 : Hid (Blk wa a7 [.int .i64 0] 3) := Lib.hid (by rw [hwwa, ha7]; exact Blk.new _ _ _)
      have CAa7 : Hid (Chg [] wd wa) := Lib.hid (by rw [hwwa]; exact (Chg.refl _ _).alloc _)
      have HAa7 : Hid (a7 = wd.heap.size) := Lib.hid ha7
      have HDwa : Hid (Chg [] w4 wa) := Lib.hid (hHeld.trans CAa7.out (by simp))
      have HSwd : Hid (w4.heap.size ≤ wd.heap.size) := Lib.hid hHeld.size
      clear hwwa ha7
      refine hK.out _ _ HDwa.out (fun hHeld => ?_)
      clear hK K
      try simp only [qq]
      refine rd1 12 (fun K hK => ?_)
      go_simp
      obtain ⟨wb, hwwb⟩ : ∃ W, W = wa.alloc (.cells #[.int .i64 0] 3) := ⟨_, rfl⟩
      obtain ⟨a6, ha6⟩ : ∃ a, a = wa.heap.size := ⟨_, rfl⟩
      rw [← hwwb, ← ha6]
      have HBa6 : Hid (Blk wb a6 [.int .i64 0] 3) := Lib.hid (by rw [hwwb, ha6]; exact Blk.new _ _ _)
      have CAa6 : Hid (Chg [] wa wb) := Lib.hid (by rw [hwwb]; exact (Chg.refl _ _).alloc _)
      have HAa6 : Hid (a6 = wa.heap.size) := Lib.hid ha6
      have HDwb : Hid (Chg [] w4 wb) := Lib.hid (hHeld.trans CAa6.out (by simp))
      have HSwa : Hid (w4.heap.size ≤ wa.heap.size) := Lib.hid hHeld.size
      clear hwwb ha6
      refine hK.out _ _ HDwb.out (fun hHeld => ?_)
      clear hK K
      try simp only [qq]
      have HNE6 : Hid (a6 ≠ a7 ∧ w4.heap.size ≤ a6 ∧ w4.heap.size ≤ a7) := Lib.hid (by have h1 := HAa6.out; have h2 := HAa7.out; have h3 := HBa7.out.lt; have h4 := HSwd.out; have h5 := HSwa.out; omega)
      have HB7 := Lib.hid (CAa6.out.blk HBa7.out (by simp))
      have HB6 := HBa6
      refine rd1 14 (fun K hK => ?_)
      have y1 := HB6.out.cell (i := 0) rfl
      have y2 := HB6.out.free 0
      go_simp
      obtain ⟨we, hwe⟩ : ∃ W, W = wb.setCell ⟨a6, 0, none⟩ (.int .i64 (fr : Int)) := ⟨_, rfl⟩
      rw [← hwe]
      have HE6 : Hid (Blk we a6 [.int .i64 (fr : Int)] 3) := Lib.hid (by rw [hwe]; exact HB6.out.set 0 _)
      have CE : Hid (Chg [a6] wb we) := Lib.hid (by rw [hwe]; exact (Chg.refl [a6] wb).setCell _ _ (.inl (by simp)))
      have HE7 : Hid (Blk we a7 [.int .i64 0] 3) := Lib.hid (CE.out.blk HB7.out (by have := HNE6.out.1; simp; omega))
      have HDE : Hid (Chg [] w4 we) := Lib.hid (HDwb.out.trans CE.out (fun k hk => .inr (by have := HNE6.out; simp only [List.mem_singleton] at hk; omega)))
      clear hwe y1 y2
      refine hK.out _ _ HDE.out (fun hHeld => ?_)
      clear hK K
      try simp only [qq]
      refine rd1 15 (fun K hK => ?_)
      have y1 := HE7.out.cell (i := 0) rfl
      have y2 := HE7.out.free 0
      go_simp
      obtain ⟨wf, hwf⟩ : ∃ W, W = we.setCell ⟨a7, 0, none⟩ (.int .i64 (nx : Int)) := ⟨_, rfl⟩
      rw [← hwf]
      have HF7 : Hid (Blk wf a7 [.int .i64 (nx : Int)] 3) := Lib.hid (by rw [hwf]; exact HE7.out.set 0 _)
      have CF : Hid (Chg [a7] we wf) := Lib.hid (by rw [hwf]; exact (Chg.refl [a7] we).setCell _ _ (.inl (by simp)))
      have HF6 : Hid (Blk wf a6 [.int .i64 (fr : Int)] 3) := Lib.hid (CF.out.blk HE6.out (by have := HNE6.out.1; simp; omega))
      have HDF : Hid (Chg [] w4 wf) := Lib.hid (HDE.out.trans CF.out (fun k hk => .inr (by have := HNE6.out; simp only [List.mem_singleton] at hk; omega)))
      clear hwf y1 y2
      refine hK.out _ _ HDF.out (fun hHeld => ?_)
      clear hK K
      try simp only [qq]
      refine wpAnyH_done (by kernel_rfl) ?_ _
      try simp only [qq]
      clear hHeld
      go_wp2_with fail
      go_meet
      exact ⟨a6, a7, rfl, rfl, HF6, HF7, HNE6, HDF⟩
  case rest =>
    obtain ⟨a6, a7, rfl, rfl, HB6, HB7, HN6, HC4⟩ := hcut
    go_upto_region 15 with (fail)
    obtain ⟨a8, ha8⟩ : ∃ a, a = wc.heap.size := ⟨_, rfl⟩
    obtain ⟨a9, ha9⟩ : ∃ a, a = wc.heap.size + 1 := ⟨_, rfl⟩
    obtain ⟨w6, hw6⟩ : ∃ W, W = (wc.alloc (.cells #[.slice none 0 0] 26)).alloc (.cells #[.slice none 0 0] 26) := ⟨_, rfl⟩
    rw [← hw6, ← ha9, ← ha8]
    have HK8 : Hid (Blk w6 a8 [.slice none 0 0] 26) := Lib.hid (by rw [hw6, ha8]; exact (Blk.new wc _ _).alloc _)
    have HK9 : Hid (Blk w6 a9 [.slice none 0 0] 26) := Lib.hid (by rw [hw6, ha9]; have := Blk.new (wc.alloc (.cells #[.slice none 0 0] 26)) [.slice none 0 0] 26; simpa using this)
    have C6c : Hid (Chg [] wc w6) := Lib.hid (by rw [hw6]; exact ((Chg.refl _ _).alloc _).alloc _)
    have C46 : Hid (Chg [] w4 w6) := Lib.hid (HC4.out.trans C6c.out (by simp))
    have C6 : Hid (Chg [] w w6) := Lib.hid (C4.out.trans C46.out (by simp))
    have HN8 : Hid (w4.heap.size ≤ a8 ∧ a9 = a8 + 1 ∧ a9 < w6.heap.size ∧ a6 < a8 ∧ a7 < a8) := Lib.hid (by have h1 := HC4.out.size; have h2 := HK9.out.lt; have h3 := HB6.out.lt; have h4 := HB7.out.lt; omega)
    have HB66 := Lib.hid (C6c.out.blk HB6.out (by simp))
    have HB76 := Lib.hid (C6c.out.blk HB7.out (by simp))
    have HO56 : Hid (OwT w2.heap.size ps (.slice po pn pc) w6) := Lib.hid (HO54.out.keep C46.out (by simp))
    have HOL : Hid (∀ k, (Value.slice po pn pc).ownBlock = some k → k < a8) := Lib.hid (fun k hk => by have h1 := (HO54.out.ge k hk).2; have h2 := HN8.out; omega)
    have HPL : Hid (∀ x ∈ ps, x.length ≤ 46) := Lib.hid (fun x hx => by rw [HPS.out] at hx; exact (Jn.split_len _ _ x hx).2)
    clear ha8 ha9 hw6 HO54 HB6 HB7
    obtain ⟨B0, hB0⟩ : ∃ B, B = w6.heap.size := ⟨_, rfl⟩
    have HB0 := Lib.hid hB0
    clear hB0
    go_wp2_with fail
    go_loopw [51] (fun iv wr => ∃ (k : Nat) (o8 : Option Addr) (c8 : Nat) (o9 : Option Addr) (c9 : Nat), k ≤ pn ∧ iv = .int .i64 (k : Int) ∧ Hid (Blk wr a8 [.slice o8 k c8] 26) ∧ Hid (Blk wr a9 [.slice o9 k c9] 26) ∧ Hid (OwT B0 (List.replicate k Jn.zero) (.slice o8 k c8) wr) ∧ Hid (OwT B0 (Jn.sectors Dg.sum fr (ps.take k)) (.slice o9 k c9) wr) ∧ Hid (∀ q, (Value.slice o8 k c8).ownBlock = some q → (Value.slice o9 k c9).ownBlock ≠ some q) ∧ Hid (Chg [a8, a9] w6 wr)) (fun iv _ => pn - (intOf iv).toNat)
    case atStart => exact ⟨0, none, 0, none, 0, Nat.zero_le _, rfl, HK8, HK9, Lib.hid (OwT.nil _ _), Lib.hid (OwT.nil _ _), Lib.hid (by simp [Value.ownBlock]), Lib.hid (Chg.refl _ _)⟩
    case round =>
      obtain ⟨k, o8, c8, o9, c9, hk, rfl, H8, H9, HO8, HO9, HD89, HC⟩ := hrel
      by_cases hlt : k < pn
      · obtain ⟨x, hx⟩ : ∃ x, ps[k]? = some x := ⟨ps[k]'(by rw [← HPN.out]; exact hlt), by simp⟩
        have HX := Lib.hid hx
        have C6r : Hid (Chg [a8, a9] w6 wr) := HC
        obtain ⟨g, hpo, -, hcap, hg1, hg2, hcells⟩ := (HO56.out.keep HC.out (fun q hq => by have h1 := HOL.out q hq; have h2 := HN8.out; simp; omega)).cells (by intro e; rw [e] at hx; simp at hx)
        subst hpo
        have x1 := hcells k x hx
        rw [← HPN.out] at hcap
        have z0 : (0 : Int) ≤ (k : Int) := by omega
        have z1 : (k : Int) < (pn : Int) := by omega
        have z2 : (k : Int) ≤ (pc : Int) := by omega
        clear hx hcells hg1 hg2
        go_upto_region 18 with (fail)
        clear x1
        go_cut [] from 52 to 68 (fun wx => ∃ (o7 : Option Addr) (c7 : Nat), Hid (Blk wx a8 [.slice o7 (k + 1) c7] 26) ∧ Hid (Blk wx a9 [.slice o9 k c9] 26) ∧ Hid (OwT B0 (List.replicate (k + 1) Jn.zero) (.slice o7 (k + 1) c7) wx) ∧ Hid (OwT B0 (Jn.sectors Dg.sum fr (ps.take k)) (.slice o9 k c9) wx) ∧ Hid (∀ q, (Value.slice o7 (k + 1) c7).ownBlock = some q → (Value.slice o9 k c9).ownBlock ≠ some q) ∧ Hid (Chg [a8, a9] w6 wx))
        case first =>
          have HGE : Hid (∀ q, (Value.slice o8 k c8).ownBlock = some q → B0 ≤ q ∧ q < wr.heap.size) := Lib.hid (fun q hq => HO8.out.ge q hq)
          refine wp_region_held_drew (S := fun W' => Chg (a8 :: (Value.slice o8 k c8).ownBlock.toList) wr W') (by kernel_rfl) ((Chg.refl _ _).drew) (fun hHeld => ?_)
          obtain ⟨wd, hwd⟩ : ∃ x, x = wr.drew := ⟨_, rfl⟩
          rw [← hwd] at hHeld ⊢
          have CD : Hid (Chg [] wr wd) := Lib.hid (by rw [hwd]; exact (Chg.refl _ _).drew)
          clear hwd
          refine rd2 0 1 ?oaa ?oba
          case oaa =>
            intro K hK
            have c8 := (CD.out.blk H8.out (by simp)).cell (i := 0) rfl
            go_simp
            refine hK.out _ _ (CD.out.mono (by simp)) (fun hHeld => ?_)
            clear hK K c8
            try simp only [qq]
            refine rd1 1 (fun K hK => ?_)
            go_simp
            refine zero_r (fun wq hwq => ?_)
            have CQ : Hid (Chg [] wr wq) := Lib.hid (CD.out.trans hwq (by simp))
            clear hwq
            refine hK.out _ _ (CQ.out.mono (by simp)) (fun hHeld => ?_)
            clear hK K
            try simp only [qq]
            refine rd1 2 (fun K hK => ?_)
            go_simp
            obtain ⟨wu, hwwu⟩ : ∃ W, W = wq.alloc (.cells #[.string ⟨Jn.zero.toArray⟩] 9) := ⟨_, rfl⟩
            obtain ⟨g0, hg0⟩ : ∃ X, X = wq.heap.size := ⟨_, rfl⟩
            rw [← hwwu, ← hg0]
            have HXS : Hid (Strs wu (.slice (some ⟨g0, 0, none⟩) 1 1) [Jn.zero]) := Lib.hid (by rw [hwwu, hg0]; exact strs_one wq _)
            have CU : Hid (Chg [] wr wu) := Lib.hid (CQ.out.trans (show Chg [] wq wu by rw [hwwu]; exact (Chg.refl _ _).alloc _) (by simp))
            clear hwwu hg0
            refine hK.out _ _ (CU.out.mono (by simp)) (fun hHeld => ?_)
            clear hK K
            try simp only [qq]
            refine rd1 3 (fun K hK => ?_)
            refine step_app_strs rfl (.tmp 56) (.tmp 58) rfl B0 (List.replicate k Jn.zero) (.slice o8 k c8) (by rfl) (HO8.out.keep CU.out (by simp)) [Jn.zero] (by simp) (.slice (some ⟨g0, 0, none⟩) 1 1) (by rfl) HXS.out (k + 1) (by simp) (by omega) (by rw [HB0.out]; have h1 := HC.out.size; have h2 := CU.out.size; omega) (fun g9 cap9 wa h1 h2 h3 h4 => ?_)
            have HOa : Hid (OwT B0 ((List.replicate k Jn.zero) ++ [Jn.zero]) (.slice (some ⟨g9, 0, none⟩) (k + 1) cap9) wa) := Lib.hid h1
            have CAP : Hid (Chg (Value.slice o8 k c8).ownBlock.toList wu wa) := Lib.hid h2
            have HG9 : Hid ((Value.slice o8 k c8).ownBlock = some g9 ∨ wr.heap.size ≤ g9) := Lib.hid (h3.imp id (fun e => by rw [e]; exact CU.out.size))
            clear h1 h2 h3 h4
            have CA : Hid (Chg (Value.slice o8 k c8).ownBlock.toList wr wa) := Lib.hid ((CU.out.mono (by simp)).trans CAP.out (fun q hq => .inl hq))
            have HAa := Lib.hid (CA.out.blk H8.out (by intro hm; rw [Option.mem_toList] at hm; have h1 := (HGE.out _ hm).1; have h2 := HN8.out; rw [HB0.out] at h1; omega))
            have HAo := Lib.hid (CA.out.blk H9.out (by intro hm; rw [Option.mem_toList] at hm; have h1 := (HGE.out _ hm).1; have h2 := HN8.out; rw [HB0.out] at h1; omega))
            have HOo : Hid (OwT B0 (Jn.sectors Dg.sum fr (ps.take k)) (.slice o9 k c9) wa) := Lib.hid (HO9.out.keep CA.out (fun q hq hm => by rw [Option.mem_toList] at hm; exact HD89.out q hm hq))
            clear CAP
            refine hK.out _ _ (CA.out.mono (fun q hq => List.mem_cons_of_mem _ hq)) (fun hHeld => ?_)
            clear hK K
            try simp only [qq]
            refine rd1 4 (fun K hK => ?_)
            have y1 := HAa.out.cell (i := 0) rfl
            have y2 := HAa.out.free 0
            go_simp
            obtain ⟨wz, hwz⟩ : ∃ W, W = wa.setCell ⟨a8, 0, none⟩ (.slice (some ⟨g9, 0, none⟩) (k + 1) cap9) := ⟨_, rfl⟩
            rw [← hwz]
            have CZ : Hid (Chg [a8] wa wz) := Lib.hid (by rw [hwz]; exact (Chg.refl [a8] wa).setCell _ _ (.inl (by simp)))
            have HZa : Hid (Blk wz a8 [.slice (some ⟨g9, 0, none⟩) (k + 1) cap9] 26) := Lib.hid (by rw [hwz]; exact HAa.out.set 0 _)
            have HZo := Lib.hid (CZ.out.blk HAo.out (by have := HN8.out; simp; omega))
            have HZl : Hid (OwT B0 ((List.replicate k Jn.zero) ++ [Jn.zero]) (.slice (some ⟨g9, 0, none⟩) (k + 1) cap9) wz) := Lib.hid (HOa.out.keep CZ.out (fun q hq => by have h1 := (HOa.out.ge q hq).1; have h2 := HN8.out; rw [HB0.out] at h1; simp; omega))
            have HZp : Hid (OwT B0 (Jn.sectors Dg.sum fr (ps.take k)) (.slice o9 k c9) wz) := Lib.hid (HOo.out.keep CZ.out (fun q hq => by have h1 := (HOo.out.ge q hq).1; have h2 := HN8.out; rw [HB0.out] at h1; simp; omega))
            have HZd : Hid (∀ q, (Value.slice o9 k c9).ownBlock = some q → q ≠ g9) := Lib.hid (fun q hq e => HG9.out.elim (fun h1 => HD89.out _ h1 (by rw [← e]; exact hq)) (fun h1 => by have := (HO9.out.ge _ hq).2; omega))
            have CZ0 : Hid (Chg (a8 :: (Value.slice o8 k c8).ownBlock.toList) wr wz) := Lib.hid ((CA.out.mono (fun q hq => List.mem_cons_of_mem _ hq)).trans CZ.out (fun q hq => .inl (by simp only [List.mem_singleton] at hq; rw [hq]; exact List.mem_cons_self ..)))
            have CZ6 : Hid (Chg [a8, a9] w6 wz) := Lib.hid (HC.out.trans CZ0.out (fun q hq => by rcases List.mem_cons.1 hq with rfl | hq; exact .inl (by simp); rw [Option.mem_toList] at hq; have h1 := (HGE.out q hq).1; rw [HB0.out] at h1; exact .inr h1))
            clear hwz y1 y2
            refine hK.out _ _ CZ0.out (fun hHeld => ?_)
            clear hK K
            try simp only [qq]
            refine wpAnyH_done (by kernel_rfl) ?_ _
            try simp only [qq]
            clear hHeld
            go_wp2_with fail
            go_meet
            exact ⟨some ⟨g9, 0, none⟩, cap9, HZa, HZo, Lib.hid (by rw [List.replicate_succ']; exact HZl.out), HZp, Lib.hid (fun q hq e => HZd.out q e (by simpa [Value.ownBlock] using hq.symm)), CZ6⟩
          case oba =>
            intro K hK
            go_simp
            refine zero_r (fun wq hwq => ?_)
            have CQ : Hid (Chg [] wr wq) := Lib.hid (CD.out.trans hwq (by simp))
            clear hwq
            refine hK.out _ _ (CQ.out.mono (by simp)) (fun hHeld => ?_)
            clear hK K
            try simp only [qq]
            refine rd2 0 2 ?oca ?oda
            case oca =>
              intro K hK
              have c8 := (CQ.out.blk H8.out (by simp)).cell (i := 0) rfl
              go_simp
              refine hK.out _ _ (CQ.out.mono (by simp)) (fun hHeld => ?_)
              clear hK K c8
              try simp only [qq]
              refine rd1 2 (fun K hK => ?_)
              go_simp
              obtain ⟨wu, hwwu⟩ : ∃ W, W = wq.alloc (.cells #[.string ⟨Jn.zero.toArray⟩] 9) := ⟨_, rfl⟩
              obtain ⟨g0, hg0⟩ : ∃ X, X = wq.heap.size := ⟨_, rfl⟩
              rw [← hwwu, ← hg0]
              have HXS : Hid (Strs wu (.slice (some ⟨g0, 0, none⟩) 1 1) [Jn.zero]) := Lib.hid (by rw [hwwu, hg0]; exact strs_one wq _)
              have CU : Hid (Chg [] wr wu) := Lib.hid (CQ.out.trans (show Chg [] wq wu by rw [hwwu]; exact (Chg.refl _ _).alloc _) (by simp))
              clear hwwu hg0
              refine hK.out _ _ (CU.out.mono (by simp)) (fun hHeld => ?_)
              clear hK K
              try simp only [qq]
              refine rd1 3 (fun K hK => ?_)
              refine step_app_strs rfl (.tmp 56) (.tmp 58) rfl B0 (List.replicate k Jn.zero) (.slice o8 k c8) (by rfl) (HO8.out.keep CU.out (by simp)) [Jn.zero] (by simp) (.slice (some ⟨g0, 0, none⟩) 1 1) (by rfl) HXS.out (k + 1) (by simp) (by omega) (by rw [HB0.out]; have h1 := HC.out.size; have h2 := CU.out.size; omega) (fun g9 cap9 wa h1 h2 h3 h4 => ?_)
              have HOa : Hid (OwT B0 ((List.replicate k Jn.zero) ++ [Jn.zero]) (.slice (some ⟨g9, 0, none⟩) (k + 1) cap9) wa) := Lib.hid h1
              have CAP : Hid (Chg (Value.slice o8 k c8).ownBlock.toList wu wa) := Lib.hid h2
              have HG9 : Hid ((Value.slice o8 k c8).ownBlock = some g9 ∨ wr.heap.size ≤ g9) := Lib.hid (h3.imp id (fun e => by rw [e]; exact CU.out.size))
              clear h1 h2 h3 h4
              have CA : Hid (Chg (Value.slice o8 k c8).ownBlock.toList wr wa) := Lib.hid ((CU.out.mono (by simp)).trans CAP.out (fun q hq => .inl hq))
              have HAa := Lib.hid (CA.out.blk H8.out (by intro hm; rw [Option.mem_toList] at hm; have h1 := (HGE.out _ hm).1; have h2 := HN8.out; rw [HB0.out] at h1; omega))
              have HAo := Lib.hid (CA.out.blk H9.out (by intro hm; rw [Option.mem_toList] at hm; have h1 := (HGE.out _ hm).1; have h2 := HN8.out; rw [HB0.out] at h1; omega))
              have HOo : Hid (OwT B0 (Jn.sectors Dg.sum fr (ps.take k)) (.slice o9 k c9) wa) := Lib.hid (HO9.out.keep CA.out (fun q hq hm => by rw [Option.mem_toList] at hm; exact HD89.out q hm hq))
              clear CAP
              refine hK.out _ _ (CA.out.mono (fun q hq => List.mem_cons_of_mem _ hq)) (fun hHeld => ?_)
              clear hK K
              try simp only [qq]
              refine rd1 4 (fun K hK => ?_)
              have y1 := HAa.out.cell (i := 0) rfl
              have y2 := HAa.out.free 0
              go_simp
              obtain ⟨wz, hwz⟩ : ∃ W, W = wa.setCell ⟨a8, 0, none⟩ (.slice (some ⟨g9, 0, none⟩) (k + 1) cap9) := ⟨_, rfl⟩
              rw [← hwz]
              have CZ : Hid (Chg [a8] wa wz) := Lib.hid (by rw [hwz]; exact (Chg.refl [a8] wa).setCell _ _ (.inl (by simp)))
              have HZa : Hid (Blk wz a8 [.slice (some ⟨g9, 0, none⟩) (k + 1) cap9] 26) := Lib.hid (by rw [hwz]; exact HAa.out.set 0 _)
              have HZo := Lib.hid (CZ.out.blk HAo.out (by have := HN8.out; simp; omega))
              have HZl : Hid (OwT B0 ((List.replicate k Jn.zero) ++ [Jn.zero]) (.slice (some ⟨g9, 0, none⟩) (k + 1) cap9) wz) := Lib.hid (HOa.out.keep CZ.out (fun q hq => by have h1 := (HOa.out.ge q hq).1; have h2 := HN8.out; rw [HB0.out] at h1; simp; omega))
              have HZp : Hid (OwT B0 (Jn.sectors Dg.sum fr (ps.take k)) (.slice o9 k c9) wz) := Lib.hid (HOo.out.keep CZ.out (fun q hq => by have h1 := (HOo.out.ge q hq).1; have h2 := HN8.out; rw [HB0.out] at h1; simp; omega))
              have HZd : Hid (∀ q, (Value.slice o9 k c9).ownBlock = some q → q ≠ g9) := Lib.hid (fun q hq e => HG9.out.elim (fun h1 => HD89.out _ h1 (by rw [← e]; exact hq)) (fun h1 => by have := (HO9.out.ge _ hq).2; omega))
              have CZ0 : Hid (Chg (a8 :: (Value.slice o8 k c8).ownBlock.toList) wr wz) := Lib.hid ((CA.out.mono (fun q hq => List.mem_cons_of_mem _ hq)).trans CZ.out (fun q hq => .inl (by simp only [List.mem_singleton] at hq; rw [hq]; exact List.mem_cons_self ..)))
              have CZ6 : Hid (Chg [a8, a9] w6 wz) := Lib.hid (HC.out.trans CZ0.out (fun q hq => by rcases List.mem_cons.1 hq with rfl | hq; exact .inl (by simp); rw [Option.mem_toList] at hq; have h1 := (HGE.out q hq).1; rw [HB0.out] at h1; exact .inr h1))
              clear hwz y1 y2
              refine hK.out _ _ CZ0.out (fun hHeld => ?_)
              clear hK K
              try simp only [qq]
              refine wpAnyH_done (by kernel_rfl) ?_ _
              try simp only [qq]
              clear hHeld
              go_wp2_with fail
              go_meet
              exact ⟨some ⟨g9, 0, none⟩, cap9, HZa, HZo, Lib.hid (by rw [List.replicate_succ']; exact HZl.out), HZp, Lib.hid (fun q hq e => HZd.out q e (by simpa [Value.ownBlock] using hq.symm)), CZ6⟩
            case oda =>
              intro K hK
              go_simp
              obtain ⟨wu, hwwu⟩ : ∃ W, W = wq.alloc (.cells #[.string ⟨Jn.zero.toArray⟩] 9) := ⟨_, rfl⟩
              obtain ⟨g0, hg0⟩ : ∃ X, X = wq.heap.size := ⟨_, rfl⟩
              rw [← hwwu, ← hg0]
              have HXS : Hid (Strs wu (.slice (some ⟨g0, 0, none⟩) 1 1) [Jn.zero]) := Lib.hid (by rw [hwwu, hg0]; exact strs_one wq _)
              have CU : Hid (Chg [] wr wu) := Lib.hid (CQ.out.trans (show Chg [] wq wu by rw [hwwu]; exact (Chg.refl _ _).alloc _) (by simp))
              clear hwwu hg0
              refine hK.out _ _ (CU.out.mono (by simp)) (fun hHeld => ?_)
              clear hK K
              try simp only [qq]
              refine rd1 0 (fun K hK => ?_)
              have c8 := (CU.out.blk H8.out (by simp)).cell (i := 0) rfl
              go_simp
              refine hK.out _ _ (CU.out.mono (by simp)) (fun hHeld => ?_)
              clear hK K c8
              try simp only [qq]
              refine rd1 3 (fun K hK => ?_)
              refine step_app_strs rfl (.tmp 56) (.tmp 58) rfl B0 (List.replicate k Jn.zero) (.slice o8 k c8) (by rfl) (HO8.out.keep CU.out (by simp)) [Jn.zero] (by simp) (.slice (some ⟨g0, 0, none⟩) 1 1) (by rfl) HXS.out (k + 1) (by simp) (by omega) (by rw [HB0.out]; have h1 := HC.out.size; have h2 := CU.out.size; omega) (fun g9 cap9 wa h1 h2 h3 h4 => ?_)
              have HOa : Hid (OwT B0 ((List.replicate k Jn.zero) ++ [Jn.zero]) (.slice (some ⟨g9, 0, none⟩) (k + 1) cap9) wa) := Lib.hid h1
              have CAP : Hid (Chg (Value.slice o8 k c8).ownBlock.toList wu wa) := Lib.hid h2
              have HG9 : Hid ((Value.slice o8 k c8).ownBlock = some g9 ∨ wr.heap.size ≤ g9) := Lib.hid (h3.imp id (fun e => by rw [e]; exact CU.out.size))
              clear h1 h2 h3 h4
              have CA : Hid (Chg (Value.slice o8 k c8).ownBlock.toList wr wa) := Lib.hid ((CU.out.mono (by simp)).trans CAP.out (fun q hq => .inl hq))
              have HAa := Lib.hid (CA.out.blk H8.out (by intro hm; rw [Option.mem_toList] at hm; have h1 := (HGE.out _ hm).1; have h2 := HN8.out; rw [HB0.out] at h1; omega))
              have HAo := Lib.hid (CA.out.blk H9.out (by intro hm; rw [Option.mem_toList] at hm; have h1 := (HGE.out _ hm).1; have h2 := HN8.out; rw [HB0.out] at h1; omega))
              have HOo : Hid (OwT B0 (Jn.sectors Dg.sum fr (ps.take k)) (.slice o9 k c9) wa) := Lib.hid (HO9.out.keep CA.out (fun q hq hm => by rw [Option.mem_toList] at hm; exact HD89.out q hm hq))
              clear CAP
              refine hK.out _ _ (CA.out.mono (fun q hq => List.mem_cons_of_mem _ hq)) (fun hHeld => ?_)
              clear hK K
              try simp only [qq]
              refine rd1 4 (fun K hK => ?_)
              have y1 := HAa.out.cell (i := 0) rfl
              have y2 := HAa.out.free 0
              go_simp
              obtain ⟨wz, hwz⟩ : ∃ W, W = wa.setCell ⟨a8, 0, none⟩ (.slice (some ⟨g9, 0, none⟩) (k + 1) cap9) := ⟨_, rfl⟩
              rw [← hwz]
              have CZ : Hid (Chg [a8] wa wz) := Lib.hid (by rw [hwz]; exact (Chg.refl [a8] wa).setCell _ _ (.inl (by simp)))
              have HZa : Hid (Blk wz a8 [.slice (some ⟨g9, 0, none⟩) (k + 1) cap9] 26) := Lib.hid (by rw [hwz]; exact HAa.out.set 0 _)
              have HZo := Lib.hid (CZ.out.blk HAo.out (by have := HN8.out; simp; omega))
              have HZl : Hid (OwT B0 ((List.replicate k Jn.zero) ++ [Jn.zero]) (.slice (some ⟨g9, 0, none⟩) (k + 1) cap9) wz) := Lib.hid (HOa.out.keep CZ.out (fun q hq => by have h1 := (HOa.out.ge q hq).1; have h2 := HN8.out; rw [HB0.out] at h1; simp; omega))
              have HZp : Hid (OwT B0 (Jn.sectors Dg.sum fr (ps.take k)) (.slice o9 k c9) wz) := Lib.hid (HOo.out.keep CZ.out (fun q hq => by have h1 := (HOo.out.ge q hq).1; have h2 := HN8.out; rw [HB0.out] at h1; simp; omega))
              have HZd : Hid (∀ q, (Value.slice o9 k c9).ownBlock = some q → q ≠ g9) := Lib.hid (fun q hq e => HG9.out.elim (fun h1 => HD89.out _ h1 (by rw [← e]; exact hq)) (fun h1 => by have := (HO9.out.ge _ hq).2; omega))
              have CZ0 : Hid (Chg (a8 :: (Value.slice o8 k c8).ownBlock.toList) wr wz) := Lib.hid ((CA.out.mono (fun q hq => List.mem_cons_of_mem _ hq)).trans CZ.out (fun q hq => .inl (by simp only [List.mem_singleton] at hq; rw [hq]; exact List.mem_cons_self ..)))
              have CZ6 : Hid (Chg [a8, a9] w6 wz) := Lib.hid (HC.out.trans CZ0.out (fun q hq => by rcases List.mem_cons.1 hq with rfl | hq; exact .inl (by simp); rw [Option.mem_toList] at hq; have h1 := (HGE.out q hq).1; rw [HB0.out] at h1; exact .inr h1))
              clear hwz y1 y2
              refine hK.out _ _ CZ0.out (fun hHeld => ?_)
              clear hK K
              try simp only [qq]
              refine wpAnyH_done (by kernel_rfl) ?_ _
              try simp only [qq]
              clear hHeld
              go_wp2_with fail
              go_meet
              exact ⟨some ⟨g9, 0, none⟩, cap9, HZa, HZo, Lib.hid (by rw [List.replicate_succ']; exact HZl.out), HZp, Lib.hid (fun q hq e => HZd.out q e (by simpa [Value.ownBlock] using hq.symm)), CZ6⟩
        case rest =>
          obtain ⟨o7, c7, H7, H9', HO7, HO9', HD79, HC7⟩ := hcut
          clear HC H8 H9 HO8 HO9 HD89
          obtain ⟨fk, hfk⟩ : ∃ f, f = fr + k := ⟨_, rfl⟩
          have n4 : IntKind.i64.wrap ((fr : Int) + (k : Int)) = (fk : Int) := by rw [IntWalk.i64_in _ (by have := HFR.out; omega)]; omega
          have HFK : Hid (fk = fr + k ∧ fr + k ≤ 10000) := Lib.hid ⟨hfk, by have := HFR.out; omega⟩
          obtain ⟨y, hy⟩ : ∃ y, y = Jn.sector Dg.sum fk x := ⟨_, rfl⟩
          have HY := Lib.hid hy
          have HXL : Hid (x.length ≤ 46) := Lib.hid (HPL.out x (List.mem_of_getElem? HX.out))
          have HTK : Hid (ps.take (k + 1) = ps.take k ++ [x]) := Lib.hid (by rw [List.take_add_one, HX.out]; rfl)
          have CWC : Hid (Chg [] w wc) := Lib.hid (C6.out.trans HC7.out (fun q hq => .inr (by have h1 := HN8.out; have h2 := C4.out.size; simp only [List.mem_cons, List.not_mem_nil, or_false] at hq; omega)))
          have g6 := (HC7.out.blk HB66.out (by have := HN8.out; simp; omega)).cell (i := 0) rfl
          clear hfk hy
          have HN69 : Hid (a6 ∉ a9 :: (Value.slice o9 k c9).ownBlock.toList) := Lib.hid (fun hm => (List.mem_cons.1 hm).elim (fun h1 => by have := HN8.out; omega) (fun h1 => by rw [Option.mem_toList] at h1; have h2 := (HO9'.out.ge _ h1).1; have h3 := HN8.out; rw [HB0.out] at h2; omega))
          go_upto_region 19 with (fail)
          have HGE : Hid (∀ q, (Value.slice o9 k c9).ownBlock = some q → B0 ≤ q ∧ q < wc.heap.size) := Lib.hid (fun q hq => HO9'.out.ge q hq)
          refine wp_region_held_drew (S := fun W' => Chg (a9 :: (Value.slice o9 k c9).ownBlock.toList) wc W') (by kernel_rfl) ((Chg.refl _ _).drew) (fun hHeld => ?_)
          obtain ⟨wd, hwd⟩ : ∃ x, x = wc.drew := ⟨_, rfl⟩
          rw [← hwd] at hHeld ⊢
          have CD : Hid (Chg [] wc wd) := Lib.hid (by rw [hwd]; exact (Chg.refl _ _).drew)
          clear hwd
          refine tkd 1 ?vk1 ?hyk1 ?rsk1
          case hyk1 => (intro w9 hSw; have t0 := cell_quiet hSw g6 HN69.out; go_simp; try with_reducible rfl)
          try simp only [qq]
          refine tkd 2 ?vk2 ?hyk2 ?rsk2
          case hyk2 => (intro w9 hSw; go_simp; try with_reducible rfl)
          try simp only [qq]
          refine tkd 3 ?vk3 ?hyk3 ?rsk3
          case hyk3 => (intro w9 hSw; go_simp; try with_reducible rfl)
          try simp only [qq]
          refine tkd 4 ?vk4 ?hyk4 ?rsk4
          case hyk4 => (intro w9 hSw; go_simp; try with_reducible rfl)
          try simp only [qq]
          refine rd2 0 5 ?oap ?obp
          case oap =>
            intro K hK
            have c8 := (CD.out.blk H9'.out (by simp)).cell (i := 0) rfl
            go_simp
            refine hK.out _ _ (CD.out.mono (by simp)) (fun hHeld => ?_)
            clear hK K c8
            try simp only [qq]
            refine rd1 5 (fun K hK => ?_)
            go_simp
            refine sector_r (Lib.hid (HL.out.quiet (CWC.out.trans CD.out (by simp)))) fk x (by have := HFK.out; omega) HXL.out (fun wq hwq => ?_)
            rw [← HY.out]
            have CQ : Hid (Chg [] wc wq) := Lib.hid (CD.out.trans hwq (by simp))
            clear hwq
            refine hK.out _ _ (CQ.out.mono (by simp)) (fun hHeld => ?_)
            clear hK K
            try simp only [qq]
            refine rd1 6 (fun K hK => ?_)
            go_simp
            obtain ⟨wu, hwwu⟩ : ∃ W, W = wq.alloc (.cells #[.string ⟨y.toArray⟩] 9) := ⟨_, rfl⟩
            obtain ⟨g0, hg0⟩ : ∃ X, X = wq.heap.size := ⟨_, rfl⟩
            rw [← hwwu, ← hg0]
            have HXS : Hid (Strs wu (.slice (some ⟨g0, 0, none⟩) 1 1) [y]) := Lib.hid (by rw [hwwu, hg0]; exact strs_one wq _)
            have CU : Hid (Chg [] wc wu) := Lib.hid (CQ.out.trans (show Chg [] wq wu by rw [hwwu]; exact (Chg.refl _ _).alloc _) (by simp))
            clear hwwu hg0
            refine hK.out _ _ (CU.out.mono (by simp)) (fun hHeld => ?_)
            clear hK K
            try simp only [qq]
            refine rd1 7 (fun K hK => ?_)
            refine step_app_strs rfl (.tmp 60) (.tmp 66) rfl B0 (Jn.sectors Dg.sum fr (ps.take k)) (.slice o9 k c9) (by rfl) (HO9'.out.keep CU.out (by simp)) [y] (by simp) (.slice (some ⟨g0, 0, none⟩) 1 1) (by rfl) HXS.out (k + 1) (by rw [sectors_len44, List.length_take, List.length_singleton]; have := HPN.out; omega) (by omega) (by rw [HB0.out]; have h1 := HC7.out.size; have h2 := CU.out.size; omega) (fun g9 cap9 wa h1 h2 h3 h4 => ?_)
            have HOa : Hid (OwT B0 ((Jn.sectors Dg.sum fr (ps.take k)) ++ [y]) (.slice (some ⟨g9, 0, none⟩) (k + 1) cap9) wa) := Lib.hid h1
            have CAP : Hid (Chg (Value.slice o9 k c9).ownBlock.toList wu wa) := Lib.hid h2
            have HG9 : Hid ((Value.slice o9 k c9).ownBlock = some g9 ∨ wc.heap.size ≤ g9) := Lib.hid (h3.imp id (fun e => by rw [e]; exact CU.out.size))
            clear h1 h2 h3 h4
            have CA : Hid (Chg (Value.slice o9 k c9).ownBlock.toList wc wa) := Lib.hid ((CU.out.mono (by simp)).trans CAP.out (fun q hq => .inl hq))
            have HAa := Lib.hid (CA.out.blk H9'.out (by intro hm; rw [Option.mem_toList] at hm; have h1 := (HGE.out _ hm).1; have h2 := HN8.out; rw [HB0.out] at h1; omega))
            have HAo := Lib.hid (CA.out.blk H7.out (by intro hm; rw [Option.mem_toList] at hm; have h1 := (HGE.out _ hm).1; have h2 := HN8.out; rw [HB0.out] at h1; omega))
            have HOo : Hid (OwT B0 (List.replicate (k + 1) Jn.zero) (.slice o7 (k + 1) c7) wa) := Lib.hid (HO7.out.keep CA.out (fun q hq hm => by rw [Option.mem_toList] at hm; exact HD79.out q hq hm))
            clear CAP
            refine hK.out _ _ (CA.out.mono (fun q hq => List.mem_cons_of_mem _ hq)) (fun hHeld => ?_)
            clear hK K
            try simp only [qq]
            refine rd1 8 (fun K hK => ?_)
            have y1 := HAa.out.cell (i := 0) rfl
            have y2 := HAa.out.free 0
            go_simp
            obtain ⟨wz, hwz⟩ : ∃ W, W = wa.setCell ⟨a9, 0, none⟩ (.slice (some ⟨g9, 0, none⟩) (k + 1) cap9) := ⟨_, rfl⟩
            rw [← hwz]
            have CZ : Hid (Chg [a9] wa wz) := Lib.hid (by rw [hwz]; exact (Chg.refl [a9] wa).setCell _ _ (.inl (by simp)))
            have HZa : Hid (Blk wz a9 [.slice (some ⟨g9, 0, none⟩) (k + 1) cap9] 26) := Lib.hid (by rw [hwz]; exact HAa.out.set 0 _)
            have HZo := Lib.hid (CZ.out.blk HAo.out (by have := HN8.out; simp; omega))
            have HZl : Hid (OwT B0 ((Jn.sectors Dg.sum fr (ps.take k)) ++ [y]) (.slice (some ⟨g9, 0, none⟩) (k + 1) cap9) wz) := Lib.hid (HOa.out.keep CZ.out (fun q hq => by have h1 := (HOa.out.ge q hq).1; have h2 := HN8.out; rw [HB0.out] at h1; simp; omega))
            have HZp : Hid (OwT B0 (List.replicate (k + 1) Jn.zero) (.slice o7 (k + 1) c7) wz) := Lib.hid (HOo.out.keep CZ.out (fun q hq => by have h1 := (HOo.out.ge q hq).1; have h2 := HN8.out; rw [HB0.out] at h1; simp; omega))
            have HZd : Hid (∀ q, (Value.slice o7 (k + 1) c7).ownBlock = some q → q ≠ g9) := Lib.hid (fun q hq e => HG9.out.elim (fun h1 => HD79.out q hq (by rw [e]; exact h1)) (fun h1 => by have := (HO7.out.ge _ hq).2; omega))
            have CZ0 : Hid (Chg (a9 :: (Value.slice o9 k c9).ownBlock.toList) wc wz) := Lib.hid ((CA.out.mono (fun q hq => List.mem_cons_of_mem _ hq)).trans CZ.out (fun q hq => .inl (by simp only [List.mem_singleton] at hq; rw [hq]; exact List.mem_cons_self ..)))
            have CZ6 : Hid (Chg [a8, a9] w6 wz) := Lib.hid (HC7.out.trans CZ0.out (fun q hq => by rcases List.mem_cons.1 hq with rfl | hq; exact .inl (by simp); rw [Option.mem_toList] at hq; have h1 := (HGE.out q hq).1; rw [HB0.out] at h1; exact .inr h1))
            clear hwz y1 y2
            refine hK.out _ _ CZ0.out (fun hHeld => ?_)
            clear hK K
            try simp only [qq]
            refine wpAnyH_done (by kernel_rfl) ?_ _
            try simp only [qq]
            clear hHeld
            go_wp2_with fail
            go_roundw
            case rel => exact ⟨k + 1, o7, c7, some ⟨g9, 0, none⟩, cap9, by omega, by go_num, HZo, HZa, HZp, Lib.hid (by rw [HTK.out, sectors_snoc44, List.length_take, show min k ps.length = k by have := HPN.out; omega, ← HFK.out.1, ← HY.out]; exact HZl.out), Lib.hid (fun q hq e => HZd.out q hq (by simpa [Value.ownBlock] using e.symm)), CZ6⟩
            case measure => simp [intOf]; omega
          case obp =>
            intro K hK
            go_simp
            refine sector_r (Lib.hid (HL.out.quiet (CWC.out.trans CD.out (by simp)))) fk x (by have := HFK.out; omega) HXL.out (fun wq hwq => ?_)
            rw [← HY.out]
            have CQ : Hid (Chg [] wc wq) := Lib.hid (CD.out.trans hwq (by simp))
            clear hwq
            refine hK.out _ _ (CQ.out.mono (by simp)) (fun hHeld => ?_)
            clear hK K
            try simp only [qq]
            refine rd2 0 6 ?ocp ?odp
            case ocp =>
              intro K hK
              have c8 := (CQ.out.blk H9'.out (by simp)).cell (i := 0) rfl
              go_simp
              refine hK.out _ _ (CQ.out.mono (by simp)) (fun hHeld => ?_)
              clear hK K c8
              try simp only [qq]
              refine rd1 6 (fun K hK => ?_)
              go_simp
              obtain ⟨wu, hwwu⟩ : ∃ W, W = wq.alloc (.cells #[.string ⟨y.toArray⟩] 9) := ⟨_, rfl⟩
              obtain ⟨g0, hg0⟩ : ∃ X, X = wq.heap.size := ⟨_, rfl⟩
              rw [← hwwu, ← hg0]
              have HXS : Hid (Strs wu (.slice (some ⟨g0, 0, none⟩) 1 1) [y]) := Lib.hid (by rw [hwwu, hg0]; exact strs_one wq _)
              have CU : Hid (Chg [] wc wu) := Lib.hid (CQ.out.trans (show Chg [] wq wu by rw [hwwu]; exact (Chg.refl _ _).alloc _) (by simp))
              clear hwwu hg0
              refine hK.out _ _ (CU.out.mono (by simp)) (fun hHeld => ?_)
              clear hK K
              try simp only [qq]
              refine rd1 7 (fun K hK => ?_)
              refine step_app_strs rfl (.tmp 60) (.tmp 66) rfl B0 (Jn.sectors Dg.sum fr (ps.take k)) (.slice o9 k c9) (by rfl) (HO9'.out.keep CU.out (by simp)) [y] (by simp) (.slice (some ⟨g0, 0, none⟩) 1 1) (by rfl) HXS.out (k + 1) (by rw [sectors_len44, List.length_take, List.length_singleton]; have := HPN.out; omega) (by omega) (by rw [HB0.out]; have h1 := HC7.out.size; have h2 := CU.out.size; omega) (fun g9 cap9 wa h1 h2 h3 h4 => ?_)
              have HOa : Hid (OwT B0 ((Jn.sectors Dg.sum fr (ps.take k)) ++ [y]) (.slice (some ⟨g9, 0, none⟩) (k + 1) cap9) wa) := Lib.hid h1
              have CAP : Hid (Chg (Value.slice o9 k c9).ownBlock.toList wu wa) := Lib.hid h2
              have HG9 : Hid ((Value.slice o9 k c9).ownBlock = some g9 ∨ wc.heap.size ≤ g9) := Lib.hid (h3.imp id (fun e => by rw [e]; exact CU.out.size))
              clear h1 h2 h3 h4
              have CA : Hid (Chg (Value.slice o9 k c9).ownBlock.toList wc wa) := Lib.hid ((CU.out.mono (by simp)).trans CAP.out (fun q hq => .inl hq))
              have HAa := Lib.hid (CA.out.blk H9'.out (by intro hm; rw [Option.mem_toList] at hm; have h1 := (HGE.out _ hm).1; have h2 := HN8.out; rw [HB0.out] at h1; omega))
              have HAo := Lib.hid (CA.out.blk H7.out (by intro hm; rw [Option.mem_toList] at hm; have h1 := (HGE.out _ hm).1; have h2 := HN8.out; rw [HB0.out] at h1; omega))
              have HOo : Hid (OwT B0 (List.replicate (k + 1) Jn.zero) (.slice o7 (k + 1) c7) wa) := Lib.hid (HO7.out.keep CA.out (fun q hq hm => by rw [Option.mem_toList] at hm; exact HD79.out q hq hm))
              clear CAP
              refine hK.out _ _ (CA.out.mono (fun q hq => List.mem_cons_of_mem _ hq)) (fun hHeld => ?_)
              clear hK K
              try simp only [qq]
              refine rd1 8 (fun K hK => ?_)
              have y1 := HAa.out.cell (i := 0) rfl
              have y2 := HAa.out.free 0
              go_simp
              obtain ⟨wz, hwz⟩ : ∃ W, W = wa.setCell ⟨a9, 0, none⟩ (.slice (some ⟨g9, 0, none⟩) (k + 1) cap9) := ⟨_, rfl⟩
              rw [← hwz]
              have CZ : Hid (Chg [a9] wa wz) := Lib.hid (by rw [hwz]; exact (Chg.refl [a9] wa).setCell _ _ (.inl (by simp)))
              have HZa : Hid (Blk wz a9 [.slice (some ⟨g9, 0, none⟩) (k + 1) cap9] 26) := Lib.hid (by rw [hwz]; exact HAa.out.set 0 _)
              have HZo := Lib.hid (CZ.out.blk HAo.out (by have := HN8.out; simp; omega))
              have HZl : Hid (OwT B0 ((Jn.sectors Dg.sum fr (ps.take k)) ++ [y]) (.slice (some ⟨g9, 0, none⟩) (k + 1) cap9) wz) := Lib.hid (HOa.out.keep CZ.out (fun q hq => by have h1 := (HOa.out.ge q hq).1; have h2 := HN8.out; rw [HB0.out] at h1; simp; omega))
              have HZp : Hid (OwT B0 (List.replicate (k + 1) Jn.zero) (.slice o7 (k + 1) c7) wz) := Lib.hid (HOo.out.keep CZ.out (fun q hq => by have h1 := (HOo.out.ge q hq).1; have h2 := HN8.out; rw [HB0.out] at h1; simp; omega))
              have HZd : Hid (∀ q, (Value.slice o7 (k + 1) c7).ownBlock = some q → q ≠ g9) := Lib.hid (fun q hq e => HG9.out.elim (fun h1 => HD79.out q hq (by rw [e]; exact h1)) (fun h1 => by have := (HO7.out.ge _ hq).2; omega))
              have CZ0 : Hid (Chg (a9 :: (Value.slice o9 k c9).ownBlock.toList) wc wz) := Lib.hid ((CA.out.mono (fun q hq => List.mem_cons_of_mem _ hq)).trans CZ.out (fun q hq => .inl (by simp only [List.mem_singleton] at hq; rw [hq]; exact List.mem_cons_self ..)))
              have CZ6 : Hid (Chg [a8, a9] w6 wz) := Lib.hid (HC7.out.trans CZ0.out (fun q hq => by rcases List.mem_cons.1 hq with rfl | hq; exact .inl (by simp); rw [Option.mem_toList] at hq; have h1 := (HGE.out q hq).1; rw [HB0.out] at h1; exact .inr h1))
              clear hwz y1 y2
              refine hK.out _ _ CZ0.out (fun hHeld => ?_)
              clear hK K
              try simp only [qq]
              refine wpAnyH_done (by kernel_rfl) ?_ _
              try simp only [qq]
              clear hHeld
              go_wp2_with fail
              go_roundw
              case rel => exact ⟨k + 1, o7, c7, some ⟨g9, 0, none⟩, cap9, by omega, by go_num, HZo, HZa, HZp, Lib.hid (by rw [HTK.out, sectors_snoc44, List.length_take, show min k ps.length = k by have := HPN.out; omega, ← HFK.out.1, ← HY.out]; exact HZl.out), Lib.hid (fun q hq e => HZd.out q hq (by simpa [Value.ownBlock] using e.symm)), CZ6⟩
              case measure => simp [intOf]; omega
            case odp =>
              intro K hK
              go_simp
              obtain ⟨wu, hwwu⟩ : ∃ W, W = wq.alloc (.cells #[.string ⟨y.toArray⟩] 9) := ⟨_, rfl⟩
              obtain ⟨g0, hg0⟩ : ∃ X, X = wq.heap.size := ⟨_, rfl⟩
              rw [← hwwu, ← hg0]
              have HXS : Hid (Strs wu (.slice (some ⟨g0, 0, none⟩) 1 1) [y]) := Lib.hid (by rw [hwwu, hg0]; exact strs_one wq _)
              have CU : Hid (Chg [] wc wu) := Lib.hid (CQ.out.trans (show Chg [] wq wu by rw [hwwu]; exact (Chg.refl _ _).alloc _) (by simp))
              clear hwwu hg0
              refine hK.out _ _ (CU.out.mono (by simp)) (fun hHeld => ?_)
              clear hK K
              try simp only [qq]
              refine rd1 0 (fun K hK => ?_)
              have c8 := (CU.out.blk H9'.out (by simp)).cell (i := 0) rfl
              go_simp
              refine hK.out _ _ (CU.out.mono (by simp)) (fun hHeld => ?_)
              clear hK K c8
              try simp only [qq]
              refine rd1 7 (fun K hK => ?_)
              refine step_app_strs rfl (.tmp 60) (.tmp 66) rfl B0 (Jn.sectors Dg.sum fr (ps.take k)) (.slice o9 k c9) (by rfl) (HO9'.out.keep CU.out (by simp)) [y] (by simp) (.slice (some ⟨g0, 0, none⟩) 1 1) (by rfl) HXS.out (k + 1) (by rw [sectors_len44, List.length_take, List.length_singleton]; have := HPN.out; omega) (by omega) (by rw [HB0.out]; have h1 := HC7.out.size; have h2 := CU.out.size; omega) (fun g9 cap9 wa h1 h2 h3 h4 => ?_)
              have HOa : Hid (OwT B0 ((Jn.sectors Dg.sum fr (ps.take k)) ++ [y]) (.slice (some ⟨g9, 0, none⟩) (k + 1) cap9) wa) := Lib.hid h1
              have CAP : Hid (Chg (Value.slice o9 k c9).ownBlock.toList wu wa) := Lib.hid h2
              have HG9 : Hid ((Value.slice o9 k c9).ownBlock = some g9 ∨ wc.heap.size ≤ g9) := Lib.hid (h3.imp id (fun e => by rw [e]; exact CU.out.size))
              clear h1 h2 h3 h4
              have CA : Hid (Chg (Value.slice o9 k c9).ownBlock.toList wc wa) := Lib.hid ((CU.out.mono (by simp)).trans CAP.out (fun q hq => .inl hq))
              have HAa := Lib.hid (CA.out.blk H9'.out (by intro hm; rw [Option.mem_toList] at hm; have h1 := (HGE.out _ hm).1; have h2 := HN8.out; rw [HB0.out] at h1; omega))
              have HAo := Lib.hid (CA.out.blk H7.out (by intro hm; rw [Option.mem_toList] at hm; have h1 := (HGE.out _ hm).1; have h2 := HN8.out; rw [HB0.out] at h1; omega))
              have HOo : Hid (OwT B0 (List.replicate (k + 1) Jn.zero) (.slice o7 (k + 1) c7) wa) := Lib.hid (HO7.out.keep CA.out (fun q hq hm => by rw [Option.mem_toList] at hm; exact HD79.out q hq hm))
              clear CAP
              refine hK.out _ _ (CA.out.mono (fun q hq => List.mem_cons_of_mem _ hq)) (fun hHeld => ?_)
              clear hK K
              try simp only [qq]
              refine rd1 8 (fun K hK => ?_)
              have y1 := HAa.out.cell (i := 0) rfl
              have y2 := HAa.out.free 0
              go_simp
              obtain ⟨wz, hwz⟩ : ∃ W, W = wa.setCell ⟨a9, 0, none⟩ (.slice (some ⟨g9, 0, none⟩) (k + 1) cap9) := ⟨_, rfl⟩
              rw [← hwz]
              have CZ : Hid (Chg [a9] wa wz) := Lib.hid (by rw [hwz]; exact (Chg.refl [a9] wa).setCell _ _ (.inl (by simp)))
              have HZa : Hid (Blk wz a9 [.slice (some ⟨g9, 0, none⟩) (k + 1) cap9] 26) := Lib.hid (by rw [hwz]; exact HAa.out.set 0 _)
              have HZo := Lib.hid (CZ.out.blk HAo.out (by have := HN8.out; simp; omega))
              have HZl : Hid (OwT B0 ((Jn.sectors Dg.sum fr (ps.take k)) ++ [y]) (.slice (some ⟨g9, 0, none⟩) (k + 1) cap9) wz) := Lib.hid (HOa.out.keep CZ.out (fun q hq => by have h1 := (HOa.out.ge q hq).1; have h2 := HN8.out; rw [HB0.out] at h1; simp; omega))
              have HZp : Hid (OwT B0 (List.replicate (k + 1) Jn.zero) (.slice o7 (k + 1) c7) wz) := Lib.hid (HOo.out.keep CZ.out (fun q hq => by have h1 := (HOo.out.ge q hq).1; have h2 := HN8.out; rw [HB0.out] at h1; simp; omega))
              have HZd : Hid (∀ q, (Value.slice o7 (k + 1) c7).ownBlock = some q → q ≠ g9) := Lib.hid (fun q hq e => HG9.out.elim (fun h1 => HD79.out q hq (by rw [e]; exact h1)) (fun h1 => by have := (HO7.out.ge _ hq).2; omega))
              have CZ0 : Hid (Chg (a9 :: (Value.slice o9 k c9).ownBlock.toList) wc wz) := Lib.hid ((CA.out.mono (fun q hq => List.mem_cons_of_mem _ hq)).trans CZ.out (fun q hq => .inl (by simp only [List.mem_singleton] at hq; rw [hq]; exact List.mem_cons_self ..)))
              have CZ6 : Hid (Chg [a8, a9] w6 wz) := Lib.hid (HC7.out.trans CZ0.out (fun q hq => by rcases List.mem_cons.1 hq with rfl | hq; exact .inl (by simp); rw [Option.mem_toList] at hq; have h1 := (HGE.out q hq).1; rw [HB0.out] at h1; exact .inr h1))
              clear hwz y1 y2
              refine hK.out _ _ CZ0.out (fun hHeld => ?_)
              clear hK K
              try simp only [qq]
              refine wpAnyH_done (by kernel_rfl) ?_ _
              try simp only [qq]
              clear hHeld
              go_wp2_with fail
              go_roundw
              case rel => exact ⟨k + 1, o7, c7, some ⟨g9, 0, none⟩, cap9, by omega, by go_num, HZo, HZa, HZp, Lib.hid (by rw [HTK.out, sectors_snoc44, List.length_take, show min k ps.length = k by have := HPN.out; omega, ← HFK.out.1, ← HY.out]; exact HZl.out), Lib.hid (fun q hq e => HZd.out q hq (by simpa [Value.ownBlock] using e.symm)), CZ6⟩
              case measure => simp [intOf]; omega
      · have hkn : k = pn := by omega
        subst hkn
        have HZS : Hid (OwT B0 (ps.map (fun _ => Jn.zero)) (.slice o8 k c8) wr) := Lib.hid (by rw [List.map_const', ← HPN.out]; exact HO8.out)
        have HSS : Hid (OwT B0 (Jn.sectors Dg.sum fr ps) (.slice o9 k c9) wr) := Lib.hid (by have h9 := HO9.out; rw [HPN.out, List.take_length] at h9; rw [HPN.out]; exact h9)
        clear HO8 HO9
        have hkr : k ≤ rm := by omega
        go_wp2_with fail
        obtain ⟨w7, hw7⟩ : ∃ W, W = wr.alloc (.cells #[.func (.func 50) #[] #[.pointer (some ⟨b2, 0, none⟩), .pointer (some ⟨a6, 0, none⟩), .pointer (some ⟨a8, 0, none⟩)], .func (.func 51) #[] #[.pointer (some ⟨b2, 0, none⟩), .pointer (some ⟨a6, 0, none⟩), .pointer (some ⟨a9, 0, none⟩)], .func (.func 52) #[] #[.pointer (some ⟨b2, 0, none⟩), .pointer (some ⟨a7, 0, none⟩)], .func (.func 53) #[] #[.pointer (some ⟨b2, 0, none⟩), .pointer (some ⟨a7, 0, none⟩)]] 76) := ⟨_, rfl⟩
        obtain ⟨gf, hgf⟩ : ∃ X, X = wr.heap.size := ⟨_, rfl⟩
        rw [← hw7, ← hgf]
        have HGF : Hid (Blk w7 gf [.func (.func 50) #[] #[.pointer (some ⟨b2, 0, none⟩), .pointer (some ⟨a6, 0, none⟩), .pointer (some ⟨a8, 0, none⟩)], .func (.func 51) #[] #[.pointer (some ⟨b2, 0, none⟩), .pointer (some ⟨a6, 0, none⟩), .pointer (some ⟨a9, 0, none⟩)], .func (.func 52) #[] #[.pointer (some ⟨b2, 0, none⟩), .pointer (some ⟨a7, 0, none⟩)], .func (.func 53) #[] #[.pointer (some ⟨b2, 0, none⟩), .pointer (some ⟨a7, 0, none⟩)]] 76) := Lib.hid (by rw [hw7, hgf]; exact Blk.new wr _ _)
        have HGQ : Hid (w4.heap.size ≤ gf) := Lib.hid (by rw [hgf]; have h1 := C46.out.size; have h2 := HC.out.size; omega)
        have Cr7 : Hid (Chg [] wr w7) := Lib.hid (by rw [hw7]; exact (Chg.refl _ _).alloc _)
        clear hw7 hgf
        have C67 : Hid (Chg [a8, a9] w6 w7) := Lib.hid (HC.out.trans Cr7.out (by simp))
        have C47 : Hid (Chg [] w4 w7) := Lib.hid (C46.out.trans C67.out (fun q hq => .inr (by have h1 := HN8.out; simp only [List.mem_cons, List.not_mem_nil, or_false] at hq; omega)))
        have C17 : Hid (Chg [] w1 w7) := Lib.hid (C14.out.trans C47.out (by simp))
        have C7 : Hid (Chg [] w w7) := Lib.hid (C4.out.trans C47.out (by simp))
        have K2 := Lib.hid (C17.out.blk HK2.out (by simp))
        have K4 := Lib.hid (C17.out.blk HK4.out (by simp))
        have K6 := Lib.hid (C67.out.blk HB66.out (by have := HN8.out; simp; omega))
        have K7 := Lib.hid (C67.out.blk HB76.out (by have := HN8.out; simp; omega))
        have K8 := Lib.hid (Cr7.out.blk H8.out (by simp))
        have K9 := Lib.hid (Cr7.out.blk H9.out (by simp))
        have O8 := Lib.hid (HZS.out.keep Cr7.out (by simp))
        have O9 := Lib.hid (HSS.out.keep Cr7.out (by simp))
        have KB := Lib.hid (C7.out.blk HBK.out (by simp))
        have HSZ : Hid (w.heap.size ≤ w4.heap.size ∧ w4.heap.size ≤ a6 ∧ w4.heap.size ≤ a7 ∧ w4.heap.size ≤ a8 ∧ w4.heap.size ≤ a9 ∧ w4.heap.size ≤ B0 ∧ w4.heap.size ≤ gf ∧ w.heap.size ≤ b2 ∧ w.heap.size ≤ b4 ∧ b2 ≠ b4 ∧ b4 < w4.heap.size) := Lib.hid (by have h1 := C4.out.size; have h2 := HN6.out; have h3 := HN8.out; have h4 := HB0.out; have h5 := HGF.out.lt; have h6 := HN.out; have h7 := C46.out.size; have h8 := HK4.out.lt; have h9 := C14.out.size; have h10 := Cr7.out.size; have h11 := C67.out.size; have h12 := HGQ.out; refine ⟨h1, h2.2.1, h2.2.2, h3.1, ?_, ?_, ?_, ?_, ?_, ?_, ?_⟩ <;> omega)
        obtain ⟨L, hL⟩ : ∃ L, L = Jn.plan Dg.sum j.c ps := ⟨_, rfl⟩
        have HL4 : Hid (L = [(fr, ps.map (fun _ => Jn.zero)), (fr, Jn.sectors Dg.sum fr ps), (1, [Jn.head Dg.sum 1 nx]), (0, [Jn.head Dg.sum 0 nx])]) := Lib.hid (by rw [hL, HFR.out, HNX.out, HCC.out, HPN.out]; rfl)
        have HLQ : Hid (L = Jn.plan Dg.sum j.c (Jn.pieces (Jn.text rs))) := Lib.hid (by rw [hL, HPS.out])
        clear hL
        have HLL : Hid (∀ i, (Jn.stN D L i).2.q.length ≤ 1000 + 4100 * i) := Lib.hid (fun i => by
          have h1 := Jn.stN_q (D := D) (L := L) (k := 4100) (fun x hx => by
            rw [HL4.out] at hx
            simp only [List.mem_cons, List.not_mem_nil, or_false] at hx
            rcases hx with rfl | rfl | rfl | rfl
            · rw [List.length_map, ← HPN.out]; omega
            · rw [sectors_len44, ← HPN.out]; omega
            · simp
            · simp) i
          omega)
        have HW7 : Hid (w.heap.size ≤ w7.heap.size ∧ w4.heap.size ≤ w7.heap.size ∧ b < w7.heap.size) := Lib.hid ⟨C7.out.size, C47.out.size, KB.out.lt⟩
        have HBO : Hid (b ∉ own ∧ b ≠ b4 ∧ b < w.heap.size) := Lib.hid ⟨HB.out.1, by have h1 := HBK.out.lt; have h2 := HSZ.out; omega, HBK.out.lt⟩
        have HNO : Hid (∀ q, w.heap.size ≤ q → q ∉ own) := Lib.hid (fun q hq hm => by have := H.out.lt q hm; omega)
        have HVW : Hid (∀ q, (Value.slice vo ln vc).ownBlock = some q → q ∉ own ∧ q ≠ b ∧ q < w.heap.size) := Lib.hid (fun q hq => ⟨(HB.out.2 q hq).1, (HB.out.2 q hq).2, (HJ.out.own.ge q hq).2⟩)
        -- an end in the midst of the steps
        have HFAIL : Hid (∀ (i : Nat) (e : Int) (E : DK) (own2 : List Nat) (ws : World) (tmps : Array Value), i < 4 → (∀ m, m ≤ i → (Jn.stN D L m).1 = 0) → Jn.stN D L (i + 1) = (e, E) → e ≠ 0 → DkAt ws own2 p E → Chg (b4 :: own) w7 ws → (∀ q ∈ own2, q ∈ own ∨ w7.heap.size ≤ q) → ws.cell? ⟨b4, 0, none⟩ = some (.int .i64 e) → tmps.getD 4 undef = .pointer (some ⟨b4, 0, none⟩) → bodyPostD Tryz.prog Tryz.f13 R Exit.ret { tmps := tmps, defers := [{ target := .fn (.func 49) #[.pointer (some ⟨b4, 0, none⟩), .pointer (some ⟨b2, 0, none⟩)], args := #[] }] } ws) := Lib.hid (fun i e E own2 ws tmps hi hz hst he hd hch hsub h4 ht => by
          have kb := hch.blk KB.out (by intro hm; rcases List.mem_cons.1 hm with h1 | h1; exact HBO.out.2.1 h1; exact HBO.out.1 h1)
          have k2 := (hch.blk K2.out (by intro hm; rcases List.mem_cons.1 hm with h1 | h1; (have := HSZ.out; omega); exact HNO.out _ HSZ.out.2.2.2.2.2.2.2.1 h1)).cell (i := 0) rfl
          have hne : (e != 0) = true := by rw [bne_iff_ne]; exact he
          refine door_1 ht k2 h4 (fun h => HBO.out.2.1 h.symm) (kb.cell (i := 4) rfl) (kb.free 4) ?_
          rw [hne]
          have hcb : Chg [b] ws (ws.setCell ⟨b, 4, none⟩ (.bool true)) := (Chg.refl [b] ws).setCell _ _ (.inl (by simp))
          have hlen : Jn.steps D L = (e, E) := by
            have h9 := Jn.steps_fail (D := D) (L := L) (i := i) (by rw [HL4.out]; exact hi) hz (by rw [hst]; exact he)
            rw [h9, hst]
          have ho2 : b ∉ own2 := fun hm => by rcases hsub b hm with h1 | h1; exact HBO.out.1 h1; (have := HW7.out.2.2; omega)
          refine HRR.out e _ E own2 (.slice vo ln vc) _ (append_fail HQ0.out HQ1.out HQ2.out HNE.out (by rw [← HLQ.out]; exact hlen) he) (hd.kept hcb (fun q hq hm => by rw [List.mem_singleton.1 hm] at hq; exact ho2 hq)) ?_ (fun q hq => (hsub q hq).imp id (fun h1 => Nat.le_trans HW7.out.1 h1)) ⟨?_, ?_⟩ (fun q hq => ⟨.inl hq, fun hm => ?_, (HVW.out q hq).2.1⟩)
          · refine ((C7.out.mono (by simp)).trans hch (fun q hq => ?_)).trans hcb (fun q hq => .inl (by rw [List.mem_singleton.1 hq]; exact List.mem_cons_self ..))
            rcases List.mem_cons.1 hq with rfl | h1
            · exact .inr HSZ.out.2.2.2.2.2.2.2.2.1
            · exact .inl (List.mem_cons_of_mem _ (List.mem_append_right _ h1))
          · have h9 := kb.set 4 (.bool true)
            rw [HNN.out, HCC.out] at h9
            exact h9
          · refine ((HJ.out.own.keep C7.out (by simp)).keep hch (fun q hq hm => ?_)).keep hcb (fun q hq hm => (HVW.out q hq).2.1 (List.mem_singleton.1 hm))
            rcases List.mem_cons.1 hm with rfl | h1
            · have h2 := (HVW.out _ hq).2.2; have h3 := HSZ.out; omega
            · exact (HVW.out q hq).1 h1
          · rcases hsub q hm with h1 | h1
            · exact (HVW.out q hq).1 h1
            · have h2 := (HVW.out q hq).2.2; have h3 := HW7.out.1; omega)
        go_loopw [75] (fun iv wr => ∃ (i : Nat), i ≤ 4 ∧ iv = .int .i64 (i : Int) ∧ Hid (Blk wr b4 [.int .i64 0] 27) ∧ Hid ((∀ m, m ≤ i → (Jn.stN D L m).1 = 0) ∧ ∃ own2, DkAt wr own2 p (Jn.stN D L i).2 ∧ Chg (b4 :: own) w7 wr ∧ ∀ q ∈ own2, q ∈ own ∨ w7.heap.size ≤ q)) (fun iv _ => 4 - (intOf iv).toNat)
        case atStart => exact ⟨0, by omega, rfl, K4, Lib.hid ⟨fun m hm => by rw [Nat.le_zero.1 hm]; rfl, own, H.out.kept C7.out (by simp), Chg.refl _ _, fun q hq => .inl hq⟩⟩
        case round =>
          rename World => wv
          obtain ⟨i, hi4, rfl, H4, HST⟩ := hrel
          obtain ⟨hz, own2, hd, hch, hsub⟩ := HST.out
          have HZ := Lib.hid hz
          have HD := Lib.hid hd
          have HCH := Lib.hid hch
          have HSUB := Lib.hid hsub
          clear hz hd hch hsub HST
          have HQ7 : Hid (∀ q, w.heap.size ≤ q → q < w7.heap.size → q ∉ own2) := Lib.hid (fun q h1 h2 hm => by rcases HSUB.out q hm with h3 | h3; exact HNO.out q h1 h3; omega)
          have HQ8 : Hid (∀ q, w.heap.size ≤ q → q ≠ b4 → q ∉ b4 :: own) := Lib.hid (fun q h1 h2 hm => by rcases List.mem_cons.1 hm with h3 | h3; exact h2 h3; exact HNO.out q h1 h3)
          have HBN : Hid (b ∉ own2 ∧ b ∉ b4 :: own) := Lib.hid ⟨fun hm => by rcases HSUB.out b hm with h3 | h3; exact HBO.out.1 h3; (have := HW7.out.2.2; omega), fun hm => by rcases List.mem_cons.1 hm with h3 | h3; exact HBO.out.2.1 h3; exact HBO.out.1 h3⟩
          have KBv := Lib.hid (HCH.out.blk KB.out HBN.out.2)
          have K2v := Lib.hid (HCH.out.blk K2.out (HQ8.out b2 (by have := HSZ.out; omega) (by have := HSZ.out; omega)))
          have K6v := Lib.hid (HCH.out.blk K6.out (HQ8.out a6 (by have := HSZ.out; omega) (by have := HSZ.out; omega)))
          have K7v := Lib.hid (HCH.out.blk K7.out (HQ8.out a7 (by have := HSZ.out; omega) (by have := HSZ.out; omega)))
          have K8v := Lib.hid (HCH.out.blk K8.out (HQ8.out a8 (by have := HSZ.out; omega) (by have := HSZ.out; omega)))
          have K9v := Lib.hid (HCH.out.blk K9.out (HQ8.out a9 (by have := HSZ.out; omega) (by have := HSZ.out; omega)))
          have HGv := Lib.hid (HCH.out.blk HGF.out (HQ8.out gf (by have := HSZ.out; omega) (by have := HSZ.out; omega)))
          have O8v : Hid (OwT B0 (ps.map (fun _ => Jn.zero)) (.slice o8 k c8) wv) := Lib.hid (O8.out.keep HCH.out (fun q hq => HQ8.out q (by have h1 := (O8.out.ge q hq).1; have h2 := HSZ.out; omega) (by have h1 := (O8.out.ge q hq).1; have h2 := HSZ.out; omega)))
          have V8v : Hid (offV (.slice o8 k c8) own2) := Lib.hid (fun ad n0 c0 he hm => by have h9 := O8.out.ge ad.block (by rw [he]; rfl); exact HQ7.out _ (by have h2 := HSZ.out; omega) h9.2 hm)
          have O9v : Hid (OwT B0 (Jn.sectors Dg.sum fr ps) (.slice o9 k c9) wv) := Lib.hid (O9.out.keep HCH.out (fun q hq => HQ8.out q (by have h1 := (O9.out.ge q hq).1; have h2 := HSZ.out; omega) (by have h1 := (O9.out.ge q hq).1; have h2 := HSZ.out; omega)))
          have V9v : Hid (offV (.slice o9 k c9) own2) := Lib.hid (fun ad n0 c0 he hm => by have h9 := O9.out.ge ad.block (by rw [he]; rfl); exact HQ7.out _ (by have h2 := HSZ.out; omega) h9.2 hm)
          have HLv : Hid (Laid wv) := Lib.hid ((HL.out.quiet C7.out).kept3 HL.out HCH.out (fun q hq => by rcases List.mem_cons.1 hq with h1 | h1; exact .inr (by have := HSZ.out; omega); exact .inl (HF0.out q h1)))
          by_cases hlt : i < 4
          · rcases (by omega : i = 0 ∨ i = 1 ∨ i = 2 ∨ i = 3) with rfl | rfl | rfl | rfl
            · have g0 := HGv.out.cell (i := 0) rfl
              have y1 := H4.out.cell (i := 0) rfl
              have y2 := H4.out.free 0
              go_wp2_with fail
              refine stepA_r HD (Lib.hid (KBv.out.cell (i := 0) rfl)) HBN.out.1 fr (ps.map (fun _ => Jn.zero)) _ (Lib.hid (by have h9 := O8v.out.strs; exact h9)) V8v b2 a6 a8 (K2v.out.cell (i := 0) rfl) (K6v.out.cell (i := 0) rfl) (K8v.out.cell (i := 0) rfl) (by have := HLL.out 0; rw [List.length_map, ← HPN.out]; omega) (by rw [List.length_map, ← HPN.out, HFR.out]; omega) (fun w' h' => ?_)
              obtain ⟨own3, hd3, hc3, hs3⟩ := h'
              obtain ⟨e, E, hst⟩ : ∃ e E, Jn.put (Jn.stN D L 0).2 fr (ps.map (fun _ => Jn.zero)) = (e, E) := ⟨_, _, rfl⟩
              have HST : Hid (Jn.stN D L 1 = (e, E)) := Lib.hid (by have h9 := hst; rw [HL4.out] at h9 ⊢; exact h9)
              rw [hst] at hd3 ⊢
              have HD3 : Hid (DkAt w' own3 p E) := Lib.hid hd3
              have HC3 : Hid (Chg own2 wv w') := Lib.hid hc3
              have HS3 : Hid (∀ q ∈ own3, q ∈ own2 ∨ wv.heap.size ≤ q) := Lib.hid hs3
              clear hd3 hc3 hs3 hst g0 y1 y2
              have H4' := Lib.hid (HC3.out.blk H4.out (HQ7.out b4 (by have := HSZ.out; omega) K4.out.lt))
              have y1 := H4'.out.cell (i := 0) rfl
              have y2 := H4'.out.free 0
              have HB43 : Hid (b4 ∉ own3) := Lib.hid (fun hm => by rcases HS3.out b4 hm with h1 | h1; exact HQ7.out b4 (by have := HSZ.out; omega) K4.out.lt h1; (have h2 := H4.out.lt; omega))
              have HCW : ∀ X, Hid (Chg (b4 :: own) w7 (w'.setCell ⟨b4, 0, none⟩ X)) := fun X => Lib.hid ((HCH.out.trans HC3.out (fun q hq => (HSUB.out q hq).imp (fun h1 => List.mem_cons_of_mem _ h1) id)).trans ((Chg.refl [b4] w').setCell _ _ (.inl (by simp))) (fun q hq => .inl (by rw [List.mem_singleton.1 hq]; exact List.mem_cons_self ..)))
              have HSW : Hid (∀ q ∈ own3, q ∈ own ∨ w7.heap.size ≤ q) := Lib.hid (fun q hq => by rcases HS3.out q hq with h1 | h1; exact HSUB.out q h1; exact .inr (Nat.le_trans HCH.out.size h1))
              by_cases he : e = 0
              · subst he
                go_wp2_with fail
                go_roundw
                case rel => exact ⟨1, by omega, by go_num, Lib.hid (H4'.out.set 0 (.int .i64 0)), Lib.hid ⟨fun m hm => by rcases Nat.lt_or_ge m 1 with h1 | h1; exact HZ.out m (by omega); (rw [show m = 1 by omega, HST.out]), own3, by rw [HST.out]; exact HD3.out.kept ((Chg.refl [b4] w').setCell _ _ (.inl (by simp))) (fun q hq hm => by rw [List.mem_singleton.1 hm] at hq; exact HB43.out hq), (HCW _).out, HSW.out⟩⟩
                case measure => simp [intOf]
              · have z0 : (e != 0) = true := by rw [bne_iff_ne]; exact he
                go_wp2_with fail
                have KF := H4'.out.set 0 (.int .i64 e)
                have KF2 := KF.set 0 (.int .i64 e)
                have CF2 : Chg [b4] w' ((w'.setCell ⟨b4, 0, none⟩ (.int .i64 e)).setCell ⟨b4, 0, none⟩ (.int .i64 e)) := ((Chg.refl [b4] w').setCell _ _ (.inl (by simp))).setCell _ _ (.inl (by simp))
                exact HFAIL.out 0 e E own3 _ _ (by omega) HZ.out HST.out he (HD3.out.kept CF2 (fun q hq hm => by rw [List.mem_singleton.1 hm] at hq; exact HB43.out hq)) ((HCW (.int .i64 e)).out.trans ((Chg.refl [b4] _).setCell _ _ (.inl (by simp))) (fun q hq => .inl (by rw [List.mem_singleton.1 hq]; exact List.mem_cons_self ..))) HSW.out (KF2.cell (i := 0) rfl) rfl
            · have g0 := HGv.out.cell (i := 1) rfl
              have y1 := H4.out.cell (i := 0) rfl
              have y2 := H4.out.free 0
              go_wp2_with fail
              refine stepB_r HD (Lib.hid (KBv.out.cell (i := 0) rfl)) HBN.out.1 fr (Jn.sectors Dg.sum fr ps) _ (Lib.hid (by have h9 := O9v.out.strs; exact h9)) V9v b2 a6 a9 (K2v.out.cell (i := 0) rfl) (K6v.out.cell (i := 0) rfl) (K9v.out.cell (i := 0) rfl) (by have := HLL.out 1; rw [sectors_len44, ← HPN.out]; omega) (by rw [sectors_len44, ← HPN.out, HFR.out]; omega) (fun w' h' => ?_)
              obtain ⟨own3, hd3, hc3, hs3⟩ := h'
              obtain ⟨e, E, hst⟩ : ∃ e E, Jn.put (Jn.stN D L 1).2 fr (Jn.sectors Dg.sum fr ps) = (e, E) := ⟨_, _, rfl⟩
              have HST : Hid (Jn.stN D L 2 = (e, E)) := Lib.hid (by have h9 := hst; rw [HL4.out] at h9 ⊢; exact h9)
              rw [hst] at hd3 ⊢
              have HD3 : Hid (DkAt w' own3 p E) := Lib.hid hd3
              have HC3 : Hid (Chg own2 wv w') := Lib.hid hc3
              have HS3 : Hid (∀ q ∈ own3, q ∈ own2 ∨ wv.heap.size ≤ q) := Lib.hid hs3
              clear hd3 hc3 hs3 hst g0 y1 y2
              have H4' := Lib.hid (HC3.out.blk H4.out (HQ7.out b4 (by have := HSZ.out; omega) K4.out.lt))
              have y1 := H4'.out.cell (i := 0) rfl
              have y2 := H4'.out.free 0
              have HB43 : Hid (b4 ∉ own3) := Lib.hid (fun hm => by rcases HS3.out b4 hm with h1 | h1; exact HQ7.out b4 (by have := HSZ.out; omega) K4.out.lt h1; (have h2 := H4.out.lt; omega))
              have HCW : ∀ X, Hid (Chg (b4 :: own) w7 (w'.setCell ⟨b4, 0, none⟩ X)) := fun X => Lib.hid ((HCH.out.trans HC3.out (fun q hq => (HSUB.out q hq).imp (fun h1 => List.mem_cons_of_mem _ h1) id)).trans ((Chg.refl [b4] w').setCell _ _ (.inl (by simp))) (fun q hq => .inl (by rw [List.mem_singleton.1 hq]; exact List.mem_cons_self ..)))
              have HSW : Hid (∀ q ∈ own3, q ∈ own ∨ w7.heap.size ≤ q) := Lib.hid (fun q hq => by rcases HS3.out q hq with h1 | h1; exact HSUB.out q h1; exact .inr (Nat.le_trans HCH.out.size h1))
              by_cases he : e = 0
              · subst he
                go_wp2_with fail
                go_roundw
                case rel => exact ⟨2, by omega, by go_num, Lib.hid (H4'.out.set 0 (.int .i64 0)), Lib.hid ⟨fun m hm => by rcases Nat.lt_or_ge m 2 with h1 | h1; exact HZ.out m (by omega); (rw [show m = 2 by omega, HST.out]), own3, by rw [HST.out]; exact HD3.out.kept ((Chg.refl [b4] w').setCell _ _ (.inl (by simp))) (fun q hq hm => by rw [List.mem_singleton.1 hm] at hq; exact HB43.out hq), (HCW _).out, HSW.out⟩⟩
                case measure => simp [intOf]
              · have z0 : (e != 0) = true := by rw [bne_iff_ne]; exact he
                go_wp2_with fail
                have KF := H4'.out.set 0 (.int .i64 e)
                have KF2 := KF.set 0 (.int .i64 e)
                have CF2 : Chg [b4] w' ((w'.setCell ⟨b4, 0, none⟩ (.int .i64 e)).setCell ⟨b4, 0, none⟩ (.int .i64 e)) := ((Chg.refl [b4] w').setCell _ _ (.inl (by simp))).setCell _ _ (.inl (by simp))
                exact HFAIL.out 1 e E own3 _ _ (by omega) HZ.out HST.out he (HD3.out.kept CF2 (fun q hq hm => by rw [List.mem_singleton.1 hm] at hq; exact HB43.out hq)) ((HCW (.int .i64 e)).out.trans ((Chg.refl [b4] _).setCell _ _ (.inl (by simp))) (fun q hq => .inl (by rw [List.mem_singleton.1 hq]; exact List.mem_cons_self ..))) HSW.out (KF2.cell (i := 0) rfl) rfl
            · have g0 := HGv.out.cell (i := 2) rfl
              have y1 := H4.out.cell (i := 0) rfl
              have y2 := H4.out.free 0
              go_wp2_with fail
              refine stepC_r HLv HD (Lib.hid (KBv.out.cell (i := 0) rfl)) HBN.out.1 nx b2 a7 (K2v.out.cell (i := 0) rfl) (K7v.out.cell (i := 0) rfl) (HQ7.out _ (by have := HSZ.out; omega) K2.out.lt) (HQ7.out _ (by have := HSZ.out; omega) K7.out.lt) (by rw [HNX.out]; omega) (by have := HLL.out 2; omega) (fun w' h' => ?_)
              obtain ⟨own3, hd3, hc3, hs3⟩ := h'
              obtain ⟨e, E, hst⟩ : ∃ e E, Jn.put (Jn.stN D L 2).2 1 [Jn.head Dg.sum 1 nx] = (e, E) := ⟨_, _, rfl⟩
              have HST : Hid (Jn.stN D L 3 = (e, E)) := Lib.hid (by have h9 := hst; rw [HL4.out] at h9 ⊢; exact h9)
              rw [hst] at hd3 ⊢
              have HD3 : Hid (DkAt w' own3 p E) := Lib.hid hd3
              have HC3 : Hid (Chg own2 wv w') := Lib.hid hc3
              have HS3 : Hid (∀ q ∈ own3, q ∈ own2 ∨ wv.heap.size ≤ q) := Lib.hid hs3
              clear hd3 hc3 hs3 hst g0 y1 y2
              have H4' := Lib.hid (HC3.out.blk H4.out (HQ7.out b4 (by have := HSZ.out; omega) K4.out.lt))
              have y1 := H4'.out.cell (i := 0) rfl
              have y2 := H4'.out.free 0
              have HB43 : Hid (b4 ∉ own3) := Lib.hid (fun hm => by rcases HS3.out b4 hm with h1 | h1; exact HQ7.out b4 (by have := HSZ.out; omega) K4.out.lt h1; (have h2 := H4.out.lt; omega))
              have HCW : ∀ X, Hid (Chg (b4 :: own) w7 (w'.setCell ⟨b4, 0, none⟩ X)) := fun X => Lib.hid ((HCH.out.trans HC3.out (fun q hq => (HSUB.out q hq).imp (fun h1 => List.mem_cons_of_mem _ h1) id)).trans ((Chg.refl [b4] w').setCell _ _ (.inl (by simp))) (fun q hq => .inl (by rw [List.mem_singleton.1 hq]; exact List.mem_cons_self ..)))
              have HSW : Hid (∀ q ∈ own3, q ∈ own ∨ w7.heap.size ≤ q) := Lib.hid (fun q hq => by rcases HS3.out q hq with h1 | h1; exact HSUB.out q h1; exact .inr (Nat.le_trans HCH.out.size h1))
              by_cases he : e = 0
              · subst he
                go_wp2_with fail
                go_roundw
                case rel => exact ⟨3, by omega, by go_num, Lib.hid (H4'.out.set 0 (.int .i64 0)), Lib.hid ⟨fun m hm => by rcases Nat.lt_or_ge m 3 with h1 | h1; exact HZ.out m (by omega); (rw [show m = 3 by omega, HST.out]), own3, by rw [HST.out]; exact HD3.out.kept ((Chg.refl [b4] w').setCell _ _ (.inl (by simp))) (fun q hq hm => by rw [List.mem_singleton.1 hm] at hq; exact HB43.out hq), (HCW _).out, HSW.out⟩⟩
                case measure => simp [intOf]
              · have z0 : (e != 0) = true := by rw [bne_iff_ne]; exact he
                go_wp2_with fail
                have KF := H4'.out.set 0 (.int .i64 e)
                have KF2 := KF.set 0 (.int .i64 e)
                have CF2 : Chg [b4] w' ((w'.setCell ⟨b4, 0, none⟩ (.int .i64 e)).setCell ⟨b4, 0, none⟩ (.int .i64 e)) := ((Chg.refl [b4] w').setCell _ _ (.inl (by simp))).setCell _ _ (.inl (by simp))
                exact HFAIL.out 2 e E own3 _ _ (by omega) HZ.out HST.out he (HD3.out.kept CF2 (fun q hq hm => by rw [List.mem_singleton.1 hm] at hq; exact HB43.out hq)) ((HCW (.int .i64 e)).out.trans ((Chg.refl [b4] _).setCell _ _ (.inl (by simp))) (fun q hq => .inl (by rw [List.mem_singleton.1 hq]; exact List.mem_cons_self ..))) HSW.out (KF2.cell (i := 0) rfl) rfl
            · have g0 := HGv.out.cell (i := 3) rfl
              have y1 := H4.out.cell (i := 0) rfl
              have y2 := H4.out.free 0
              go_wp2_with fail
              refine stepD_r HLv HD (Lib.hid (KBv.out.cell (i := 0) rfl)) HBN.out.1 nx b2 a7 (K2v.out.cell (i := 0) rfl) (K7v.out.cell (i := 0) rfl) (HQ7.out _ (by have := HSZ.out; omega) K2.out.lt) (HQ7.out _ (by have := HSZ.out; omega) K7.out.lt) (by rw [HNX.out]; omega) (by have := HLL.out 3; omega) (fun w' h' => ?_)
              obtain ⟨own3, hd3, hc3, hs3⟩ := h'
              obtain ⟨e, E, hst⟩ : ∃ e E, Jn.put (Jn.stN D L 3).2 0 [Jn.head Dg.sum 0 nx] = (e, E) := ⟨_, _, rfl⟩
              have HST : Hid (Jn.stN D L 4 = (e, E)) := Lib.hid (by have h9 := hst; rw [HL4.out] at h9 ⊢; exact h9)
              rw [hst] at hd3 ⊢
              have HD3 : Hid (DkAt w' own3 p E) := Lib.hid hd3
              have HC3 : Hid (Chg own2 wv w') := Lib.hid hc3
              have HS3 : Hid (∀ q ∈ own3, q ∈ own2 ∨ wv.heap.size ≤ q) := Lib.hid hs3
              clear hd3 hc3 hs3 hst g0 y1 y2
              have H4' := Lib.hid (HC3.out.blk H4.out (HQ7.out b4 (by have := HSZ.out; omega) K4.out.lt))
              have y1 := H4'.out.cell (i := 0) rfl
              have y2 := H4'.out.free 0
              have HB43 : Hid (b4 ∉ own3) := Lib.hid (fun hm => by rcases HS3.out b4 hm with h1 | h1; exact HQ7.out b4 (by have := HSZ.out; omega) K4.out.lt h1; (have h2 := H4.out.lt; omega))
              have HCW : ∀ X, Hid (Chg (b4 :: own) w7 (w'.setCell ⟨b4, 0, none⟩ X)) := fun X => Lib.hid ((HCH.out.trans HC3.out (fun q hq => (HSUB.out q hq).imp (fun h1 => List.mem_cons_of_mem _ h1) id)).trans ((Chg.refl [b4] w').setCell _ _ (.inl (by simp))) (fun q hq => .inl (by rw [List.mem_singleton.1 hq]; exact List.mem_cons_self ..)))
              have HSW : Hid (∀ q ∈ own3, q ∈ own ∨ w7.heap.size ≤ q) := Lib.hid (fun q hq => by rcases HS3.out q hq with h1 | h1; exact HSUB.out q h1; exact .inr (Nat.le_trans HCH.out.size h1))
              by_cases he : e = 0
              · subst he
                go_wp2_with fail
                go_roundw
                case rel => exact ⟨4, by omega, by go_num, Lib.hid (H4'.out.set 0 (.int .i64 0)), Lib.hid ⟨fun m hm => by rcases Nat.lt_or_ge m 4 with h1 | h1; exact HZ.out m (by omega); (rw [show m = 4 by omega, HST.out]), own3, by rw [HST.out]; exact HD3.out.kept ((Chg.refl [b4] w').setCell _ _ (.inl (by simp))) (fun q hq hm => by rw [List.mem_singleton.1 hm] at hq; exact HB43.out hq), (HCW _).out, HSW.out⟩⟩
                case measure => simp [intOf]
              · have z0 : (e != 0) = true := by rw [bne_iff_ne]; exact he
                go_wp2_with fail
                have KF := H4'.out.set 0 (.int .i64 e)
                have KF2 := KF.set 0 (.int .i64 e)
                have CF2 : Chg [b4] w' ((w'.setCell ⟨b4, 0, none⟩ (.int .i64 e)).setCell ⟨b4, 0, none⟩ (.int .i64 e)) := ((Chg.refl [b4] w').setCell _ _ (.inl (by simp))).setCell _ _ (.inl (by simp))
                exact HFAIL.out 3 e E own3 _ _ (by omega) HZ.out HST.out he (HD3.out.kept CF2 (fun q hq hm => by rw [List.mem_singleton.1 hm] at hq; exact HB43.out hq)) ((HCW (.int .i64 e)).out.trans ((Chg.refl [b4] _).setCell _ _ (.inl (by simp))) (fun q hq => .inl (by rw [List.mem_singleton.1 hq]; exact List.mem_cons_self ..))) HSW.out (KF2.cell (i := 0) rfl) rfl
          · obtain rfl : i = 4 := by omega
            have HST4 : Hid (Jn.steps D L = (0, (Jn.stN D L 4).2)) := Lib.hid (by
            have hl : L.length = 4 := by (rw [HL4.out]; rfl)
            have h9 := Jn.steps_done (D := D) (L := L) (fun m hm => HZ.out m (by omega))
            rw [hl] at h9
            exact h9)
            have HAP : Hid (Jn.append Dg.sum j D rs = ((0, ⟨j.n, j.c + (Jn.pieces (Jn.text rs)).length, j.l ++ rs, false⟩), (Jn.stN D L 4).2)) := Lib.hid (append_done HQ0.out HQ1.out HQ2.out HNE.out (by rw [← HLQ.out]; exact HST4.out))
            have y1 := K2v.out.cell (i := 0) rfl
            have y2 := K7v.out.cell (i := 0) rfl
            have y3 := KBv.out.cell (i := 2) rfl
            have y4 := KBv.out.free 2
            go_upto_region 29 with (fail)
            obtain ⟨w8, hw8⟩ : ∃ W, W = wv.setCell ⟨b, 2, none⟩ (.int .i64 (nx : Int)) := ⟨_, rfl⟩
            rw [← hw8]
            have KB8 : Hid (Blk w8 b [.pointer (some ⟨p, 0, none⟩), .int .i64 (n : Int), .int .i64 (nx : Int), .slice vo ln vc, .bool false] 53) := Lib.hid (by rw [hw8]; exact KBv.out.set 2 _)
            have C8 : Hid (Chg [b] wv w8) := Lib.hid (by rw [hw8]; exact (Chg.refl [b] wv).setCell _ _ (.inl (by simp)))
            clear hw8 y1 y2 y3 y4
            have K28 := Lib.hid (C8.out.blk K2v.out (by have h1 := HSZ.out; have h2 := HBO.out; simp; omega))
            have K48 := Lib.hid (C8.out.blk H4.out (by have h2 := HBO.out; simp; omega))
            have HRB : Hid (∀ ad, ao = some ad → ad.block < w.heap.size ∧ ad.block ≠ b ∧ ad.block ∉ b4 :: own ∧ (Value.slice vo ln vc).ownBlock ≠ some ad.block) := Lib.hid (fun ad had => by
            subst had
            have h1 := HO.out HNE.out ad rn cap rfl
            obtain ⟨ao2, cap2, e2, _, h3⟩ := HV.out
            cases e2
            obtain ⟨x, hx⟩ : ∃ x, rs[0]? = some x := ⟨rs[0]'(List.length_pos_iff.2 HNE.out), by simp⟩
            obtain ⟨g, off, e3, h4⟩ := h3 0 x hx
            cases e3
            have h5 := block_lt_of_cell h4
            simp only [List.mem_cons, List.mem_append, Option.mem_toList, not_or] at h1
            have h6 := HSZ.out
            have h7 : g < w.heap.size := h5
            refine ⟨h7, h1.1, fun hm => ?_, h1.2.1⟩
            rcases List.mem_cons.1 hm with h8 | h8
            · have h9 : g = b4 := h8
              omega
            · exact h1.2.2 h8)
            have HV8 : Hid (Strs w8 (.slice ao rn cap) rs) := Lib.hid (((HV.out.quiet C7.out).off HCH.out (fun ad n0 c0 he => by cases he; exact (HRB.out ad rfl).2.2.1)).off C8.out (fun ad n0 c0 he => by cases he; simp only [List.mem_singleton]; exact (HRB.out ad rfl).2.1))
            have HVN : Hid (∀ q, (Value.slice vo ln vc).ownBlock = some q → q ∉ b4 :: own) := Lib.hid (fun q hq hm => by rcases List.mem_cons.1 hm with h1 | h1; (have h2 := (HVW.out q hq).2.2; have h3 := HSZ.out; omega); exact (HVW.out q hq).1 h1)
            have HO8 : Hid (OwT B j.l (.slice vo ln vc) w8) := Lib.hid (((HJ.out.own.keep C7.out (by simp)).keep HCH.out HVN.out).keep C8.out (fun q hq hm => (HVW.out q hq).2.1 (List.mem_singleton.1 hm)))
            have HS8 : Hid (w.heap.size ≤ w8.heap.size ∧ w7.heap.size ≤ w8.heap.size ∧ wv.heap.size ≤ w8.heap.size) := Lib.hid ⟨by have h1 := C7.out.size; have h2 := HCH.out.size; have h3 := C8.out.size; omega, by have h2 := HCH.out.size; have h3 := C8.out.size; omega, C8.out.size⟩
            clear O8 O9 K6 K7 K8 K9 K6v K7v K8v K9v O8v O9v V8v V9v HGv HGF HFAIL HEND
            refine wp_region_held_drew (S := fun W' => Chg (b :: (Value.slice vo ln vc).ownBlock.toList) w8 W') (by kernel_rfl) (Chg.refl _ _).drew (fun hHeld => ?_)
            obtain ⟨wd, hwd⟩ : ∃ x, x = w8.drew := ⟨_, rfl⟩
            rw [← hwd] at hHeld ⊢
            have CD : Hid (Chg [] w8 wd) := Lib.hid (by rw [hwd]; exact (Chg.refl _ _).drew)
            clear hwd
            have HB2N : Hid (b2 ∉ b :: (Value.slice vo ln vc).ownBlock.toList) := Lib.hid (by intro hm; rcases List.mem_cons.1 hm with h1 | h1; (have h2 := HSZ.out; have h3 := HBO.out; omega); (have h2 := (HVW.out _ (Option.mem_toList.1 h1)).2.2; have h3 := HSZ.out; omega))
            have HB4N : Hid (b4 ∉ b :: (Value.slice vo ln vc).ownBlock.toList) := Lib.hid (by intro hm; rcases List.mem_cons.1 hm with h1 | h1; (have h2 := HSZ.out; have h3 := HBO.out; omega); (have h2 := (HVW.out _ (Option.mem_toList.1 h1)).2.2; have h3 := HSZ.out; omega))
            have g2 := K28.out.cell (i := 0) rfl
            refine tkd 0 ?vb0 ?hyb0 ?rsb0
            case hyb0 => (intro w9 hSw; have t0 := cell_quiet hSw g2 HB2N.out; go_simp; try with_reducible rfl)
            try simp only [qq]
            refine tkd 1 ?vb1 ?hyb1 ?rsb1
            case hyb1 => (intro w9 hSw; have t0 := cell_quiet hSw g2 HB2N.out; go_simp; try with_reducible rfl)
            try simp only [qq]
            refine tkd 2 ?vb2 ?hyb2 ?rsb2
            case hyb2 => (intro w9 hSw; go_simp; try with_reducible rfl)
            try simp only [qq]
            refine tkd 3 ?vb3 ?hyb3 ?rsb3
            case hyb3 => (intro w9 hSw; go_simp; try with_reducible rfl)
            try simp only [qq]
            refine tkd 5 ?vb5 ?hyb5 ?rsb5
            case hyb5 => (intro w9 hSw; go_simp; try with_reducible rfl)
            try simp only [qq]
            refine rd1 4 (fun K hK => ?_)
            have c8 := (CD.out.blk KB8.out (by simp)).cell (i := 3) rfl
            go_simp
            refine hK.out _ _ hHeld (fun hHeld => ?_)
            clear hK K c8
            try simp only [qq]
            refine rd1 6 (fun K hK => ?_)
            refine step_app_strs rfl (.tmp 93) (.tmp 94) rfl B j.l (.slice vo ln vc) (by rfl) (HO8.out.keep CD.out (by simp)) rs HNE.out (.slice ao rn cap) (by rfl) (HV8.out.quiet CD.out) (ln + rn) (by rw [HLN.out, HRN.out]) (by omega) (by have h1 := HS8.out; have h2 := CD.out.size; omega) (fun g9 cap9 wa h1 h2 h3 h4 => ?_)
            have HOa : Hid (OwT B (j.l ++ rs) (.slice (some ⟨g9, 0, none⟩) (ln + rn) cap9) wa) := Lib.hid h1
            have CA : Hid (Chg (Value.slice vo ln vc).ownBlock.toList w8 wa) := Lib.hid ((CD.out.mono (by simp)).trans h2 (fun q hq => .inl hq))
            have HG9 : Hid ((Value.slice vo ln vc).ownBlock = some g9 ∨ w8.heap.size ≤ g9) := Lib.hid (h3.imp id (fun e => by rw [e]; exact CD.out.size))
            clear h1 h2 h3 h4
            have HBV : Hid (b ∉ (Value.slice vo ln vc).ownBlock.toList) := Lib.hid (fun hm => (HVW.out b (Option.mem_toList.1 hm)).2.1 rfl)
            have KBa := Lib.hid (CA.out.blk KB8.out HBV.out)
            refine hK.out _ _ (CA.out.mono (fun q hq => List.mem_cons_of_mem _ hq)) (fun hHeld => ?_)
            clear hK K
            try simp only [qq]
            refine tkd 7 ?vb7 ?hyb7 ?rsb7
            case hyb7 => (intro w9 hSw; go_simp; try with_reducible rfl)
            try simp only [qq]
            refine tkd 8 ?vb8 ?hyb8 ?rsb8
            case hyb8 => (intro w9 hSw; go_simp; try with_reducible rfl)
            try simp only [qq]
            refine rd1 9 (fun K hK => ?_)
            have y1 := KBa.out.cell (i := 3) rfl
            have y2 := KBa.out.free 3
            go_simp
            obtain ⟨wz, hwz⟩ : ∃ W, W = wa.setCell ⟨b, 3, none⟩ (.slice (some ⟨g9, 0, none⟩) (ln + rn) cap9) := ⟨_, rfl⟩
            rw [← hwz]
            have CZ : Hid (Chg [b] wa wz) := Lib.hid (by rw [hwz]; exact (Chg.refl [b] wa).setCell _ _ (.inl (by simp)))
            have KBz : Hid (Blk wz b [.pointer (some ⟨p, 0, none⟩), .int .i64 (n : Int), .int .i64 (nx : Int), .slice (some ⟨g9, 0, none⟩) (ln + rn) cap9, .bool false] 53) := Lib.hid (by rw [hwz]; exact KBa.out.set 3 _)
            have CZ8 : Hid (Chg (b :: (Value.slice vo ln vc).ownBlock.toList) w8 wz) := Lib.hid ((CA.out.mono (fun q hq => List.mem_cons_of_mem _ hq)).trans CZ.out (fun q hq => .inl (by rw [List.mem_singleton.1 hq]; exact List.mem_cons_self ..)))
            have HG9b : Hid (g9 ≠ b) := Lib.hid (fun e => by rcases HG9.out with h1 | h1; exact (HVW.out g9 h1).2.1 e; (have h2 := HBO.out; have h3 := HS8.out; omega))
            have HOz : Hid (OwT B (j.l ++ rs) (.slice (some ⟨g9, 0, none⟩) (ln + rn) cap9) wz) := Lib.hid (HOa.out.keep CZ.out (fun q hq hm => HG9b.out ((show g9 = q by simpa [Value.ownBlock] using hq).trans (List.mem_singleton.1 hm))))
            clear hwz y1 y2
            refine hK.out _ _ CZ8.out (fun hHeld => ?_)
            clear hK K
            try simp only [qq]
            refine wpAnyH_done (by kernel_rfl) ?_ _
            try simp only [qq]
            clear hHeld g2
            have K4z := Lib.hid (CZ8.out.blk K48.out HB4N.out)
            have K2z := Lib.hid (CZ8.out.blk K28.out HB2N.out)
            have y1 := K4z.out.cell (i := 0) rfl
            have y2 := K4z.out.free 0
            go_wp2_with fail
            obtain ⟨we, hwe⟩ : ∃ W, W = wz.setCell ⟨b4, 0, none⟩ (.int .i64 0) := ⟨_, rfl⟩
            rw [← hwe]
            have K4e : Hid (Blk we b4 [.int .i64 0] 27) := Lib.hid (by rw [hwe]; exact K4z.out.set 0 _)
            have CE : Hid (Chg [b4] wz we) := Lib.hid (by rw [hwe]; exact (Chg.refl [b4] wz).setCell _ _ (.inl (by simp)))
            clear hwe y1 y2
            have KBe := Lib.hid (CE.out.blk KBz.out (by have h1 := HBO.out; simp; omega))
            have K2e := Lib.hid (CE.out.blk K2z.out (by have h1 := HSZ.out; simp; omega))
            refine door_1 rfl (K2e.out.cell (i := 0) rfl) (K4e.out.cell (i := 0) rfl) (fun h => HBO.out.2.1 h.symm) (KBe.out.cell (i := 4) rfl) (KBe.out.free 4) ?_
            have CF : Chg [b] we (we.setCell ⟨b, 4, none⟩ (.bool ((0 : Int) != 0))) := (Chg.refl [b] we).setCell _ _ (.inl (by simp))
            have HDF : DkAt (we.setCell ⟨b, 4, none⟩ (.bool ((0 : Int) != 0))) own2 p (Jn.stN D L 4).2 := by
              refine (((HD.out.kept C8.out (fun q hq hm => HBN.out.1 (by rw [← List.mem_singleton.1 hm]; exact hq))).kept CZ8.out (fun q hq hm => ?_)).kept CE.out (fun q hq hm => ?_)).kept CF (fun q hq hm => HBN.out.1 (by rw [← List.mem_singleton.1 hm]; exact hq))
              · rcases List.mem_cons.1 hm with h1 | h1
                · exact HBN.out.1 (by rw [← h1]; exact hq)
                · have h2 := HVW.out q (Option.mem_toList.1 h1)
                  rcases HSUB.out q hq with h3 | h3
                  · exact h2.1 h3
                  · have h4 := HW7.out; omega
              · rw [List.mem_singleton.1 hm] at hq
                exact HQ7.out b4 (by have := HSZ.out; omega) K4.out.lt hq
            refine HRR.out 0 _ _ own2 (.slice (some ⟨g9, 0, none⟩) (ln + rn) cap9) _ HAP.out HDF ?_ (fun q hq => (HSUB.out q hq).imp id (fun h1 => Nat.le_trans HW7.out.1 h1)) ⟨?_, ?_⟩ (fun q hq => ?_)
            · have hb : b ∈ b :: ((Value.slice vo ln vc).ownBlock.toList ++ own) := List.mem_cons_self ..
              refine ((((C7.out.mono (by simp)).trans HCH.out (fun q hq => ?_)).trans C8.out (fun q hq => .inl (by rw [List.mem_singleton.1 hq]; exact hb))).trans CZ8.out (fun q hq => .inl ?_)).trans CE.out (fun q hq => .inr (by rw [List.mem_singleton.1 hq]; have := HSZ.out; omega)) |>.trans CF (fun q hq => .inl (by rw [List.mem_singleton.1 hq]; exact hb))
              · rcases List.mem_cons.1 hq with rfl | h1
                · exact .inr (by have := HSZ.out; omega)
                · exact .inl (List.mem_cons_of_mem _ (List.mem_append_right _ h1))
              · rcases List.mem_cons.1 hq with rfl | h1
                · exact hb
                · exact List.mem_cons_of_mem _ (List.mem_append_left _ h1)
            · have h9 := KBe.out.set 4 (.bool ((0 : Int) != 0))
              rw [HNN.out, HNX.out, HCC.out, HPN.out, HPS.out] at h9
              exact h9
            · refine (HOz.out.keep CE.out (fun q hq hm => ?_)).keep CF (fun q hq hm => ?_)
              · have h1 : g9 = q := by simpa [Value.ownBlock] using hq
                have h2 := List.mem_singleton.1 hm
                rcases HG9.out with h3 | h3
                · have h4 := (HVW.out g9 h3).2.2; have h5 := HSZ.out; omega
                · have h4 := K48.out.lt; omega
              · have h1 : g9 = q := by simpa [Value.ownBlock] using hq
                exact HG9b.out (h1.trans (List.mem_singleton.1 hm))
            · have h1 : g9 = q := by simpa [Value.ownBlock] using hq
              subst h1
              refine ⟨HG9.out.imp id (fun h2 => Nat.le_trans HS8.out.1 h2), fun hm => ?_, HG9b.out⟩
              rcases HG9.out with h3 | h3
              · rcases HSUB.out _ hm with h4 | h4
                · exact (HVW.out _ h3).1 h4
                · have h5 := (HVW.out _ h3).2.2; have h6 := HW7.out; omega
              · have h4 := HD.out.lt _ hm; have h5 := HS8.out; omega
end Go.Proofs.YtpmkgedlnanjiaaGreatDoor
