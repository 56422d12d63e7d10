/-
  Journal: the reference appends to a journal.
-/
import Derived.Test.YtpmkgedlnanjiaaGreatDoorJuE
import Derived.Test.YtpmkgedlnanjiaaGreatDoorJoI
import Derived.Test.YtpmkgedlnanjiaaGreatDoorJvA
namespace Go.Proofs.YtpmkgedlnanjiaaGreatDoor
set_option linter.unusedVariables false
set_option linter.unusedSimpArgs false
set_option maxRecDepth 100000
open Go Go.RowKit
attribute [local irreducible] Go.wpStill
theorem info_int44 : ∃ i, Tryz.prog.info? 3 = some i ∧ i.zero = some (.int .i64 0) ∧ i.size = 1 ∧ i.bytes = 8 := by
  have h : (Tryz.prog.info? 3).map (fun i => (i.zero, i.size, i.bytes)) = some (some (.int .i64 0), 1, 8) := by kernel_rfl
  cases hi : Tryz.prog.info? 3 with
  | none => rw [hi] at h; cases h
  | some i =>
    rw [hi] at h
    simp only [Option.map_some, Option.some.injEq, Prod.mk.injEq] at h
    exact ⟨i, rfl, h⟩
def vnum (p : Nat) (i : Nat) : Value := .int .i64 ((p + i : Nat) : Int)
/-- Places that follow one another, in a row of their own. -/
def OwI (B p n : Nat) (v : Value) (w : World) : Prop := w.ownsRow B 3 1 v n ((List.range n).map (vnum p))
theorem OwI.nil (B p : Nat) (w : World) : OwI B p 0 (.slice none 0 0) w := ⟨by simp, .inl ⟨rfl, rfl⟩⟩
theorem OwI.form {B p n : Nat} {v : Value} {w : World} (h : OwI B p n v w) : ∃ ao cap, v = .slice ao n cap := by
  rcases h.2 with ⟨rfl, h0⟩ | ⟨g, cap, cur, rfl, _⟩
  · exact ⟨none, 0, by rw [h0]⟩
  · exact ⟨_, _, rfl⟩
theorem OwI.keep {B p n : Nat} {v : Value} {own : List Nat} {w w' : World} (h : OwI B p n v w) (hc : Chg own w w') (hn : ∀ k, v.ownBlock = some k → k ∉ own) : OwI B p n v w' := by
  refine ⟨h.1, ?_⟩
  rcases h.2 with h0 | ⟨g, cap, cur, rfl, hb, hg, rest⟩
  · exact .inl h0
  · exact .inr ⟨g, cap, cur, rfl, hb, (hc.block g (Array.getElem?_eq_some_iff.1 hg).1 (hn g rfl)).trans hg, rest⟩
theorem OwI.ge {B p n : Nat} {v : Value} {w : World} (h : OwI B p n v w) : ∀ k, v.ownBlock = some k → B ≤ k ∧ k < w.heap.size := fun k hk => by
  rcases h.2 with ⟨rfl, _⟩ | ⟨g, cap, cur, rfl, hb, hg, _⟩
  · simp [Value.ownBlock] at hk
  · simp only [Value.ownBlock, Option.some.injEq] at hk
    subst hk
    exact ⟨hb, (Array.getElem?_eq_some_iff.1 hg).1⟩
theorem OwI.pls {B p n : Nat} {v : Value} {w : World} (h : OwI B p n v w) : Pls w v p n := by
  rcases h.2 with ⟨rfl, h0⟩ | ⟨g, cap, cur, rfl, hB, hg, hle, hm, hsz, ht⟩
  · exact ⟨none, 0, by rw [h0], by omega, fun i hi => by omega⟩
  · refine ⟨_, cap, rfl, hle, fun i hi => ⟨g, 0, rfl, ?_⟩⟩
    have := World.ownsRow.cellAt h i (by omega)
    rw [Nat.zero_add, this, List.getElem?_map, List.getElem?_range hi]
    rfl
/-- A place is appended. -/
theorem wpList_place {w : World} {ops : Array Oper} {rest : List Oper} {o : Oper} {a : Act} {Q : Exit → Act → World → Prop} (hgd : o.guard = none) (s x : Operand)
    (ho : o.op = .call { callee := .builtin .append, args := #[s, x], argTypes := #[84, 84] }) (B p k : Nat) (v : Value) (hs : a.eval s = v) (hown : OwI B p k v w) (g0 : Nat) (hx : a.eval x = .slice (some ⟨g0, 0, none⟩) 1 1) (hc : w.cell? ⟨g0, 0, none⟩ = some (vnum p k))
    (hsz : k ≤ 1000000) (hbase : B ≤ w.heap.size)
    (h : ∀ v' w', OwI B p (k + 1) v' w' → Chg v.ownBlock.toList w w' → (∀ q, v'.ownBlock = some q → v.ownBlock = some q ∨ w.heap.size ≤ q) → wpList Tryz.prog ops Q rest (a.put o.dst v') w') :
    wpList Tryz.prog ops Q (o :: rest) a w := by
  obtain ⟨imi, i1, i2, i3, i4⟩ := info_int44
  refine wpList_append_lies _ hgd s x 84 ho B 3 imi (.int .i64 0) 1 8 Tryz.underlying84 i1 i2 i3 i4 rfl (by decide) v k ((List.range k).map (vnum p)) hs hown ⟨g0, 0, none⟩ 1 1 [vnum p k] hx rfl (fun j u hj => ?_) (by intro u hu; simp at hu; rcases hu with rfl; rfl) (by omega) (by unfold maxLen; omega) (by omega) hbase _ rfl (fun g cap w' h1 h2 h3 h4 => h _ w' ?_ ?_ ?_)
  · cases j with
    | zero => injection hj with hj; subst hj; exact hc
    | succ j => simp at hj
  · unfold OwI
    rw [List.range_succ, List.map_append]
    exact h1
  · exact (Chg.refl _ _).grown h2 (fun q hq => .inl (Option.mem_toList.2 hq))
  · intro q hq
    have : g = q := by simpa [Value.ownBlock] using hq
    subst this
    rcases h3 with h3 | h3
    · exact .inl h3
    · exact .inr (by omega)
theorem OwT.form2 {B n : Nat} {l : List Bytes} {v : Value} {w : World} (h : OwT B l v w) (hn : l.length = n) : ∃ ao cap, v = .slice ao n cap := by
  subst hn
  exact h.form
/-- A row of its own lies off the blocks of the disk. -/
theorem off_mid {v : Value} {B : Nat} {w0 w : World} {own own' : List Nat} (h : ∀ q, v.ownBlock = some q → B ≤ q ∧ q < w.heap.size) (h0 : ∀ k ∈ own, k < w0.heap.size) (hB : w0.heap.size ≤ B) (hs : ∀ k ∈ own', k ∈ own ∨ w.heap.size ≤ k) : ∀ q, v.ownBlock = some q → q ∉ own' := fun q hq hm => by
  have h1 := h q hq
  rcases hs q hm with h2 | h2
  · have := h0 q h2; omega
  · omega
theorem offV_own {n cap : Nat} {ao : Option Addr} {own : List Nat} {e : TypeId} {B s m : Nat} {xs : List Value} {w : World} (ho : w.ownsRow B e s (.slice ao n cap) m xs) (h : ∀ q, (Value.slice ao n cap).ownBlock = some q → q ∉ own) : offV (.slice ao n cap) own := fun ad k c he => by
  injection he with h1 _ _
  subst h1
  rcases ho.2 with ⟨h2, _⟩ | ⟨g, cap2, cur, h2, _⟩
  · cases h2
  · injection h2 with h2 _ _
    injection h2 with h2
    subst h2
    exact h g rfl
theorem sectors_take44 (sm : Bytes → Bytes) {p k : Nat} {l : List Bytes} {x : Bytes} (h : l[k]? = some x) : Jn.sectors sm p (l.take (k + 1)) = Jn.sectors sm p (l.take k) ++ [Jn.sector sm (p + k) x] := by
  have hk := (List.getElem?_eq_some_iff.1 h).1
  rw [List.take_add_one, h, Option.toList_some, sectors_snoc44, List.length_take, Nat.min_eq_left (by omega)]
def Dj (a b c : Value) : Prop := (∀ q, a.ownBlock = some q → b.ownBlock ≠ some q ∧ c.ownBlock ≠ some q) ∧ ∀ q, b.ownBlock = some q → c.ownBlock ≠ some q
theorem Dj.one {a a' b c : Value} {w : World} (h : Dj a b c) (hn : ∀ q, a'.ownBlock = some q → a.ownBlock = some q ∨ w.heap.size ≤ q) (hb : ∀ q, b.ownBlock = some q → q < w.heap.size) (hc : ∀ q, c.ownBlock = some q → q < w.heap.size) : Dj a' b c :=
  ⟨fun q hq => by
    rcases hn q hq with h1 | h1
    · exact h.1 q h1
    · exact ⟨fun h2 => by have := hb q h2; omega, fun h2 => by have := hc q h2; omega⟩, h.2⟩
theorem Dj.rot {a b c : Value} (h : Dj a b c) : Dj b c a := ⟨fun q hq => ⟨h.2 q hq, fun h2 => (h.1 q h2).1 hq⟩, fun q hq h2 => (h.1 q h2).2 hq⟩
theorem steps_step {E E' : DK} {e : Int} {p : Nat} {l : List Bytes} {r : List (Nat × List Bytes)} (h : Jn.put E p l = (e, E')) : Jn.steps E ((p, l) :: r) = if e ≠ 0 then (e, E') else Jn.steps E' r := by
  rw [Jn.steps_cons]
  show (if (Jn.put E p l).1 ≠ 0 then Jn.put E p l else Jn.steps (Jn.put E p l).2 r) = _
  rw [h]
theorem rroom_nil (w : World) {R : Ending → World → Prop} (h : R (.returned (.int .i64 0)) w) : Calls Tryz.prog 19 #[.pointer none] w R := by
  go_enter Tryz.func19, Tryz.ntmps19
  go_wp2_with fail
  exact h
theorem rroom_r {w : World} {B b p : Nat} {j : Jn.J} {v : Value} (H : Hid (KR w B b p j v)) (hn : j.n ≤ 4000) (hc : j.c + 2 ≤ j.n) {R : Ending → World → Prop} (h : ∀ w', Chg [] w w' → R (.returned (.int .i64 (Jn.room j : Int))) w') :
    Calls Tryz.prog 19 #[.pointer (some ⟨b, 0, none⟩)] w R := by
  have HRR := Lib.hid h
  clear h
  obtain ⟨n, hn1⟩ : ∃ n, n = j.n := ⟨_, rfl⟩
  obtain ⟨c, hc1⟩ : ∃ c, c = j.c := ⟨_, rfl⟩
  have HNN := Lib.hid hn1
  have HCC := Lib.hid hc1
  have c1 := H.out.blk.cell (i := 1) rfl
  have c2 := H.out.blk.cell (i := 2) rfl
  rw [← hn1] at c1 hn hc
  rw [← hc1] at c2 hc
  clear hn1 hc1
  have y1 : IntKind.i64.wrap ((n : Int) - 2) = (n : Int) - 2 := IntWalk.i64_in _ (by omega)
  have y2 : IntKind.i64.wrap ((n : Int) - 2 - (c : Int)) = (n : Int) - 2 - (c : Int) := IntWalk.i64_in _ (by omega)
  go_enter Tryz.func19, Tryz.ntmps19
  go_upto_region 3 with (fail)
  go_quiet (fail)
  go_wp2_with fail
  have e : ((Jn.room j : Nat) : Int) = (n : Int) - 2 - (c : Int) := by unfold Jn.room; rw [← HNN.out, ← HCC.out]; omega
  show R (.returned (.int .i64 ((n : Int) - 2 - (c : Int)))) _
  rw [← e]
  exact HRR.out _ (chg_drew44 w _)
theorem rrecords_nil (w : World) {R : Ending → World → Prop} (h : R (.returned (.slice none 0 0)) w) : Calls Tryz.prog 18 #[.pointer none] w R := by
  go_enter Tryz.func18, Tryz.ntmps18
  go_wp2_with fail
  exact h
theorem rrecords_r {w : World} {B b p : Nat} {j : Jn.J} {v : Value} (H : Hid (KR w B b p j v)) {R : Ending → World → Prop} (h : R (.returned v) w) : Calls Tryz.prog 18 #[.pointer (some ⟨b, 0, none⟩)] w R := by
  obtain ⟨vo, vc, rfl⟩ := H.out.own.form
  have HRR := Lib.hid h
  clear h
  have c3 := H.out.blk.cell (i := 3) rfl
  go_enter Tryz.func18, Tryz.ntmps18
  go_wp2_with fail
  exact HRR.out
theorem rappend_nil (w : World) (v : Value) {R : Ending → World → Prop} (h : R (.returned (.int .i64 1)) w) : Calls Tryz.prog 30 #[.pointer none, v] w R := by
  go_enter Tryz.func30, Tryz.ntmps30
  go_wp2_with fail
  exact h
def RAppended (w : World) (B : Nat) (own : List Nat) (b p : Nat) (v : Value) (D : DK) (j : Jn.J) (rs : List Bytes) (R : Ending → World → Prop) : Prop :=
  ∀ e j' E own' v' w', Jn.append Dg.sum j D rs = ((e, j'), E) → RfAt w' own' p E → Chg (b :: own) w w' → (∀ k ∈ own', k ∈ own ∨ w.heap.size ≤ k) → KR w' B b p j' v' →
    (∀ k, v'.ownBlock = some k → (v.ownBlock = some k ∨ w.heap.size ≤ k) ∧ k ∉ own' ∧ k ≠ b) → R (.returned (.int .i64 e)) w'
set_option maxHeartbeats 4000000 in
theorem rappend_r {w : World} {own : List Nat} {B b p : Nat} {D : DK} {j : Jn.J} {v : Value} (H : Hid (RfAt w own p D)) (HJ : Hid (KR w B b p j v)) (HB : Hid (b ∉ own ∧ ∀ k, v.ownBlock = some k → k ∉ own ∧ k ≠ b)) (rv : Value) (rs : List Bytes) (HV : Hid (Strs w rv rs)) (HO : Hid (rs ≠ [] → offV rv (b :: own)))
    (hr : rs.length ≤ 900) (HR9 : Hid (∀ x ∈ rs, x.length ≤ 1000000)) (HT9 : Hid ((Jn.text rs).length ≤ 900000)) (hn : j.n ≤ 4000) (hc : j.c + 2 ≤ j.n) (hll : j.l.length ≤ 90000) (hBw : B ≤ w.heap.size) (hq : D.q.length ≤ 1000) {R : Ending → World → Prop} (h : Hid (RAppended w B own b p v D j rs R)) :
    Calls Tryz.prog 30 #[.pointer (some ⟨b, 0, none⟩), rv] w R := by
  have HRR := h
  clear h
  obtain ⟨n, c, l, qb⟩ := j
  have hn : n ≤ 4000 := hn
  have hc : c + 2 ≤ n := hc
  have HNC := Lib.hid (And.intro hn hc)
  have HLL : Hid (l.length ≤ 90000) := Lib.hid hll
  have HQ := Lib.hid hq
  clear hll hq
  obtain ⟨vo, vc, hv⟩ := HJ.out.own.form
  have hv : v = .slice vo l.length vc := hv
  subst hv
  obtain ⟨ln, hln⟩ : ∃ z, z = l.length := ⟨_, rfl⟩
  have HLN := Lib.hid hln
  have HBK : Hid (Blk w b [.pointer (some ⟨p, 0, none⟩), .int .i64 (n : Int), .int .i64 (c : Int), .slice vo ln vc, .bool qb] 82) := Lib.hid (by rw [hln]; exact HJ.out.blk)
  have HOW : Hid (OwT B l (.slice vo ln vc) w) := Lib.hid (by rw [hln]; exact HJ.out.own)
  rw [← hln] at HB HJ HRR
  clear hln
  obtain ⟨ro, rc, rfl, hrc, -⟩ := HV.out
  obtain ⟨rn, hrn⟩ : ∃ z, z = rs.length := ⟨_, rfl⟩
  have HRN := Lib.hid hrn
  rw [← hrn] at hr hrc HV HO ⊢
  clear hrn
  have HEND : Hid (∀ e wg, Jn.append Dg.sum ⟨n, c, l, qb⟩ D rs = ((e, ⟨n, c, l, qb⟩), D) → Chg [] w wg → R (.returned (.int .i64 e)) wg) := Lib.hid (fun e wg h1 h2 => HRR.out e _ D own (.slice vo ln vc) wg h1 (H.out.kept h2 (by simp)) (h2.mono (by simp)) (fun k hk => .inl hk) ⟨h2.blk HBK.out (by simp), HOW.out.keep h2 (by simp)⟩ (fun k hk => ⟨.inl hk, HB.out.2 k hk⟩))
  have c4 := HBK.out.cell (i := 4) rfl
  go_enter Tryz.func30, Tryz.ntmps30
  cases qb with
  | true =>
    go_wp2_with fail
    exact HEND.out 12 w (by unfold Jn.append; rw [if_pos rfl]) (Chg.refl _ _)
  | false =>
    go_wp2_with fail
    refine rlong_r _ rs HV (by have := HRN.out; omega) ?_
    clear c4
    obtain ⟨lg, hlg⟩ : ∃ z, z = rs.any (fun r => decide (2000 < r.length)) := ⟨_, rfl⟩
    rw [← hlg]
    have HLG := Lib.hid hlg
    clear hlg
    cases lg with
    | true =>
      go_wp2_with fail
      exact HEND.out 3 w (by unfold Jn.append; rw [if_neg (by show ¬ false = true; decide), if_pos HLG.out.symm]) (Chg.refl _ _)
    | false =>
      have HQ0 : Hid (¬ (false : Bool) = true) := Lib.hid (by decide)
      have HQ1 : Hid (¬ rs.any (fun r => decide (2000 < r.length)) = true) := Lib.hid (by rw [← HLG.out]; decide)
      go_wp2_with fail
      refine rtext_r _ rs HV (by have := HRN.out; omega) HR9 (fun w1 hc1 => ?_)
      have C1 := Lib.hid hc1
      clear hc1
      obtain ⟨tx, htx⟩ : ∃ z, z = Jn.text rs := ⟨_, rfl⟩
      rw [← htx]
      have HTX := Lib.hid htx
      clear htx
      go_wp2_with fail
      refine rpieces_r tx (by rw [HTX.out]; have := HT9.out; omega) (fun pv w2 ho hc2 => ?_)
      have C2 : Hid (Chg [] w w2) := Lib.hid (C1.out.trans hc2 (by simp))
      obtain ⟨ps, hps⟩ : ∃ z, z = Jn.pieces tx := ⟨_, rfl⟩
      rw [← hps] at ho
      have HPS : Hid (ps = Jn.pieces (Jn.text rs)) := Lib.hid (by rw [hps, HTX.out])
      have HPO : Hid (OwT w1.heap.size ps pv w2) := Lib.hid ho
      obtain ⟨po, pc, rfl⟩ := ho.form
      obtain ⟨k, hk⟩ : ∃ z, z = ps.length := ⟨_, rfl⟩
      rw [← hk] at HPO ⊢
      have HK := Lib.hid hk
      clear ho hc2 hps hk
      have HP46 : Hid (∀ x ∈ ps, 1 ≤ x.length ∧ x.length ≤ 46) := Lib.hid (by rw [HPS.out]; exact Jn.split_len _ _)
      go_wp2_with fail
      refine rroom_r (Lib.hid (⟨C2.out.blk HBK.out (by simp), HOW.out.keep C2.out (by simp)⟩ : KR w2 B b p ⟨n, c, l, false⟩ (.slice vo ln vc))) hn hc (fun w3 hc3 => ?_)
      have C3 : Hid (Chg [] w w3) := Lib.hid (C2.out.trans hc3 (by simp))
      have HPO3 := Lib.hid (HPO.out.keep hc3 (by simp))
      clear hc3
      obtain ⟨rm, hrm⟩ : ∃ z, z = Jn.room ⟨n, c, l, false⟩ := ⟨_, rfl⟩
      rw [← hrm]
      have HRM := Lib.hid hrm
      have hrv : rm = n - 2 - c := hrm
      clear hrm
      by_cases hfull : rm < k
      · have z1 : (rm : Int) < (k : Int) := by omega
        go_wp2_with fail
        exact HEND.out 23 w3 (by unfold Jn.append; rw [if_neg HQ0.out, if_neg HQ1.out, if_pos (by rw [← HRM.out, ← HPS.out, ← HK.out]; exact hfull)]) C3.out
      have z1 : ¬ (rm : Int) < (k : Int) := by omega
      have HQ2 : Hid (¬ Jn.room ⟨n, c, l, false⟩ < (Jn.pieces (Jn.text rs)).length) := Lib.hid (by rw [← HRM.out, ← HPS.out, ← HK.out]; exact hfull)
      by_cases hemp : rs = []
      · have z2 : rn = 0 := by rw [HRN.out, hemp]; rfl
        have z3 : (rn : Int) = 0 := by omega
        have HAP : Hid (Jn.append Dg.sum ⟨n, c, l, false⟩ D rs = ((0, ⟨n, c, l, false⟩), D)) := Lib.hid (by unfold Jn.append; rw [if_neg HQ0.out, if_neg HQ1.out, if_neg HQ2.out, if_pos hemp])
        subst z2
        clear hemp
        go_wp2_with fail
        exact HEND.out 0 w3 HAP.out C3.out
      have HNE := Lib.hid hemp
      have z2 : ((rn : Int) == 0) = false := by rw [beq_eq_false_iff_ne]; intro h9; exact hemp (List.eq_nil_of_length_eq_zero (by have := HRN.out; omega))
      clear hemp
      have hk2 : k + c + 2 ≤ n := by omega
      obtain ⟨s, hs⟩ : ∃ z, z = 2 + c := ⟨_, rfl⟩
      have HS := Lib.hid hs
      have y1 : IntKind.i64.wrap (2 + (c : Int)) = (s : Int) := by rw [IntWalk.i64_in _ (by omega)]; omega
      clear hs
      obtain ⟨B1, hB1⟩ : ∃ z, z = w3.heap.size := ⟨_, rfl⟩
      have HB1 := Lib.hid hB1
      clear hB1
      clear hrv
      go_wp2_with fail
      clear z1 z2 hfull
      go_loopw [6, 7, 8, 9] (fun av bv dv iv wr => ∃ (i : Nat) (ao : Option Addr) (ac : Nat) (bo : Option Addr) (bc : Nat) (so : Option Addr) (sc : Nat), i ≤ k ∧ av = .slice ao i ac ∧ bv = .slice bo i bc ∧ dv = .slice so i sc ∧ iv = .int .i64 (i : Int) ∧ Hid (Chg [] w wr ∧ Chg [] w3 wr) ∧ Hid (OwI B1 s i (.slice ao i ac) wr) ∧ Hid (OwT B1 (List.replicate i Jn.zero) (.slice bo i bc) wr) ∧ Hid (OwT B1 (Jn.sectors Dg.sum s (ps.take i)) (.slice so i sc) wr) ∧ Hid (Dj (.slice ao i ac) (.slice bo i bc) (.slice so i sc))) (fun _ _ _ iv _ => k - (intOf iv).toNat)
      case atStart => exact ⟨0, none, 0, none, 0, none, 0, Nat.zero_le _, rfl, rfl, rfl, rfl, Lib.hid ⟨C3.out, Chg.refl _ _⟩, Lib.hid (OwI.nil _ _ _), Lib.hid (OwT.nil _ _), Lib.hid (OwT.nil _ _), Lib.hid ⟨fun q hq => (by simp [Value.ownBlock] at hq), fun q hq => (by simp [Value.ownBlock] at hq)⟩⟩
      case round =>
        rename World => wr
        obtain ⟨i, ao, ac, bo, bc, so, sc, hik, rfl, rfl, rfl, rfl, HC, HA, HZ, HSS, HDJ⟩ := hrel
        have HPR := Lib.hid (HPO3.out.keep HC.out.2 (by simp))
        have HBA : Hid (B1 ≤ wr.heap.size) := Lib.hid (by rw [HB1.out]; exact HC.out.2.size)
        by_cases hlt : i < k
        · obtain ⟨x, hx⟩ : ∃ x, ps[i]? = some x := ⟨ps[i]'(by rw [← HK.out]; exact hlt), by simp⟩
          have HX := Lib.hid hx
          have hxl : x.length ≤ 46 := (HP46.out x (List.mem_of_getElem? hx)).2
          have HXL := Lib.hid hxl
          clear hx hxl
          obtain ⟨ao9, cp9, he, hle, hv9⟩ := HPO3.out.strs
          injection he with he1 he2 he3
          obtain ⟨g, off, hg, hcl⟩ := hv9 i x HX.out
          rw [← he1] at hg
          rw [← he2, ← he3] at hle
          clear he1 he2 he3 hv9 ao9 cp9
          have HCL3 : Hid (w3.cell? ⟨g, off + i, none⟩ = some (.string ⟨x.toArray⟩)) := Lib.hid hcl
          have z5 : (k : Int) ≤ (pc : Int) := by omega
          clear hcl hle
          subst hg
          obtain ⟨pk, hpk⟩ : ∃ z, z = s + i := ⟨_, rfl⟩
          have HPK := Lib.hid hpk
          have hpl : pk ≤ 5000 := by have := HS.out; omega
          have y2 : IntKind.i64.wrap ((i : Int) + (s : Int)) = (pk : Int) := by rw [IntWalk.i64_in _ (by have := HS.out; omega)]; omega
          have y3 : IntKind.i64.wrap ((s : Int) + (i : Int)) = (pk : Int) := by rw [IntWalk.i64_in _ (by have := HS.out; omega)]; omega
          clear hpk
          have c2 := (HC.out.1.blk HBK.out (by simp)).cell (i := 2) rfl
          have z3 : (i : Int) < (k : Int) := by omega
          have z4 : (0 : Int) ≤ (i : Int) := by omega
          obtain ⟨xa, hxa⟩ : ∃ W, W = wr.alloc (.cells #[.int .i64 (pk : Int)] 3) := ⟨_, rfl⟩
          have CA : Hid (Chg [] wr xa) := Lib.hid (by rw [hxa]; exact (Chg.refl _ _).alloc _)
          have HCA : Hid (xa.cell? ⟨wr.heap.size, 0, none⟩ = some (vnum s i)) := Lib.hid (by rw [hxa]; show _ = some (Value.int .i64 ((s + i : Nat) : Int)); rw [← HPK.out]; exact (Blk.new wr [.int .i64 (pk : Int)] _).cell (i := 0) rfl)
          have HAA := Lib.hid (HA.out.keep CA.out (by simp))
          have HBA1 : Hid (B1 ≤ xa.heap.size) := Lib.hid (by have := HBA.out; have := CA.out.size; omega)
          have HXA := Lib.hid hxa
          have hik3 : i ≤ 5000 := by omega
          clear hxa
          go_upto_region 19 with (fail)
          go_wp2_with (at_builtin; rw [← HXA.out]; go_loud (refine wpList_place rfl (.tmp 45) (.tmp 47) rfl B1 s i (.slice ao i ac) (by rfl) HAA.out wr.heap.size (by rfl) HCA.out (by omega) HBA1.out ?kk))
          case kk =>
            intro v4 w4 h5 h6 h7
            have HA4 : Hid (OwI B1 s (i + 1) v4 w4) := Lib.hid h5
            obtain ⟨a4, ac4, rfl⟩ := h5.form
            have h6b := h6
            have HDA : Hid (Dj (.slice a4 (i + 1) ac4) (.slice bo i bc) (.slice so i sc)) := Lib.hid (HDJ.out.one h7 (fun q hq => Nat.lt_of_lt_of_le (HZ.out.ge q hq).2 CA.out.size) (fun q hq => Nat.lt_of_lt_of_le (HSS.out.ge q hq).2 CA.out.size))
            have HZ4 := Lib.hid ((HZ.out.keep CA.out (by simp)).keep h6 (fun q hq hm => (HDJ.out.1 q (Option.mem_toList.1 hm)).1 hq))
            have HS4 := Lib.hid ((HSS.out.keep CA.out (by simp)).keep h6 (fun q hq hm => (HDJ.out.1 q (Option.mem_toList.1 hm)).2 hq))
            have HX4 : Hid (Chg [] w3 w4) := Lib.hid ((HC.out.2.trans CA.out (by simp)).trans h6 (fun q hq => .inr (by have := (HA.out.ge q (Option.mem_toList.1 hq)).1; have := HB1.out; omega)))
            clear h5 h6 h7 h6b
            have HB4 : Hid (B1 ≤ w4.heap.size) := Lib.hid (by rw [HB1.out]; exact HX4.out.size)
            go_wp2_with fail
            refine rzero_r (fun w5 hc => ?_)
            have HA5 := Lib.hid (HA4.out.keep hc (by simp))
            have HZ5 := Lib.hid (HZ4.out.keep hc (by simp))
            have HS5 := Lib.hid (HS4.out.keep hc (by simp))
            have HX5 : Hid (Chg [] w3 _) := Lib.hid (HX4.out.trans hc (by simp))
            clear hc HA4 HZ4 HS4 HX4
            obtain ⟨xb, hxb⟩ : ∃ W, W = w5.alloc (.cells #[.string ⟨Jn.zero.toArray⟩] 9) := ⟨_, rfl⟩
            have HXB := Lib.hid hxb
            have CB : Hid (Chg [] w5 xb) := Lib.hid (by rw [hxb]; exact (Chg.refl _ _).alloc _)
            have HXS : Hid (Strs xb (.slice (some ⟨w5.heap.size, 0, none⟩) 1 1) [Jn.zero]) := Lib.hid (by rw [hxb]; exact strs_one _ _)
            clear hxb
            have HA6 := Lib.hid (HA5.out.keep CB.out (by simp))
            have HZ6 := Lib.hid (HZ5.out.keep CB.out (by simp))
            have HS6 := Lib.hid (HS5.out.keep CB.out (by simp))
            have HX6 : Hid (Chg [] w3 _) := Lib.hid (HX5.out.trans CB.out (by simp))
            have HB6 : Hid (B1 ≤ xb.heap.size) := Lib.hid (by rw [HB1.out]; exact HX6.out.size)
            clear HA5 HZ5 HS5 HX5
            go_wp2_with (at_builtin; rw [← HXB.out]; go_loud (refine wpList_strs rfl (.tmp 49) (.tmp 51) rfl B1 (List.replicate i Jn.zero) (.slice bo i bc) (by rfl) HZ6.out [Jn.zero] (.slice (some ⟨w5.heap.size, 0, none⟩) 1 1) (by rfl) HXS.out (by simp only [List.length_replicate, List.length_singleton]; omega) HB6.out ?kk2))
            case kk2 =>
              intro v7 w7 h5 h6 h7
              rw [← List.replicate_succ'] at h5
              have HZ7 : Hid (OwT B1 (List.replicate (i + 1) Jn.zero) v7 w7) := Lib.hid h5
              obtain ⟨b7, bc7, rfl⟩ := h5.form2 (n := i + 1) (by simp)
              have HDB : Hid (Dj (.slice b7 (i + 1) bc7) (.slice so i sc) (.slice a4 (i + 1) ac4)) := Lib.hid (HDA.out.rot.one h7 (fun q hq => (HS6.out.ge q hq).2) (fun q hq => (HA6.out.ge q hq).2))
              have HA7 := Lib.hid (HA6.out.keep h6 (fun q hq hm => (HDA.out.1 q hq).1 (Option.mem_toList.1 hm)))
              have HS7 := Lib.hid (HS6.out.keep h6 (fun q hq hm => HDA.out.2 q (Option.mem_toList.1 hm) hq))
              have HX7 : Hid (Chg [] w3 w7) := Lib.hid (HX6.out.trans h6 (fun q hq => .inr (by have := (HZ6.out.ge q (Option.mem_toList.1 hq)).1; have := HB1.out; omega)))
              clear h5 h6 h7 HZ6 HS6 HX6 HA6
              have HWR : Hid (Chg [] w3 wr) := Lib.hid HC.out.2
              have HGL : Hid (g < w3.heap.size) := Lib.hid (HPO3.out.ge g rfl).2
              have c3 : w7.cell? ⟨g, off + i, none⟩ = some (.string ⟨x.toArray⟩) := cell_quiet HX7.out HCL3.out (by simp)
              go_wp2_with fail
              refine rsector_r pk x (by omega) HXL.out (fun w8 hc => ?_)
              have HA8 := Lib.hid (HA7.out.keep hc (by simp))
              have HZ8 := Lib.hid (HZ7.out.keep hc (by simp))
              have HS8 := Lib.hid (HS7.out.keep hc (by simp))
              have HX8 : Hid (Chg [] w3 _) := Lib.hid (HX7.out.trans hc (by simp))
              clear hc c3 HA7 HZ7 HS7 HX7
              obtain ⟨sx, hsx⟩ : ∃ z, z = Jn.sector Dg.sum pk x := ⟨_, rfl⟩
              rw [← hsx]
              have HSX := Lib.hid hsx
              clear hsx
              obtain ⟨xd, hxd⟩ : ∃ W, W = w8.alloc (.cells #[.string ⟨sx.toArray⟩] 9) := ⟨_, rfl⟩
              have HXD := Lib.hid hxd
              have CD : Hid (Chg [] w8 xd) := Lib.hid (by rw [hxd]; exact (Chg.refl _ _).alloc _)
              have HXT : Hid (Strs xd (.slice (some ⟨w8.heap.size, 0, none⟩) 1 1) [sx]) := Lib.hid (by rw [hxd]; exact strs_one _ _)
              clear hxd
              have HA9 := Lib.hid (HA8.out.keep CD.out (by simp))
              have HZ9 := Lib.hid (HZ8.out.keep CD.out (by simp))
              have HS9 := Lib.hid (HS8.out.keep CD.out (by simp))
              have HX9 : Hid (Chg [] w3 _) := Lib.hid (HX8.out.trans CD.out (by simp))
              have HB9 : Hid (B1 ≤ xd.heap.size) := Lib.hid (by rw [HB1.out]; exact HX9.out.size)
              clear HA8 HZ8 HS8 HX8
              go_wp2_with (at_builtin; rw [← HXD.out]; go_loud (refine wpList_strs rfl (.tmp 53) (.tmp 60) rfl B1 (Jn.sectors Dg.sum s (ps.take i)) (.slice so i sc) (by rfl) HS9.out [sx] (.slice (some ⟨w8.heap.size, 0, none⟩) 1 1) (by rfl) HXT.out (by rw [sectors_len44, List.length_take, List.length_singleton]; omega) HB9.out ?kk3))
              case kk3 =>
                intro v10 w10 h5 h6 h7
                rw [HSX.out, HPK.out, ← sectors_take44 Dg.sum HX.out] at h5
                have HS10 : Hid (OwT B1 (Jn.sectors Dg.sum s (ps.take (i + 1))) v10 w10) := Lib.hid h5
                obtain ⟨s10, sc10, rfl⟩ := h5.form2 (n := i + 1) (by rw [sectors_len44, List.length_take, ← HK.out]; omega)
                have HDC : Hid (Dj (.slice s10 (i + 1) sc10) (.slice a4 (i + 1) ac4) (.slice b7 (i + 1) bc7)) := Lib.hid (HDB.out.rot.one h7 (fun q hq => (HA9.out.ge q hq).2) (fun q hq => (HZ9.out.ge q hq).2))
                have HA10 := Lib.hid (HA9.out.keep h6 (fun q hq hm => HDB.out.rot.1 q (Option.mem_toList.1 hm) |>.1 hq))
                have HZ10 := Lib.hid (HZ9.out.keep h6 (fun q hq hm => HDB.out.rot.1 q (Option.mem_toList.1 hm) |>.2 hq))
                have HX10 : Hid (Chg [] w3 w10) := Lib.hid (HX9.out.trans h6 (fun q hq => .inr (by have := (HS9.out.ge q (Option.mem_toList.1 hq)).1; have := HB1.out; omega)))
                clear h5 h6 h7 HA9 HZ9 HS9 HX9
                go_wp2_with fail
                go_roundw
                case rel => exact ⟨i + 1, a4, ac4, b7, bc7, s10, sc10, by omega, rfl, rfl, rfl, by go_num, Lib.hid ⟨C3.out.trans HX10.out (by simp), HX10.out⟩, HA10, HZ10, HS10, Lib.hid HDC.out.rot⟩
                case measure => simp [intOf]; omega
        obtain rfl : i = k := by omega
        clear hlt hik HPR
        obtain ⟨c2, hc2⟩ : ∃ z, z = c + i := ⟨_, rfl⟩
        have HC2 := Lib.hid hc2
        have hc2n : c2 ≤ 4000 := by omega
        have HCN := Lib.hid hc2n
        have y2 : IntKind.i64.wrap ((c : Int) + (i : Int)) = (c2 : Int) := by rw [IntWalk.i64_in _ (by omega)]; omega
        clear hc2
        have z3 : ¬ (i : Int) < (i : Int) := by omega
        have HPL : Hid (Jn.plan Dg.sum c ps = [(s, List.replicate i Jn.zero), (s, Jn.sectors Dg.sum s ps), (1, [Jn.head Dg.sum 1 c2]), (0, [Jn.head Dg.sum 0 c2])]) := Lib.hid (by unfold Jn.plan; rw [← HS.out, List.map_const', ← HK.out, ← HC2.out])
        have HS0 : Hid (OwT B1 (Jn.sectors Dg.sum s ps) (.slice so i sc) wr) := Lib.hid (by have h9 := HSS.out; rw [List.take_of_length_le (by rw [← HK.out]; exact Nat.le_refl _)] at h9; exact h9)
        have HWB : Hid (w.heap.size ≤ B1 ∧ b < w.heap.size ∧ B1 ≤ wr.heap.size) := Lib.hid ⟨by rw [HB1.out]; exact C3.out.size, HBK.out.lt, HBA.out⟩
        have HJ0 : Hid (Blk wr b [.pointer (some ⟨p, 0, none⟩), .int .i64 (n : Int), .int .i64 (c : Int), .slice vo ln vc, .bool false] 82) := Lib.hid (HC.out.1.blk HBK.out (by simp))
        have HT0 : Hid (RfTo wr own p D wr) := Lib.hid ((H.out.kept HC.out.1 (by simp)).to (Chg.refl _ _))
        have HEQ0 : Hid (D.q.length ≤ 1000) := HQ
        have hsb : s ≤ 4000 ∧ i ≤ 4000 := by have := HS.out; omega
        have HSB := Lib.hid hsb
        clear HSS HBA
        obtain ⟨own0, hd, hch, hsub⟩ := HT0.out
        have HD0 := Lib.hid hd
        have HCH0 := Lib.hid hch
        have HSUB0 := Lib.hid hsub
        clear hd hch hsub
        have HK0 : Hid (Blk wr b [.pointer (some ⟨p, 0, none⟩), .int .i64 (n : Int), .int .i64 (c : Int), .slice vo ln vc, .bool false] 82) := Lib.hid (HCH0.out.blk HJ0.out HB.out.1)
        have HN0 : Hid (b ∉ own0) := Lib.hid (fun hm9 => by rcases HSUB0.out b hm9 with h | h; exact HB.out.1 h; have := HWB.out; omega)
        have HA0_ := Lib.hid (HA.out.keep HCH0.out (fun q hq hm => by have := (HA.out.ge q hq).1; have := H.out.lt q hm; have := HWB.out; omega))
        have HZ0_ := Lib.hid (HZ.out.keep HCH0.out (fun q hq hm => by have := (HZ.out.ge q hq).1; have := H.out.lt q hm; have := HWB.out; omega))
        have HOA0 : Hid (offV (.slice ao i ac) own0) := Lib.hid (offV_own HA.out (off_mid HA.out.ge (fun k hk => H.out.lt k hk) HWB.out.1 HSUB0.out))
        have HOZ0 : Hid (offV (.slice bo i bc) own0) := Lib.hid (offV_own HZ.out (off_mid HZ.out.ge (fun k hk => H.out.lt k hk) HWB.out.1 HSUB0.out))
        have y3 := HK0.out.cell (i := 2) rfl
        go_wp2_with fail
        refine rjwrite_r (own := own0) (b := b) (p := p) (D := D) HD0 (Lib.hid (HK0.out.cell (i := 0) rfl)) HN0.out s (List.replicate i Jn.zero) _ _ (Lib.hid (by rw [List.length_replicate]; exact HA0_.out.pls)) HOA0 (Lib.hid HZ0_.out.strs) HOZ0 ?qa0 ?qb0 (fun x1 ht => ?_)
        case qa0 => rw [List.length_replicate]; have := HEQ0.out; have := HSB.out; omega
        case qb0 => rw [List.length_replicate]; have := HSB.out; omega
        obtain ⟨e0, E1, hE⟩ : ∃ a b, Jn.put D s (List.replicate i Jn.zero) = (a, b) := ⟨_, _, rfl⟩
        rw [hE] at ht ⊢
        have HP0 : Hid (Jn.put D s (List.replicate i Jn.zero) = (e0, E1)) := Lib.hid hE
        have HT1 : Hid (RfTo wr own p E1 x1) := Lib.hid (RfTo.trans HCH0.out HSUB0.out ht)
        have HEQ1 : Hid (E1.q.length ≤ 5000) := Lib.hid (by have h9 := Jn.put_q (List.replicate i Jn.zero) D s; rw [HP0.out, List.length_replicate] at h9; have := HEQ0.out; have := HSB.out; have h9 : E1.q.length ≤ _ := h9; omega)
        clear hE ht y3
        by_cases hz : e0 = 0
        · subst hz
          obtain ⟨own1, hd, hch, hsub⟩ := HT1.out
          have HD1 := Lib.hid hd
          have HCH1 := Lib.hid hch
          have HSUB1 := Lib.hid hsub
          clear hd hch hsub
          have HK1 : Hid (Blk x1 b [.pointer (some ⟨p, 0, none⟩), .int .i64 (n : Int), .int .i64 (c : Int), .slice vo ln vc, .bool false] 82) := Lib.hid (HCH1.out.blk HJ0.out HB.out.1)
          have HN1 : Hid (b ∉ own1) := Lib.hid (fun hm9 => by rcases HSUB1.out b hm9 with h | h; exact HB.out.1 h; have := HWB.out; omega)
          have HA1_ := Lib.hid (HA.out.keep HCH1.out (fun q hq hm => by have := (HA.out.ge q hq).1; have := H.out.lt q hm; have := HWB.out; omega))
          have HZ1_ := Lib.hid (HS0.out.keep HCH1.out (fun q hq hm => by have := (HS0.out.ge q hq).1; have := H.out.lt q hm; have := HWB.out; omega))
          have HOA1 : Hid (offV (.slice ao i ac) own1) := Lib.hid (offV_own HA.out (off_mid HA.out.ge (fun k hk => H.out.lt k hk) HWB.out.1 HSUB1.out))
          have HOZ1 : Hid (offV (.slice so i sc) own1) := Lib.hid (offV_own HS0.out (off_mid HS0.out.ge (fun k hk => H.out.lt k hk) HWB.out.1 HSUB1.out))
          go_wp2_with fail
          refine rjwrite_r (own := own1) (b := b) (p := p) (D := E1) HD1 (Lib.hid (HK1.out.cell (i := 0) rfl)) HN1.out s (Jn.sectors Dg.sum s ps) _ _ (Lib.hid (by rw [sectors_len44, ← HK.out]; exact HA1_.out.pls)) HOA1 (Lib.hid HZ1_.out.strs) HOZ1 ?qa1 ?qb1 (fun x2 ht => ?_)
          case qa1 => rw [sectors_len44, ← HK.out]; have := HEQ1.out; have := HSB.out; omega
          case qb1 => rw [sectors_len44, ← HK.out]; have := HSB.out; omega
          obtain ⟨e1, E2, hE⟩ : ∃ a b, Jn.put E1 s (Jn.sectors Dg.sum s ps) = (a, b) := ⟨_, _, rfl⟩
          rw [hE] at ht ⊢
          have HP1 : Hid (Jn.put E1 s (Jn.sectors Dg.sum s ps) = (e1, E2)) := Lib.hid hE
          have HT2 : Hid (RfTo wr own p E2 x2) := Lib.hid (RfTo.trans HCH1.out HSUB1.out ht)
          have HEQ2 : Hid (E2.q.length ≤ 9000) := Lib.hid (by have h9 := Jn.put_q (Jn.sectors Dg.sum s ps) E1 s; rw [HP1.out, sectors_len44, ← HK.out] at h9; have := HEQ1.out; have := HSB.out; have h9 : E2.q.length ≤ _ := h9; omega)
          clear hE ht
          by_cases hz : e1 = 0
          · subst hz
            obtain ⟨own2, hd, hch, hsub⟩ := HT2.out
            have HD2 := Lib.hid hd
            have HCH2 := Lib.hid hch
            have HSUB2 := Lib.hid hsub
            clear hd hch hsub
            have HK2 : Hid (Blk x2 b [.pointer (some ⟨p, 0, none⟩), .int .i64 (n : Int), .int .i64 (c : Int), .slice vo ln vc, .bool false] 82) := Lib.hid (HCH2.out.blk HJ0.out HB.out.1)
            have HN2 : Hid (b ∉ own2) := Lib.hid (fun hm9 => by rcases HSUB2.out b hm9 with h | h; exact HB.out.1 h; have := HWB.out; omega)
            go_wp2_with fail
            obtain ⟨xa2, hxa⟩ : ∃ W, W = x2.alloc (.cells #[.int .i64 1] 3) := ⟨_, rfl⟩
            rw [← hxa]
            obtain ⟨pb2, hpb⟩ : ∃ z, z = x2.heap.size := ⟨_, rfl⟩
            rw [← hpb]
            have HPA2 : Hid (Pls xa2 (.slice (some ⟨pb2, 0, none⟩) 1 1) 1 1) := Lib.hid (by rw [hxa, hpb]; exact pls_one _ 1 _)
            have CA2 : Hid (Chg [] x2 xa2) := Lib.hid (by rw [hxa]; exact (Chg.refl _ _).alloc _)
            have HPV2 : Hid (offV (.slice (some ⟨pb2, 0, none⟩) 1 1) own2) := Lib.hid (offV_new HD2.out.lt (by omega))
            clear hxa hpb
            refine rhead_r 1 c2 (by omega) (by omega) (fun xb2 hc => ?_)
            have CB2 : Hid (Chg [] x2 xb2) := Lib.hid (CA2.out.trans hc (by simp))
            have HPB2 := Lib.hid (HPA2.out.quiet hc)
            clear hc
            obtain ⟨sc2, hsc⟩ : ∃ z, z = Jn.head Dg.sum 1 c2 := ⟨_, rfl⟩
            rw [← hsc]
            have HSC2 := Lib.hid hsc
            clear hsc
            go_wp2_with fail
            obtain ⟨xc2, hxc⟩ : ∃ W, W = xb2.alloc (.cells #[.string ⟨sc2.toArray⟩] 9) := ⟨_, rfl⟩
            rw [← hxc]
            have HSX2 : Hid (Strs xc2 (.slice (some ⟨xb2.heap.size, 0, none⟩) 1 1) [sc2]) := Lib.hid (by rw [hxc]; exact strs_one _ _)
            have CC2 : Hid (Chg [] xb2 xc2) := Lib.hid (by rw [hxc]; exact (Chg.refl _ _).alloc _)
            clear hxc
            have CD2 : Hid (Chg [] x2 xc2) := Lib.hid (CB2.out.trans CC2.out (by simp))
            have HSV2 : Hid (offV (.slice (some ⟨xb2.heap.size, 0, none⟩) 1 1) own2) := Lib.hid (offV_new HD2.out.lt CB2.out.size)
            refine rjwrite_r (own := own2) (b := b) (p := p) (D := E2) (Lib.hid (HD2.out.kept CD2.out (by simp))) (Lib.hid ((CD2.out.blk HK2.out (by simp)).cell (i := 0) rfl)) HN2.out 1 [sc2] _ _ (Lib.hid (HPB2.out.quiet CC2.out)) HPV2 HSX2 HSV2 ?qa2 ?qb2 (fun x3 ht => ?_)
            case qa2 => rw [List.length_singleton]; have := HEQ2.out; have := HSB.out; omega
            case qb2 => rw [List.length_singleton]; have := HSB.out; omega
            obtain ⟨e2, E3, hE⟩ : ∃ a b, Jn.put E2 1 ([sc2]) = (a, b) := ⟨_, _, rfl⟩
            rw [hE] at ht ⊢
            rw [HSC2.out] at hE
            have HP2 : Hid (Jn.put E2 1 ([Jn.head Dg.sum 1 c2]) = (e2, E3)) := Lib.hid hE
            have HT3 : Hid (RfTo wr own p E3 x3) := Lib.hid (RfTo.trans HCH2.out HSUB2.out (RfTo.trans (CD2.out.mono (by simp)) (fun q hq => .inl hq) ht))
            have HEQ3 : Hid (E3.q.length ≤ 13000) := Lib.hid (by have h9 := Jn.put_q ([Jn.head Dg.sum 1 c2]) E2 1; rw [HP2.out, List.length_singleton] at h9; have := HEQ2.out; have := HSB.out; have h9 : E3.q.length ≤ _ := h9; omega)
            clear hE ht
            by_cases hz : e2 = 0
            · subst hz
              obtain ⟨own3, hd, hch, hsub⟩ := HT3.out
              have HD3 := Lib.hid hd
              have HCH3 := Lib.hid hch
              have HSUB3 := Lib.hid hsub
              clear hd hch hsub
              have HK3 : Hid (Blk x3 b [.pointer (some ⟨p, 0, none⟩), .int .i64 (n : Int), .int .i64 (c : Int), .slice vo ln vc, .bool false] 82) := Lib.hid (HCH3.out.blk HJ0.out HB.out.1)
              have HN3 : Hid (b ∉ own3) := Lib.hid (fun hm9 => by rcases HSUB3.out b hm9 with h | h; exact HB.out.1 h; have := HWB.out; omega)
              go_wp2_with fail
              obtain ⟨xa3, hxa⟩ : ∃ W, W = x3.alloc (.cells #[.int .i64 0] 3) := ⟨_, rfl⟩
              rw [← hxa]
              obtain ⟨pb3, hpb⟩ : ∃ z, z = x3.heap.size := ⟨_, rfl⟩
              rw [← hpb]
              have HPA3 : Hid (Pls xa3 (.slice (some ⟨pb3, 0, none⟩) 1 1) 0 1) := Lib.hid (by rw [hxa, hpb]; exact pls_one _ 0 _)
              have CA3 : Hid (Chg [] x3 xa3) := Lib.hid (by rw [hxa]; exact (Chg.refl _ _).alloc _)
              have HPV3 : Hid (offV (.slice (some ⟨pb3, 0, none⟩) 1 1) own3) := Lib.hid (offV_new HD3.out.lt (by omega))
              clear hxa hpb
              refine rhead_r 0 c2 (by omega) (by omega) (fun xb3 hc => ?_)
              have CB3 : Hid (Chg [] x3 xb3) := Lib.hid (CA3.out.trans hc (by simp))
              have HPB3 := Lib.hid (HPA3.out.quiet hc)
              clear hc
              obtain ⟨sc3, hsc⟩ : ∃ z, z = Jn.head Dg.sum 0 c2 := ⟨_, rfl⟩
              rw [← hsc]
              have HSC3 := Lib.hid hsc
              clear hsc
              go_wp2_with fail
              obtain ⟨xc3, hxc⟩ : ∃ W, W = xb3.alloc (.cells #[.string ⟨sc3.toArray⟩] 9) := ⟨_, rfl⟩
              rw [← hxc]
              have HSX3 : Hid (Strs xc3 (.slice (some ⟨xb3.heap.size, 0, none⟩) 1 1) [sc3]) := Lib.hid (by rw [hxc]; exact strs_one _ _)
              have CC3 : Hid (Chg [] xb3 xc3) := Lib.hid (by rw [hxc]; exact (Chg.refl _ _).alloc _)
              clear hxc
              have CD3 : Hid (Chg [] x3 xc3) := Lib.hid (CB3.out.trans CC3.out (by simp))
              have HSV3 : Hid (offV (.slice (some ⟨xb3.heap.size, 0, none⟩) 1 1) own3) := Lib.hid (offV_new HD3.out.lt CB3.out.size)
              refine rjwrite_r (own := own3) (b := b) (p := p) (D := E3) (Lib.hid (HD3.out.kept CD3.out (by simp))) (Lib.hid ((CD3.out.blk HK3.out (by simp)).cell (i := 0) rfl)) HN3.out 0 [sc3] _ _ (Lib.hid (HPB3.out.quiet CC3.out)) HPV3 HSX3 HSV3 ?qa3 ?qb3 (fun x4 ht => ?_)
              case qa3 => rw [List.length_singleton]; have := HEQ3.out; have := HSB.out; omega
              case qb3 => rw [List.length_singleton]; have := HSB.out; omega
              obtain ⟨e3, E4, hE⟩ : ∃ a b, Jn.put E3 0 ([sc3]) = (a, b) := ⟨_, _, rfl⟩
              rw [hE] at ht ⊢
              rw [HSC3.out] at hE
              have HP3 : Hid (Jn.put E3 0 ([Jn.head Dg.sum 0 c2]) = (e3, E4)) := Lib.hid hE
              have HT4 : Hid (RfTo wr own p E4 x4) := Lib.hid (RfTo.trans HCH3.out HSUB3.out (RfTo.trans (CD3.out.mono (by simp)) (fun q hq => .inl hq) ht))
              have HEQ4 : Hid (E4.q.length ≤ 17000) := Lib.hid (by have h9 := Jn.put_q ([Jn.head Dg.sum 0 c2]) E3 0; rw [HP3.out, List.length_singleton] at h9; have := HEQ3.out; have := HSB.out; have h9 : E4.q.length ≤ _ := h9; omega)
              clear hE ht
              by_cases hz : e3 = 0
              · subst hz
                obtain ⟨own4, hd, hch, hsub⟩ := HT4.out
                have HD4 := Lib.hid hd
                have HCH4 := Lib.hid hch
                have HSUB4 := Lib.hid hsub
                clear hd hch hsub
                have HK4 : Hid (Blk x4 b [.pointer (some ⟨p, 0, none⟩), .int .i64 (n : Int), .int .i64 (c : Int), .slice vo ln vc, .bool false] 82) := Lib.hid (HCH4.out.blk HJ0.out HB.out.1)
                have HN4 : Hid (b ∉ own4) := Lib.hid (fun hm9 => by rcases HSUB4.out b hm9 with h | h; exact HB.out.1 h; have := HWB.out; omega)
                have y6 := HK4.out.cell (i := 2) rfl
                have y7 := HK4.out.free 2
                go_upto_region 34 with (fail)
                clear y6 y7
                obtain ⟨x5, h5⟩ : ∃ W, W = x4.setCell ⟨b, 2, none⟩ (.int .i64 (c2 : Int)) := ⟨_, rfl⟩
                rw [← h5]
                have C45 : Hid (Chg [b] x4 x5) := Lib.hid (by rw [h5]; exact (Chg.refl [b] x4).setCell _ _ (.inl (by simp)))
                have HK5 : Hid (Blk x5 b [.pointer (some ⟨p, 0, none⟩), .int .i64 (n : Int), .int .i64 (c2 : Int), .slice vo ln vc, .bool false] 82) := Lib.hid (by rw [h5]; exact HK4.out.set 2 _)
                clear h5
                have HD5 := Lib.hid (HD4.out.kept C45.out (fun q hq hm => HN4.out (by rw [List.mem_singleton.1 hm] at hq; exact hq)))
                have HOW5 : Hid (OwT B l (.slice vo ln vc) x5) := Lib.hid (((HOW.out.keep HC.out.1 (by simp)).keep HCH4.out (fun q hq => (HB.out.2 q hq).1)).keep C45.out (fun q hq hm => (HB.out.2 q hq).2 (List.mem_singleton.1 hm)))
                have HV5 : Hid (Strs x5 (.slice ro rn rc) rs) := Lib.hid (((HV.out.quiet HC.out.1).off HCH4.out (fun ad m d he hm => HO.out HNE.out ad m d he (List.mem_cons_of_mem _ hm))).off C45.out (fun ad m d he hm => HO.out HNE.out ad m d he (by rw [List.mem_singleton.1 hm]; exact List.mem_cons_self)))
                have HSZ : Hid (w.heap.size ≤ x5.heap.size ∧ B ≤ x5.heap.size) := Lib.hid (by have h1 := HC.out.1.size; have h2 := HCH4.out.size; have h3 := C45.out.size; omega)
                have HBL : Hid (Blk (x5.alloc (.cells #[] 9)) x5.heap.size [] 9) := Lib.hid (Blk.new x5 [] _)
                have HOE : Hid (OwT B [] (.slice (some ⟨x5.heap.size, 0, none⟩) 0 0) (x5.alloc (.cells #[] 9))) := Lib.hid (own_none44 HBL.out HSZ.out.2)
                have HCW : Hid (Chg [] x5 (x5.alloc (.cells #[] 9))) := Lib.hid ((Chg.refl _ _).alloc _)
                have y8 := (HCW.out.blk HK5.out (by simp)).cell (i := 3) rfl
                go_wp2_with (at_builtin; go_loud (refine wpList_strs rfl (.tmp 106) (.tmp 110) rfl B [] (.slice (some ⟨x5.heap.size, 0, none⟩) 0 0) (by rfl) HOE.out l (.slice vo ln vc) (by rfl) (HOW5.out.keep HCW.out (by simp)).strs (by have := HLL.out; simp only [List.length_nil]; omega) (by have h8 := HSZ.out; have h9 := HCW.out.size; omega) ?kk4))
                case kk4 =>
                  intro v6 w6 h5 h6 h7
                  have HO6 : Hid (OwT B l v6 w6) := Lib.hid h5
                  have HN6 : Hid (∀ q, v6.ownBlock = some q → x5.heap.size ≤ q) := Lib.hid (fun q hq => by rcases h7 q hq with h8 | h8; (have h9 : x5.heap.size = q := by simpa [Value.ownBlock] using h8); omega; have h9 := HCW.out.size; omega)
                  have HC6 : Hid (Chg [] x5 w6) := Lib.hid (HCW.out.trans h6 (fun q hq => .inr (by have h9 := Option.mem_toList.1 hq; simp only [Value.ownBlock, Option.some.injEq] at h9; omega)))
                  obtain ⟨a6, c6, rfl⟩ := h5.form2 (n := ln) (by first | exact HLN.out.symm | (rw [List.nil_append]; exact HLN.out.symm))
                  clear h5 h6 h7 y8
                  have HV6 := Lib.hid (HV5.out.quiet HC6.out)
                  have HS6 : Hid (B ≤ w6.heap.size) := Lib.hid (by have := HSZ.out; have := HC6.out.size; omega)
                  go_wp2_with (at_builtin; go_loud (refine wpList_strs rfl (.tmp 111) (.tmp 112) rfl B l (.slice a6 ln c6) (by rfl) HO6.out rs (.slice ro rn rc) (by rfl) HV6.out (by have := HLL.out; have := HRN.out; omega) HS6.out ?kk5))
                  case kk5 =>
                    intro v7 w7 h5 h6 h7
                    obtain ⟨n7, hn7⟩ : ∃ z, z = (l ++ rs).length := ⟨_, rfl⟩
                    obtain ⟨a7, c7, rfl⟩ := h5.form2 hn7.symm
                    clear hn7
                    have HO7 : Hid (OwT B (l ++ rs) (.slice a7 n7 c7) w7) := Lib.hid h5
                    have HN7 : Hid (∀ q, (Value.slice a7 n7 c7).ownBlock = some q → x5.heap.size ≤ q) := Lib.hid (fun q hq => by rcases h7 q hq with h8 | h8; exact HN6.out q h8; have h9 := HC6.out.size; omega)
                    have HC7 : Hid (Chg [] x5 w7) := Lib.hid (HC6.out.trans h6 (fun q hq => .inr (HN6.out q (Option.mem_toList.1 hq))))
                    clear h5 h6 h7
                    have HK7 := Lib.hid (HC7.out.blk HK5.out (by simp))
                    have y8 := HK7.out.cell (i := 3) rfl
                    have y9 := HK7.out.free 3
                    go_wp2_with fail
                    have cb : Chg [b] w7 (w7.setCell ⟨b, 3, none⟩ (.slice a7 n7 c7)) := (Chg.refl [b] w7).setCell _ _ (.inl (by simp))
                    have HD7 := HD5.out.kept HC7.out (by simp)
                    have hvn : ∀ q, (Value.slice a7 n7 c7).ownBlock = some q → q ∉ own4 ∧ q ≠ b := fun q hq => ⟨fun hm => by have := HD4.out.lt q hm; have := HN7.out q hq; have := C45.out.size; omega, fun h9 => by have := HN7.out q hq; have := HK5.out.lt; omega⟩
                    have HAP : Jn.append Dg.sum ⟨n, c, l, false⟩ D rs = ((0, ⟨n, c2, l ++ rs, false⟩), E4) := by
                      rw [append_done (j := ⟨n, c, l, false⟩) (E := E4) HQ0.out HQ1.out HQ2.out HNE.out (by rw [← HPS.out, HPL.out, steps_step HP0.out, if_neg (fun h => h rfl), steps_step HP1.out, if_neg (fun h => h rfl), steps_step HP2.out, if_neg (fun h => h rfl), steps_step HP3.out, if_neg (fun h => h rfl)]; rfl)]
                      show ((0, (⟨n, c + (Jn.pieces (Jn.text rs)).length, l ++ rs, false⟩ : Jn.J)), E4) = _
                      rw [← HPS.out, ← HK.out, ← HC2.out]
                    refine HRR.out 0 _ E4 own4 (.slice a7 n7 c7) _ HAP (HD7.kept cb (fun q hq hm => HN4.out (by rw [List.mem_singleton.1 hm] at hq; exact hq))) ?_ ?_ ⟨HK7.out.set 3 _, HO7.out.keep cb (fun q hq hm => (hvn q hq).2 (List.mem_singleton.1 hm))⟩ ?_
                    · exact (HC.out.1.mono (by simp)).trans (((HCH4.out.mono (by intro q hq; exact List.mem_cons_of_mem _ hq)).trans (C45.out.mono (by simp)) (fun q hq => .inl hq)).trans ((HC7.out.mono (by simp)).trans (cb.mono (by simp)) (fun q hq => .inl hq)) (fun q hq => .inl hq)) (fun q hq => .inl hq)
                    · exact fun q hq => (HSUB4.out q hq).imp id (fun h9 => Nat.le_trans HC.out.1.size h9)
                    · exact fun q hq => ⟨.inr (by have := HN7.out q hq; have := HSZ.out; omega), hvn q hq⟩
              have hz0 : Hid (e3 ≠ 0) := Lib.hid hz
              have f5 : (e3 == 0) = false := by rw [beq_eq_false_iff_ne]; exact hz
              clear hz
              obtain ⟨own4, hd, hch, hsub⟩ := HT4.out
              have HD4 := Lib.hid hd
              have HCH4 := Lib.hid hch
              have HSUB4 := Lib.hid hsub
              clear hd hch hsub
              have HK4 : Hid (Blk x4 b [.pointer (some ⟨p, 0, none⟩), .int .i64 (n : Int), .int .i64 (c : Int), .slice vo ln vc, .bool false] 82) := Lib.hid (HCH4.out.blk HJ0.out HB.out.1)
              have HN4 : Hid (b ∉ own4) := Lib.hid (fun hm9 => by rcases HSUB4.out b hm9 with h | h; exact HB.out.1 h; have := HWB.out; omega)
              have y4 := HK4.out.cell (i := 4) rfl
              have y5 := HK4.out.free 4
              go_wp2_with fail
              have cb : Chg [b] x4 (x4.setCell ⟨b, 4, none⟩ (.bool true)) := (Chg.refl [b] x4).setCell _ _ (.inl (by simp))
              refine HRR.out e3 ⟨n, c, l, true⟩ E4 own4 (.slice vo ln vc) _ (append_fail (j := ⟨n, c, l, false⟩) HQ0.out HQ1.out HQ2.out HNE.out (by rw [← HPS.out, HPL.out, steps_step HP0.out, if_neg (fun h => h rfl), steps_step HP1.out, if_neg (fun h => h rfl), steps_step HP2.out, if_neg (fun h => h rfl), steps_step HP3.out, if_pos hz0.out]) hz0.out) (HD4.out.kept cb (fun q hq hm => HN4.out (by rw [List.mem_singleton.1 hm] at hq; exact hq))) ?_ ?_ ⟨HK4.out.set 4 _, ?_⟩ ?_
              · exact (HC.out.1.mono (by simp)).trans ((HCH4.out.mono (by intro q hq; exact List.mem_cons_of_mem _ hq)).trans (cb.mono (by simp)) (fun q hq => .inl hq)) (fun q hq => .inl hq)
              · exact fun q hq => (HSUB4.out q hq).imp id (fun h9 => Nat.le_trans HC.out.1.size h9)
              · exact ((HOW.out.keep HC.out.1 (by simp)).keep HCH4.out (fun q hq => (HB.out.2 q hq).1)).keep cb (fun q hq hm => (HB.out.2 q hq).2 (List.mem_singleton.1 hm))
              · exact fun q hq => ⟨.inl hq, fun hm => by rcases HSUB4.out q hm with h9 | h9; exact (HB.out.2 q hq).1 h9; have := (HOW.out.ge q hq).2; have := HC.out.1.size; omega, (HB.out.2 q hq).2⟩
            have hz0 : Hid (e2 ≠ 0) := Lib.hid hz
            have f5 : (e2 == 0) = false := by rw [beq_eq_false_iff_ne]; exact hz
            clear hz
            obtain ⟨own3, hd, hch, hsub⟩ := HT3.out
            have HD3 := Lib.hid hd
            have HCH3 := Lib.hid hch
            have HSUB3 := Lib.hid hsub
            clear hd hch hsub
            have HK3 : Hid (Blk x3 b [.pointer (some ⟨p, 0, none⟩), .int .i64 (n : Int), .int .i64 (c : Int), .slice vo ln vc, .bool false] 82) := Lib.hid (HCH3.out.blk HJ0.out HB.out.1)
            have HN3 : Hid (b ∉ own3) := Lib.hid (fun hm9 => by rcases HSUB3.out b hm9 with h | h; exact HB.out.1 h; have := HWB.out; omega)
            have y4 := HK3.out.cell (i := 4) rfl
            have y5 := HK3.out.free 4
            go_wp2_with fail
            have cb : Chg [b] x3 (x3.setCell ⟨b, 4, none⟩ (.bool true)) := (Chg.refl [b] x3).setCell _ _ (.inl (by simp))
            refine HRR.out e2 ⟨n, c, l, true⟩ E3 own3 (.slice vo ln vc) _ (append_fail (j := ⟨n, c, l, false⟩) HQ0.out HQ1.out HQ2.out HNE.out (by rw [← HPS.out, HPL.out, steps_step HP0.out, if_neg (fun h => h rfl), steps_step HP1.out, if_neg (fun h => h rfl), steps_step HP2.out, if_pos hz0.out]) hz0.out) (HD3.out.kept cb (fun q hq hm => HN3.out (by rw [List.mem_singleton.1 hm] at hq; exact hq))) ?_ ?_ ⟨HK3.out.set 4 _, ?_⟩ ?_
            · exact (HC.out.1.mono (by simp)).trans ((HCH3.out.mono (by intro q hq; exact List.mem_cons_of_mem _ hq)).trans (cb.mono (by simp)) (fun q hq => .inl hq)) (fun q hq => .inl hq)
            · exact fun q hq => (HSUB3.out q hq).imp id (fun h9 => Nat.le_trans HC.out.1.size h9)
            · exact ((HOW.out.keep HC.out.1 (by simp)).keep HCH3.out (fun q hq => (HB.out.2 q hq).1)).keep cb (fun q hq hm => (HB.out.2 q hq).2 (List.mem_singleton.1 hm))
            · exact fun q hq => ⟨.inl hq, fun hm => by rcases HSUB3.out q hm with h9 | h9; exact (HB.out.2 q hq).1 h9; have := (HOW.out.ge q hq).2; have := HC.out.1.size; omega, (HB.out.2 q hq).2⟩
          have hz0 : Hid (e1 ≠ 0) := Lib.hid hz
          have f5 : (e1 == 0) = false := by rw [beq_eq_false_iff_ne]; exact hz
          clear hz
          obtain ⟨own2, hd, hch, hsub⟩ := HT2.out
          have HD2 := Lib.hid hd
          have HCH2 := Lib.hid hch
          have HSUB2 := Lib.hid hsub
          clear hd hch hsub
          have HK2 : Hid (Blk x2 b [.pointer (some ⟨p, 0, none⟩), .int .i64 (n : Int), .int .i64 (c : Int), .slice vo ln vc, .bool false] 82) := Lib.hid (HCH2.out.blk HJ0.out HB.out.1)
          have HN2 : Hid (b ∉ own2) := Lib.hid (fun hm9 => by rcases HSUB2.out b hm9 with h | h; exact HB.out.1 h; have := HWB.out; omega)
          have y4 := HK2.out.cell (i := 4) rfl
          have y5 := HK2.out.free 4
          go_wp2_with fail
          have cb : Chg [b] x2 (x2.setCell ⟨b, 4, none⟩ (.bool true)) := (Chg.refl [b] x2).setCell _ _ (.inl (by simp))
          refine HRR.out e1 ⟨n, c, l, true⟩ E2 own2 (.slice vo ln vc) _ (append_fail (j := ⟨n, c, l, false⟩) HQ0.out HQ1.out HQ2.out HNE.out (by rw [← HPS.out, HPL.out, steps_step HP0.out, if_neg (fun h => h rfl), steps_step HP1.out, if_pos hz0.out]) hz0.out) (HD2.out.kept cb (fun q hq hm => HN2.out (by rw [List.mem_singleton.1 hm] at hq; exact hq))) ?_ ?_ ⟨HK2.out.set 4 _, ?_⟩ ?_
          · exact (HC.out.1.mono (by simp)).trans ((HCH2.out.mono (by intro q hq; exact List.mem_cons_of_mem _ hq)).trans (cb.mono (by simp)) (fun q hq => .inl hq)) (fun q hq => .inl hq)
          · exact fun q hq => (HSUB2.out q hq).imp id (fun h9 => Nat.le_trans HC.out.1.size h9)
          · exact ((HOW.out.keep HC.out.1 (by simp)).keep HCH2.out (fun q hq => (HB.out.2 q hq).1)).keep cb (fun q hq hm => (HB.out.2 q hq).2 (List.mem_singleton.1 hm))
          · exact fun q hq => ⟨.inl hq, fun hm => by rcases HSUB2.out q hm with h9 | h9; exact (HB.out.2 q hq).1 h9; have := (HOW.out.ge q hq).2; have := HC.out.1.size; omega, (HB.out.2 q hq).2⟩
        have hz0 : Hid (e0 ≠ 0) := Lib.hid hz
        have f5 : (e0 == 0) = false := by rw [beq_eq_false_iff_ne]; exact hz
        clear hz
        obtain ⟨own1, hd, hch, hsub⟩ := HT1.out
        have HD1 := Lib.hid hd
        have HCH1 := Lib.hid hch
        have HSUB1 := Lib.hid hsub
        clear hd hch hsub
        have HK1 : Hid (Blk x1 b [.pointer (some ⟨p, 0, none⟩), .int .i64 (n : Int), .int .i64 (c : Int), .slice vo ln vc, .bool false] 82) := Lib.hid (HCH1.out.blk HJ0.out HB.out.1)
        have HN1 : Hid (b ∉ own1) := Lib.hid (fun hm9 => by rcases HSUB1.out b hm9 with h | h; exact HB.out.1 h; have := HWB.out; omega)
        have y4 := HK1.out.cell (i := 4) rfl
        have y5 := HK1.out.free 4
        go_wp2_with fail
        have cb : Chg [b] x1 (x1.setCell ⟨b, 4, none⟩ (.bool true)) := (Chg.refl [b] x1).setCell _ _ (.inl (by simp))
        refine HRR.out e0 ⟨n, c, l, true⟩ E1 own1 (.slice vo ln vc) _ (append_fail (j := ⟨n, c, l, false⟩) HQ0.out HQ1.out HQ2.out HNE.out (by rw [← HPS.out, HPL.out, steps_step HP0.out, if_pos hz0.out]) hz0.out) (HD1.out.kept cb (fun q hq hm => HN1.out (by rw [List.mem_singleton.1 hm] at hq; exact hq))) ?_ ?_ ⟨HK1.out.set 4 _, ?_⟩ ?_
        · exact (HC.out.1.mono (by simp)).trans ((HCH1.out.mono (by intro q hq; exact List.mem_cons_of_mem _ hq)).trans (cb.mono (by simp)) (fun q hq => .inl hq)) (fun q hq => .inl hq)
        · exact fun q hq => (HSUB1.out q hq).imp id (fun h9 => Nat.le_trans HC.out.1.size h9)
        · exact ((HOW.out.keep HC.out.1 (by simp)).keep HCH1.out (fun q hq => (HB.out.2 q hq).1)).keep cb (fun q hq hm => (HB.out.2 q hq).2 (List.mem_singleton.1 hm))
        · exact fun q hq => ⟨.inl hq, fun hm => by rcases HSUB1.out q hm with h9 | h9; exact (HB.out.2 q hq).1 h9; have := (HOW.out.ge q hq).2; have := HC.out.1.size; omega, (HB.out.2 q hq).2⟩
end Go.Proofs.YtpmkgedlnanjiaaGreatDoor
