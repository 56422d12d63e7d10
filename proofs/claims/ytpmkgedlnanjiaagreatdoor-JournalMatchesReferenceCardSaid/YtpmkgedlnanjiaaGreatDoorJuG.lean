/-
  JuH, JuG in one text.
-/
import Derived.Test.YtpmkgedlnanjiaaGreatDoorJuE
import Derived.Test.YtpmkgedlnanjiaaGreatDoorJnL
import Derived.Test.YtpmkgedlnanjiaaGreatDoorJoI
import Derived.Test.YtpmkgedlnanjiaaGreatDoorJuF
import Derived.Test.YtpmkgedlnanjiaaGreatDoorJpD
import Derived.Test.YtpmkgedlnanjiaaGreatDoorJpE
namespace Go.Proofs.YtpmkgedlnanjiaaGreatDoor
set_option linter.unusedVariables false
set_option linter.unusedSimpArgs false
set_option maxRecDepth 100000
open Go Go.RowKit
namespace Jn
theorem writes_off {D : DK} (h : D.off = true) : ∀ (l : List Bytes) (p : Nat), (writes D p l).2 = D
  | [], p => rfl
  | s :: r, p => by
    have e : D.write (p : Int) s = (24, D) := by unfold DK.write; rw [if_pos h]
    unfold writes
    rw [e, if_pos (by show (24 : Int) ≠ 0; decide)]
theorem put_qe {D : DK} (hq : D.q = []) {p : Nat} {l : List Bytes} (hp : p + l.length ≤ D.n) (hl : ∀ s ∈ l, s.length = 64) : (put D p l).2.q = [] := by
  cases hoff : D.off with
  | true =>
    have h1 := writes_off hoff l p
    unfold put
    split
    · rw [h1, hq]
    · unfold DK.sync
      rw [if_pos (by rw [h1]; exact hoff), h1, hq]
  | false =>
    rcases writes_up l p hoff hp hl with ⟨a, e⟩ | ⟨m, w, b, a, hm, e⟩
    · unfold put
      rw [e, if_neg (fun h => h rfl)]
      unfold DK.sync
      rw [if_neg (by show ¬ D.off = true; rw [hoff]; decide)]
      rcases count_up (D := { D with q := D.q ++ items p l, arm := a }) hoff with ⟨a2, e2⟩ | ⟨w, b, e2⟩
      · rw [e2, if_neg (fun h => h rfl)]; rfl
      · rw [e2, if_pos (by show (24 : Int) ≠ 0; decide)]; rfl
    · unfold put
      rw [e, if_pos (by show (24 : Int) ≠ 0; decide)]
      rfl
theorem writes_n : ∀ (l : List Bytes) (p : Nat) (D : DK), (writes D p l).2.n = D.n
  | [], p, D => rfl
  | s :: r, p, D => by
    unfold writes
    split
    · exact DK.write_n _ _ _
    · rw [writes_n r]; exact DK.write_n _ _ _
theorem put_n (D : DK) (p : Nat) (l : List Bytes) : (put D p l).2.n = D.n := by
  unfold put
  split
  · exact writes_n _ _ _
  · rw [DK.sync_n]; exact writes_n _ _ _
theorem mend_qn {sm : Bytes → Bytes} (hs : ∀ s, (sm s).length = 16) {D : DK} (hq : D.q = []) {p c : Nat} {s : Bytes} (hp : p < D.n) : (mend sm D p c s).2.q = [] ∧ (mend sm D p c s).2.n = D.n := by
  have h1 : (put D p [zero]).2.q = [] := put_qe hq (by rw [List.length_singleton]; omega) (fun x hx => by rw [List.mem_singleton.1 hx]; exact zero_len)
  unfold mend
  split
  · exact ⟨hq, rfl⟩
  · split
    · exact ⟨h1, put_n _ _ _⟩
    · exact ⟨put_qe h1 (by rw [put_n, List.length_singleton]; omega) (fun x hx => by rw [List.mem_singleton.1 hx]; exact sealed_len hs _ _), by rw [put_n, put_n]⟩
/-- A journal's numbers. -/
def JI (N m : Nat) (j : J) : Prop := j.n = N ∧ j.c + 2 ≤ N ∧ j.l.length ≤ m
theorem open_inv {sm : Bytes → Bytes} (hs : ∀ s, (sm s).length = 16) {D E : DK} {e : Int} {o : Option J} (hq : D.q = []) (hN : D.n ≤ 40) (h : openJ sm D = ((e, o), E)) : E.q = [] ∧ E.n = D.n ∧ ∀ j, o = some j → JI D.n 2000 j := by
  unfold openJ at h
  split at h
  · injection h with h1 h2; injection h1 with h1 h3; subst h2; subst h3; exact ⟨hq, rfl, fun j hj => by cases hj⟩
  split at h
  · injection h with h1 h2; injection h1 with h1 h3; subst h2; subst h3; exact ⟨hq, rfl, fun j hj => by cases hj⟩
  rename_i hn3
  cases hm : maxC (cnt sm 0 (D.cur 0) (D.n - 2)) (cnt sm 1 (D.cur 1) (D.n - 2)) with
  | none =>
    rw [hm] at h
    injection h with h1 h2; injection h1 with h1 h3; subst h2; subst h3; exact ⟨hq, rfl, fun j hj => by cases hj⟩
  | some c =>
    have hc : c ≤ D.n - 2 := maxC_le (fun q hq => (cnt_some hq).1) (fun q hq => (cnt_some hq).1) hm
    rw [hm] at h
    simp only at h
    cases hf : (found sm D c).bind records with
    | none =>
      rw [hf] at h
      injection h with h1 h2; injection h1 with h1 h3; subst h2; subst h3; exact ⟨hq, rfl, fun j hj => by cases hj⟩
    | some l =>
      rw [hf] at h
      simp only at h
      obtain ⟨a1, a2⟩ := mend_qn hs hq (p := 0) (c := c) (s := D.cur 0) (by omega)
      split at h
      · injection h with h1 h2; injection h1 with h1 h3; subst h2; subst h3; exact ⟨a1, a2, fun j hj => by cases hj⟩
      · obtain ⟨b1, b2⟩ := mend_qn hs a1 (p := 1) (c := c) (s := D.cur 1) (by omega)
        injection h with h1 h2; injection h1 with h1 h3; subst h2
        refine ⟨b1, b2.trans a2, fun j hj => ?_⟩
        rw [hj] at h3
        split at h3
        · cases h3
        · injection h3 with h3
          subst h3
          refine ⟨rfl, by show c + 2 ≤ D.n; omega, ?_⟩
          cases hfd : found sm D c with
          | none => rw [hfd] at hf; cases hf
          | some t =>
            rw [hfd, Option.bind_some] at hf
            have h5 := found_len hs hfd
            have h6 := parse_count _ _ _ hf
            show l.length ≤ 2000
            omega
theorem steps_qn {sm : Bytes → Bytes} (hs : ∀ s, (sm s).length = 16) {D : DK} (hq : D.q = []) {c : Nat} {ps : List Bytes} (hc : 2 + c + ps.length ≤ D.n) : (steps D (plan sm c ps)).2.q = [] ∧ (steps D (plan sm c ps)).2.n = D.n := by
  have key : ∀ (L : List (Nat × List Bytes)) (D : DK), D.q = [] → (∀ x ∈ L, x.1 + x.2.length ≤ D.n ∧ ∀ s ∈ x.2, s.length = 64) → (steps D L).2.q = [] ∧ (steps D L).2.n = D.n := by
    intro L
    induction L with
    | nil => exact fun D h _ => ⟨h, rfl⟩
    | cons x r ih =>
      intro D h hx
      have h1 := hx x List.mem_cons_self
      have h2 := put_qe h h1.1 h1.2
      rw [steps_cons]
      split
      · exact ⟨h2, put_n _ _ _⟩
      · obtain ⟨a, b⟩ := ih (put D x.1 x.2).2 h2 (fun y hy => by rw [put_n]; exact hx y (List.mem_cons_of_mem _ hy))
        exact ⟨a, by rw [b, put_n]⟩
  refine key _ _ hq (fun x hx => ?_)
  unfold plan at hx
  simp only [List.mem_cons, List.not_mem_nil, or_false] at hx
  rcases hx with rfl | rfl | rfl | rfl
  · exact ⟨by rw [List.length_map]; exact hc, fun s h => by obtain ⟨y, _, rfl⟩ := List.mem_map.1 h; exact zero_len⟩
  · exact ⟨by rw [sectors_len]; exact hc, sectors_64 hs _ _⟩
  · exact ⟨by rw [List.length_singleton]; omega, fun s h => by rw [List.mem_singleton.1 h]; exact sealed_len hs _ _⟩
  · exact ⟨by rw [List.length_singleton]; omega, fun s h => by rw [List.mem_singleton.1 h]; exact sealed_len hs _ _⟩
theorem append_inv {sm : Bytes → Bytes} (hs : ∀ s, (sm s).length = 16) {D E : DK} {j j' : J} {e : Int} {rs : List Bytes} {N m : Nat} (hq : D.q = []) (hN : D.n = N) (hj : JI N m j) (h : append sm j D rs = ((e, j'), E)) : E.q = [] ∧ E.n = N ∧ JI N (m + rs.length) j' := by
  have h0 : JI N (m + rs.length) j := ⟨hj.1, hj.2.1, by have := hj.2.2; omega⟩
  unfold append at h
  split at h
  · injection h with h1 h2; injection h1 with h1 h3; subst h2; subst h3; exact ⟨hq, hN, h0⟩
  split at h
  · injection h with h1 h2; injection h1 with h1 h3; subst h2; subst h3; exact ⟨hq, hN, h0⟩
  split at h
  · injection h with h1 h2; injection h1 with h1 h3; subst h2; subst h3; exact ⟨hq, hN, h0⟩
  rename_i hr
  split at h
  · injection h with h1 h2; injection h1 with h1 h3; subst h2; subst h3; exact ⟨hq, hN, h0⟩
  unfold room at hr
  have hjn := hj.1
  have hjc := hj.2.1
  obtain ⟨a, b⟩ := steps_qn hs hq (c := j.c) (ps := pieces (text rs)) (by omega)
  split at h
  · injection h with h1 h2; injection h1 with h1 h3; subst h2; subst h3; exact ⟨a, b.trans hN, h0⟩
  · injection h with h1 h2; injection h1 with h1 h3; subst h2; subst h3
    exact ⟨a, b.trans hN, hj.1, by show j.c + _ + 2 ≤ N; omega, by show (j.l ++ rs).length ≤ _; rw [List.length_append]; have := hj.2.2; omega⟩
theorem fail_qe {D : DK} (hq : D.q = []) (w b : Int) : (D.fail w b).q = [] := by
  unfold DK.fail
  split
  · exact hq
  · rfl
theorem arm_qe {D : DK} (hq : D.q = []) (a w b : Int) : (D.setArm a w b).q = [] := by
  unfold DK.setArm
  split
  · exact hq
  · exact hq
end Jn
end Go.Proofs.YtpmkgedlnanjiaaGreatDoor
namespace Go.Proofs.YtpmkgedlnanjiaaGreatDoor
set_option linter.unusedVariables false
set_option linter.unusedSimpArgs false
set_option maxRecDepth 100000
open Go Go.RowKit
attribute [local irreducible] Go.wpStill
/-- The reference's journal at b on the disk at p. -/
structure KA (B : Nat) (w : World) (own : List Nat) (p b : Nat) (D : DK) (j : Jn.J) (v : Value) : Prop where
  dk : RfAt w own p D
  kr : KR w B b p j v
  bn : b ∉ own
  vn : ∀ k, v.ownBlock = some k → k ∉ own ∧ k ≠ b
def KZ (B : Nat) (w : World) (A : List Nat) (p b : Nat) (D : DK) (j : Jn.J) (v : Value) : Prop := ∃ own, A = zone own b v ∧ KA B w own p b D j v
theorem KR.quiet {w w' : World} {B b p : Nat} {j : Jn.J} {v : Value} {A : List Nat} (h : KR w B b p j v) (hc : Chg A w w') (hb : b ∉ A) (hv : ∀ k, v.ownBlock = some k → k ∉ A) : KR w' B b p j v := ⟨hc.blk h.blk hb, h.own.keep hc hv⟩
theorem KR.less {w : World} {B B' b p : Nat} {j : Jn.J} {v : Value} (h : KR w B' b p j v) (hb : B ≤ B') : KR w B b p j v := ⟨h.blk, h.own.less hb⟩
/-- A disk with or without a journal. -/
def PZ (B : Nat) (w : World) (A : List Nat) (p : Nat) (D : DK) : Option (Nat × Jn.J × Value) → Prop
  | none => DkAt w A p D
  | some x => JZ B w A p x.1 D x.2.1 x.2.2
def QZ (B : Nat) (w : World) (A : List Nat) (p : Nat) (D : DK) : Option (Nat × Jn.J × Value) → Prop
  | none => RfAt w A p D
  | some x => KZ B w A p x.1 D x.2.1 x.2.2
theorem PZ.lt {B : Nat} {w : World} {A : List Nat} {p : Nat} {D : DK} {o : Option (Nat × Jn.J × Value)} (h : PZ B w A p D o) : ∀ k ∈ A, k < w.heap.size := by
  cases o with
  | none => exact DkAt.lt h
  | some x => exact JZ.lt h
theorem QZ.lt {B : Nat} {w : World} {A : List Nat} {p : Nat} {D : DK} {o : Option (Nat × Jn.J × Value)} (h : QZ B w A p D o) : ∀ k ∈ A, k < w.heap.size := by
  cases o with
  | none => exact RfAt.lt h
  | some x =>
    obtain ⟨own, rfl, h1⟩ := h
    intro k hk
    rcases mem_zone.1 hk with rfl | h2 | h2
    · exact h1.kr.blk.lt
    · exact (h1.kr.own.ge k h2).2
    · exact h1.dk.lt k h2
theorem PZ.kept {B : Nat} {w w' : World} {A A2 : List Nat} {p : Nat} {D : DK} {o : Option (Nat × Jn.J × Value)} (h : PZ B w A p D o) (hc : Chg A2 w w') (hs : ∀ k ∈ A, k ∉ A2) : PZ B w' A p D o := by
  cases o with
  | none => exact DkAt.kept h hc hs
  | some x =>
    obtain ⟨own, rfl, h1⟩ := h
    exact ⟨own, rfl, h1.dk.kept hc (fun k hk => hs k (mem_zone.2 (.inr (.inr hk)))), h1.jr.quiet hc (hs _ (mem_zone.2 (.inl rfl))) (fun k hk => hs k (mem_zone.2 (.inr (.inl hk)))), h1.bn, h1.vn⟩
theorem QZ.kept {B : Nat} {w w' : World} {A A2 : List Nat} {p : Nat} {D : DK} {o : Option (Nat × Jn.J × Value)} (h : QZ B w A p D o) (hc : Chg A2 w w') (hs : ∀ k ∈ A, k ∉ A2) : QZ B w' A p D o := by
  cases o with
  | none => exact RfAt.kept h hc hs
  | some x =>
    obtain ⟨own, rfl, h1⟩ := h
    exact ⟨own, rfl, h1.dk.kept hc (fun k hk => hs k (mem_zone.2 (.inr (.inr hk)))), h1.kr.quiet hc (hs _ (mem_zone.2 (.inl rfl))) (fun k hk => hs k (mem_zone.2 (.inr (.inl hk)))), h1.bn, h1.vn⟩
theorem PZ.step {B : Nat} {w : World} {A : List Nat} {p : Nat} {D : DK} {o : Option (Nat × Jn.J × Value)} (h : PZ B w A p D o) : ∃ own, DkAt w own p D ∧ (∀ k ∈ own, k ∈ A) ∧ ∀ D' own' w', DkAt w' own' p D' → To own w own' w' → ∃ A', To A w A' w' ∧ PZ B w' A' p D' o := by
  cases o with
  | none => exact ⟨A, h, fun k hk => hk, fun D' own' w' hd ht => ⟨own', ht, hd⟩⟩
  | some x =>
    obtain ⟨own, h1, h2, h3⟩ := JZ.step h
    exact ⟨own, h1, h2, fun D' own' w' hd ht => ⟨_, (h3 D' own' w' hd ht).1, (h3 D' own' w' hd ht).2⟩⟩
theorem QZ.step {B : Nat} {w : World} {A : List Nat} {p : Nat} {D : DK} {o : Option (Nat × Jn.J × Value)} (h : QZ B w A p D o) : ∃ own, RfAt w own p D ∧ (∀ k ∈ own, k ∈ A) ∧ ∀ D' own' w', RfAt w' own' p D' → To own w own' w' → ∃ A', To A w A' w' ∧ QZ B w' A' p D' o := by
  cases o with
  | none => exact ⟨A, h, fun k hk => hk, fun D' own' w' hd ht => ⟨own', ht, hd⟩⟩
  | some x =>
    obtain ⟨b, j, v⟩ := x
    obtain ⟨own, rfl, h1⟩ := h
    refine ⟨own, h1.dk, fun k hk => mem_zone.2 (.inr (.inr hk)), fun D' own' w' hd ht => ⟨zone own' b v, ⟨ht.1.mono (fun k hk => mem_zone.2 (.inr (.inr hk))), fun k hk => ?_⟩, own', rfl, hd, h1.kr.quiet ht.1 h1.bn (fun k hk => (h1.vn k hk).1), fun hm => ?_, fun k hk => ⟨fun hm => ?_, (h1.vn k hk).2⟩⟩⟩
    · rcases mem_zone.1 hk with h2 | h2 | h2
      · exact .inl (mem_zone.2 (.inl h2))
      · exact .inl (mem_zone.2 (.inr (.inl h2)))
      · exact (ht.2 k h2).imp (fun h3 => mem_zone.2 (.inr (.inr h3))) id
    · rcases ht.2 b hm with h2 | h2
      · exact h1.bn h2
      · have : b < w.heap.size := h1.kr.blk.lt
        omega
    · rcases ht.2 k hm with h2 | h2
      · exact (h1.vn k hk).1 h2
      · have := (h1.kr.own.ge k hk).2; omega
/-- Both side by side. -/
structure TW (w0 w : World) (A A2 : List Nat) (p p2 : Nat) (D D2 : DK) (o o2 : Option (Nat × Jn.J × Value)) : Prop where
  b : Base w0 w A
  b2 : Base w0 w A2
  sep : ∀ k ∈ A, k ∉ A2
  pz : PZ w0.heap.size w A p D o
  qz : QZ w0.heap.size w A2 p2 D2 o2
theorem TW.left {w0 w w' : World} {A A' A2 : List Nat} {p p2 : Nat} {D D' D2 : DK} {o o' o2 : Option (Nat × Jn.J × Value)} (T : TW w0 w A A2 p p2 D D2 o o2) (ht : To A w A' w') (hz : PZ w0.heap.size w' A' p D' o') : TW w0 w' A' A2 p p2 D' D2 o' o2 :=
  ⟨T.b.to ht, ⟨(T.b.to ht).chg, T.b2.ge, T.b2.laid⟩, fun k hk hm => by rcases ht.2 k hk with h1 | h1; exact T.sep k h1 hm; have := T.qz.lt k hm; omega, hz, T.qz.kept ht.1 (fun k hk hm => T.sep k hm hk)⟩
theorem TW.right {w0 w w' : World} {A A2 A2' : List Nat} {p p2 : Nat} {D D2 D2' : DK} {o o2 o2' : Option (Nat × Jn.J × Value)} (T : TW w0 w A A2 p p2 D D2 o o2) (ht : To A2 w A2' w') (hz : QZ w0.heap.size w' A2' p2 D2' o2') : TW w0 w' A A2' p p2 D D2' o o2' :=
  ⟨⟨(T.b2.to ht).chg, T.b.ge, T.b.laid⟩, T.b2.to ht, fun k hk hm => by rcases ht.2 k hm with h1 | h1; exact T.sep k hk h1; have := T.pz.lt k hk; omega, T.pz.kept ht.1 (fun k hk hm => T.sep k hk hm), hz⟩
theorem TW.quiet {w0 w w' : World} {A A2 : List Nat} {p p2 : Nat} {D D2 : DK} {o o2 : Option (Nat × Jn.J × Value)} (T : TW w0 w A A2 p p2 D D2 o o2) (hc : Chg [] w w') : TW w0 w' A A2 p p2 D D2 o o2 :=
  T.left (To.quiet hc) (T.pz.kept hc (by simp))
theorem TW.p1 {w0 w : World} {A A2 : List Nat} {p p2 : Nat} {D D2 : DK} {o o2 : Option (Nat × Jn.J × Value)} (T : TW w0 w A A2 p p2 D D2 o o2) : ∃ own, DkAt w own p D ∧ (∀ k ∈ own, k ∈ A) ∧ ∀ D' w', DkTo w own p D' w' → ∃ A', To A w A' w' ∧ TW w0 w' A' A2 p p2 D' D2 o o2 := by
  obtain ⟨own, h1, h2, h3⟩ := T.pz.step
  refine ⟨own, h1, h2, fun D' w' hd => ?_⟩
  obtain ⟨own', e1, e2⟩ := hd.to
  obtain ⟨A', e3, e4⟩ := h3 D' own' w' e1 e2
  exact ⟨A', e3, T.left e3 e4⟩
theorem TW.q1 {w0 w : World} {A A2 : List Nat} {p p2 : Nat} {D D2 : DK} {o o2 : Option (Nat × Jn.J × Value)} (T : TW w0 w A A2 p p2 D D2 o o2) : ∃ own, RfAt w own p2 D2 ∧ (∀ k ∈ own, k ∈ A2) ∧ ∀ D' w', RfTo w own p2 D' w' → ∃ A', To A2 w A' w' ∧ TW w0 w' A A' p p2 D D' o o2 := by
  obtain ⟨own, h1, h2, h3⟩ := T.qz.step
  refine ⟨own, h1, h2, fun D' w' hd => ?_⟩
  obtain ⟨own', e1, e2, e2b⟩ := hd
  obtain ⟨A', e3, e4⟩ := h3 D' own' w' e1 ⟨e2, e2b⟩
  exact ⟨A', e3, T.right e3 e4⟩
/-- A list beside both. -/
def L2 (A A2 : List Nat) (w : World) (v : Value) (l : List Bytes) : Prop := Lst A w v l ∧ Lst A2 w v l
theorem L2.left {A A' A2 : List Nat} {w w' : World} {v : Value} {l : List Bytes} (h : L2 A A2 w v l) (ht : To A w A' w') : L2 A' A2 w' v l :=
  ⟨h.1.to ht, (h.1.to ht).1, fun hl ad n c he => ⟨(h.2.2 hl ad n c he).1, ((h.1.to ht).2 hl ad n c he).2⟩⟩
theorem L2.right {A A2 A2' : List Nat} {w w' : World} {v : Value} {l : List Bytes} (h : L2 A A2 w v l) (ht : To A2 w A2' w') : L2 A A2' w' v l :=
  ⟨⟨(h.2.to ht).1, fun hl ad n c he => ⟨(h.1.2 hl ad n c he).1, ((h.2.to ht).2 hl ad n c he).2⟩⟩, h.2.to ht⟩
theorem L2.quiet {A A2 : List Nat} {w w' : World} {v : Value} {l : List Bytes} (h : L2 A A2 w v l) (hc : Chg [] w w') : L2 A A2 w' v l := ⟨h.1.to (To.quiet hc), h.2.to (To.quiet hc)⟩
theorem L2.nil (A A2 : List Nat) (w : World) : L2 A A2 w (.slice none 0 0) [] := ⟨⟨Strs.nil w, fun h => absurd rfl h⟩, Strs.nil w, fun h => absurd rfl h⟩
theorem L2.own {A A2 : List Nat} {B : Nat} {w : World} {v : Value} {l : List Bytes} (h : OwT B l v w) (hn : ∀ k, v.ownBlock = some k → k ∉ A ∧ k ∉ A2) : L2 A A2 w v l :=
  ⟨Own.lst ⟨h, fun k hk => (hn k hk).1⟩, Own.lst ⟨h, fun k hk => (hn k hk).2⟩⟩
section
variable {w0 w : World} {A A2 : List Nat} {p p2 : Nat} {D D2 : DK} {o o2 : Option (Nat × Jn.J × Value)} {R : Ending → World → Prop}
theorem fail_t (T : Hid (TW w0 w A A2 p p2 D D2 o o2)) (hq : D.q.length ≤ 1000000) (x y : Int) (h : ∀ A' w', To A w A' w' → TW w0 w' A' A2 p p2 (D.fail x y) D2 o o2 → R (.returned (.tuple #[])) w') :
    Calls Tryz.prog 20 #[.pointer (some ⟨p,0,none⟩), .int .i64 x, .int .i64 y] w R := by
  obtain ⟨own, h1, _, h2⟩ := T.out.p1
  refine (fail_spec h1 hq x y).mono ?_
  rintro e w' ⟨rfl, hd⟩
  obtain ⟨A', h3, h4⟩ := h2 _ _ hd
  exact h A' w' h3 h4
theorem start_t (T : Hid (TW w0 w A A2 p p2 D D2 o o2)) (h : ∀ A' w', To A w A' w' → TW w0 w' A' A2 p p2 D.start D2 o o2 → R (.returned (.tuple #[])) w') :
    Calls Tryz.prog 22 #[.pointer (some ⟨p,0,none⟩)] w R := by
  obtain ⟨own, h1, _, h2⟩ := T.out.p1
  refine (start_spec h1).mono ?_
  rintro e w' ⟨rfl, hd⟩
  obtain ⟨A', h3, h4⟩ := h2 _ _ hd
  exact h A' w' h3 h4
theorem arm_t (T : Hid (TW w0 w A A2 p p2 D D2 o o2)) (a x y : Int) (hr : a ≤ 9223372036854775807) (h : ∀ A' w', To A w A' w' → TW w0 w' A' A2 p p2 (D.setArm a x y) D2 o o2 → R (.returned (.tuple #[])) w') :
    Calls Tryz.prog 24 #[.pointer (some ⟨p,0,none⟩), .int .i64 a, .int .i64 x, .int .i64 y] w R := by
  obtain ⟨own, h1, _, h2⟩ := T.out.p1
  refine (arm_spec h1 a x y hr).mono ?_
  rintro e w' ⟨rfl, hd⟩
  obtain ⟨A', h3, h4⟩ := h2 _ _ hd
  exact h A' w' h3 h4
theorem rot_t (T : Hid (TW w0 w A A2 p p2 D D2 o o2)) (s a m : Int) (h : ∀ A' w', To A w A' w' → TW w0 w' A' A2 p p2 (D.rot s a m) D2 o o2 → R (.returned (.tuple #[])) w') :
    Calls Tryz.prog 26 #[.pointer (some ⟨p,0,none⟩), .int .i64 s, .int .i64 a, .int .i64 m] w R := by
  obtain ⟨own, h1, _, h2⟩ := T.out.p1
  refine (rot_spec h1 s a m).mono ?_
  rintro e w' ⟨rfl, hd⟩
  obtain ⟨A', h3, h4⟩ := h2 _ _ hd
  exact h A' w' h3 h4
theorem stale_t (T : Hid (TW w0 w A A2 p p2 D D2 o o2)) (s : Int) (h : ∀ A' w', To A w A' w' → TW w0 w' A' A2 p p2 (D.stale s) D2 o o2 → R (.returned (.tuple #[])) w') :
    Calls Tryz.prog 28 #[.pointer (some ⟨p,0,none⟩), .int .i64 s] w R := by
  obtain ⟨own, h1, _, h2⟩ := T.out.p1
  refine (stale_spec h1 s).mono ?_
  rintro e w' ⟨rfl, hd⟩
  obtain ⟨A', h3, h4⟩ := h2 _ _ hd
  exact h A' w' h3 h4
theorem read_t (T : Hid (TW w0 w A A2 p p2 D D2 o o2)) (hq : D.q.length ≤ 1000000) (s : Int) (h : ∀ w', Chg [] w w' → R (.returned (.tuple #[.string ⟨(D.read s).1.toArray⟩, .int .i64 (D.read s).2])) w') :
    Calls Tryz.prog 31 #[.pointer (some ⟨p,0,none⟩), .int .i64 s] w R := by
  obtain ⟨own, h1, _, _⟩ := T.out.p1
  refine (read_spec h1 hq s).mono ?_
  rintro e w' ⟨rfl, hc⟩
  exact h w' hc
theorem rfail_t (T : Hid (TW w0 w A A2 p p2 D D2 o o2)) (hq : D2.q.length ≤ 1000000) (x y : Int) (h : ∀ A' w', To A2 w A' w' → TW w0 w' A A' p p2 D (D2.fail x y) o o2 → R (.returned (.tuple #[])) w') :
    Calls Tryz.prog 21 #[.pointer (some ⟨p2,0,none⟩), .int .i64 x, .int .i64 y] w R := by
  obtain ⟨own, h1, _, h2⟩ := T.out.q1
  refine (rfail_spec h1 hq x y).mono ?_
  rintro e w' ⟨rfl, hd⟩
  obtain ⟨A', h3, h4⟩ := h2 _ _ hd
  exact h A' w' h3 h4
theorem rstart_t (T : Hid (TW w0 w A A2 p p2 D D2 o o2)) (h : ∀ A' w', To A2 w A' w' → TW w0 w' A A' p p2 D D2.start o o2 → R (.returned (.tuple #[])) w') :
    Calls Tryz.prog 23 #[.pointer (some ⟨p2,0,none⟩)] w R := by
  obtain ⟨own, h1, _, h2⟩ := T.out.q1
  refine (rstart_spec h1).mono ?_
  rintro e w' ⟨rfl, hd⟩
  obtain ⟨A', h3, h4⟩ := h2 _ _ hd
  exact h A' w' h3 h4
theorem rarm_t (T : Hid (TW w0 w A A2 p p2 D D2 o o2)) (a x y : Int) (hr : a ≤ 9223372036854775807) (h : ∀ A' w', To A2 w A' w' → TW w0 w' A A' p p2 D (D2.setArm a x y) o o2 → R (.returned (.tuple #[])) w') :
    Calls Tryz.prog 25 #[.pointer (some ⟨p2,0,none⟩), .int .i64 a, .int .i64 x, .int .i64 y] w R := by
  obtain ⟨own, h1, _, h2⟩ := T.out.q1
  refine (rarm_spec h1 a x y hr).mono ?_
  rintro e w' ⟨rfl, hd⟩
  obtain ⟨A', h3, h4⟩ := h2 _ _ hd
  exact h A' w' h3 h4
theorem rrot_t (T : Hid (TW w0 w A A2 p p2 D D2 o o2)) (s a m : Int) (h : ∀ A' w', To A2 w A' w' → TW w0 w' A A' p p2 D (D2.rot s a m) o o2 → R (.returned (.tuple #[])) w') :
    Calls Tryz.prog 27 #[.pointer (some ⟨p2,0,none⟩), .int .i64 s, .int .i64 a, .int .i64 m] w R := by
  obtain ⟨own, h1, _, h2⟩ := T.out.q1
  refine (rrot_spec h1 s a m).mono ?_
  rintro e w' ⟨rfl, hd⟩
  obtain ⟨A', h3, h4⟩ := h2 _ _ hd
  exact h A' w' h3 h4
theorem rstale_t (T : Hid (TW w0 w A A2 p p2 D D2 o o2)) (s : Int) (h : ∀ A' w', To A2 w A' w' → TW w0 w' A A' p p2 D (D2.stale s) o o2 → R (.returned (.tuple #[])) w') :
    Calls Tryz.prog 29 #[.pointer (some ⟨p2,0,none⟩), .int .i64 s] w R := by
  obtain ⟨own, h1, _, h2⟩ := T.out.q1
  refine (rstale_spec h1 s).mono ?_
  rintro e w' ⟨rfl, hd⟩
  obtain ⟨A', h3, h4⟩ := h2 _ _ hd
  exact h A' w' h3 h4
theorem rread_t (T : Hid (TW w0 w A A2 p p2 D D2 o o2)) (hq : D2.q.length ≤ 1000000) (s : Int) (h : ∀ w', Chg [] w w' → R (.returned (.tuple #[.string ⟨(D2.read s).1.toArray⟩, .int .i64 (D2.read s).2])) w') :
    Calls Tryz.prog 32 #[.pointer (some ⟨p2,0,none⟩), .int .i64 s] w R := by
  obtain ⟨own, h1, _, _⟩ := T.out.q1
  refine (rread_spec h1 hq s).mono ?_
  rintro e w' ⟨rfl, hc⟩
  exact h w' hc
theorem open_t (T : Hid (TW w0 w A A2 p p2 D D2 o o2)) (hq : D.q.length ≤ 1000) (hn4 : D.n ≤ 100)
    (h1 : ∀ e E A' w', Jn.openJ Dg.sum D = ((e, none), E) → To A w A' w' → TW w0 w' A' A2 p p2 E D2 none o2 → R (.returned (.tuple #[.pointer none, .slice none 0 0, .int .i64 e])) w')
    (h2 : ∀ j E b v u A' w', Jn.openJ Dg.sum D = ((0, some j), E) → To A w A' w' → TW w0 w' A' A2 p p2 E D2 (some (b, j, v)) o2 → L2 A' A2 w' u j.l → R (.returned (.tuple #[.pointer (some ⟨b, 0, none⟩), u, .int .i64 0])) w') :
    Calls Tryz.prog 7 #[.pointer (some ⟨p, 0, none⟩)] w R := by
  obtain ⟨own, g1, g2, _⟩ := T.out.pz.step
  refine open_r (Lib.hid T.out.b.here) (Lib.hid (fun k hk => T.out.b.gn k (g2 k hk))) (Lib.hid g1) hq hn4 (Lib.hid ⟨fun e E w' e1 e2 => ?_, fun j2 E b2 own' v2 vl w' e1 e2 e3 e4 e5 e6 e7 e8 e9 e10 => ?_⟩)
  · obtain ⟨A', e3, e4⟩ := e2.to
    have ht : To A w A' w' := ⟨e4.1.mono g2, fun k hk => (e4.2 k hk).imp (g2 k) id⟩
    exact h1 e E A' w' e1 ht (T.out.left ht e3)
  · have ht : To A w (zone own' b2 v2) w' := ⟨e3.mono g2, fun k hk => by
      rcases mem_zone.1 hk with h3 | h3 | h3
      · exact .inr (by omega)
      · exact .inr (e5.own.ge k h3).1
      · exact (e4 k h3).imp (g2 k) id⟩
    refine h2 j2 E b2 v2 vl (zone own' b2 v2) w' e1 ht (T.out.left ht ⟨own', rfl, e2, e5.less T.out.b.size, e8, e9⟩) (L2.own e6 (fun k hk => ⟨fun hm => ?_, fun hm => ?_⟩))
    · rcases mem_zone.1 hm with h3 | h3 | h3
      · exact (e10 k hk).2.1 h3
      · exact (e10 k hk).2.2 h3
      · exact (e10 k hk).1 h3
    · have := T.out.qz.lt k hm
      have := (e6.ge k hk).1
      omega
theorem ropen_t (T : Hid (TW w0 w A A2 p p2 D D2 o o2)) (hq : D2.q.length ≤ 1000) (hn4 : D2.n ≤ 100)
    (h1 : ∀ e E A' w', Jn.openJ Dg.sum D2 = ((e, none), E) → To A2 w A' w' → TW w0 w' A A' p p2 D E o none → R (.returned (.tuple #[.pointer none, .slice none 0 0, .int .i64 e])) w')
    (h2 : ∀ j E b v u A' w', Jn.openJ Dg.sum D2 = ((0, some j), E) → To A2 w A' w' → TW w0 w' A A' p p2 D E o (some (b, j, v)) → L2 A A' w' u j.l → R (.returned (.tuple #[.pointer (some ⟨b, 0, none⟩), u, .int .i64 0])) w') :
    Calls Tryz.prog 17 #[.pointer (some ⟨p2, 0, none⟩)] w R := by
  obtain ⟨own, g1, g2, _⟩ := T.out.qz.step
  refine ropen_r (Lib.hid g1) hq hn4 (Lib.hid ⟨fun e E w' e1 e2 => ?_, fun j2 E b2 own' v2 vl w' e1 e2 e3 e4 e5 e6 e7 e8 e9 e10 => ?_⟩)
  · obtain ⟨A', e3, e4, e4b⟩ := e2
    have ht : To A2 w A' w' := ⟨e4.mono g2, fun k hk => (e4b k hk).imp (g2 k) id⟩
    exact h1 e E A' w' e1 ht (T.out.right ht e3)
  · have ht : To A2 w (zone own' b2 v2) w' := ⟨e3.mono g2, fun k hk => by
      rcases mem_zone.1 hk with h3 | h3 | h3
      · exact .inr (by omega)
      · exact .inr (e5.own.ge k h3).1
      · exact (e4 k h3).imp (g2 k) id⟩
    refine h2 j2 E b2 v2 vl (zone own' b2 v2) w' e1 ht (T.out.right ht ⟨own', rfl, e2, e5.less T.out.b.size, e8, e9⟩) (L2.own e6 (fun k hk => ⟨fun hm => ?_, fun hm => ?_⟩))
    · have := T.out.pz.lt k hm
      have := (e6.ge k hk).1
      omega
    · rcases mem_zone.1 hm with h3 | h3 | h3
      · exact (e10 k hk).2.1 h3
      · exact (e10 k hk).2.2 h3
      · exact (e10 k hk).1 h3
theorem append_t {b : Nat} {j : Jn.J} {v : Value} (T : Hid (TW w0 w A A2 p p2 D D2 (some (b, j, v)) o2)) (rv : Value) (rs : List Bytes) (HV : Hid (L2 A A2 w rv rs))
    (hr : rs.length ≤ 900) (HR9 : Hid (∀ x ∈ rs, x.length ≤ 1000000)) (HT9 : Hid ((Jn.text rs).length ≤ 900000)) (hn : j.n ≤ 4000) (hc : j.c + 2 ≤ j.n) (hll : j.l.length ≤ 90000) (hq : D.q.length ≤ 1000)
    (h : ∀ e j' E A' v' w', Jn.append Dg.sum j D rs = ((e, j'), E) → To A w A' w' → TW w0 w' A' A2 p p2 E D2 (some (b, j', v')) o2 → R (.returned (.int .i64 e)) w') :
    Calls Tryz.prog 13 #[.pointer (some ⟨b, 0, none⟩), rv] w R :=
  append_z (Lib.hid T.out.b) (Lib.hid (show JZ w0.heap.size w A p b D j v from T.out.pz)) rv rs (Lib.hid HV.out.1) hr HR9 HT9 hn hc hll hq (fun e j' E A' v' w' e1 e2 e3 => h e j' E A' v' w' e1 e2 (T.out.left e2 e3))
theorem rappend_t {b : Nat} {j : Jn.J} {v : Value} (T : Hid (TW w0 w A A2 p p2 D D2 o (some (b, j, v)))) (rv : Value) (rs : List Bytes) (HV : Hid (L2 A A2 w rv rs))
    (hr : rs.length ≤ 900) (HR9 : Hid (∀ x ∈ rs, x.length ≤ 1000000)) (HT9 : Hid ((Jn.text rs).length ≤ 900000)) (hn : j.n ≤ 4000) (hc : j.c + 2 ≤ j.n) (hll : j.l.length ≤ 90000) (hq : D2.q.length ≤ 1000)
    (h : ∀ e j' E A' v' w', Jn.append Dg.sum j D2 rs = ((e, j'), E) → To A2 w A' w' → TW w0 w' A A' p p2 D E o (some (b, j', v')) → R (.returned (.int .i64 e)) w') :
    Calls Tryz.prog 30 #[.pointer (some ⟨b, 0, none⟩), rv] w R := by
  obtain ⟨own, rfl, h1⟩ := (show KZ w0.heap.size w A2 p2 b D2 j v from T.out.qz)
  refine rappend_r (Lib.hid h1.dk) (Lib.hid h1.kr) (Lib.hid ⟨h1.bn, h1.vn⟩) rv rs (Lib.hid HV.out.2.1) (Lib.hid (fun hne ad n c he hm => (HV.out.2.2 hne ad n c he).1 ?_)) hr HR9 HT9 hn hc hll T.out.b.size hq
    (Lib.hid (fun e j' E own' v' w' e1 e2 e3 e4 e5 e6 => ?_))
  · rcases List.mem_cons.1 hm with h3 | h3
    · exact mem_zone.2 (.inl h3)
    · exact mem_zone.2 (.inr (.inr h3))
  · have ht : To (zone own b v) w (zone own' b v') w' := ⟨e3.mono (fun k hk => by
      rcases List.mem_cons.1 hk with h3 | h3
      · exact mem_zone.2 (.inl h3)
      · exact mem_zone.2 (.inr (.inr h3))), fun k hk => by
      rcases mem_zone.1 hk with h2 | h2 | h2
      · exact .inl (mem_zone.2 (.inl h2))
      · exact (e6 k h2).1.imp (fun h3 => mem_zone.2 (.inr (.inl h3))) id
      · exact (e4 k h2).imp (fun h3 => mem_zone.2 (.inr (.inr h3))) id⟩
    refine h e j' E _ v' w' e1 ht (T.out.right ht ⟨own', rfl, e2, e5, fun hm => ?_, fun k hk => ⟨(e6 k hk).2.1, (e6 k hk).2.2⟩⟩)
    rcases e4 b hm with h2 | h2
    · exact h1.bn h2
    · have := h1.kr.blk.lt
      omega
theorem room_t {b : Nat} {j : Jn.J} {v : Value} (T : Hid (TW w0 w A A2 p p2 D D2 (some (b, j, v)) o2)) (hn : j.n ≤ 4000) (hc : j.c + 2 ≤ j.n) (h : ∀ w', Chg [] w w' → R (.returned (.int .i64 (Jn.room j : Int))) w') :
    Calls Tryz.prog 14 #[.pointer (some ⟨b, 0, none⟩)] w R := room_r (Lib.hid (JZ.jr (show JZ w0.heap.size w A p b D j v from T.out.pz))) hn hc h
theorem rroom_t {b : Nat} {j : Jn.J} {v : Value} (T : Hid (TW w0 w A A2 p p2 D D2 o (some (b, j, v)))) (hn : j.n ≤ 4000) (hc : j.c + 2 ≤ j.n) (h : ∀ w', Chg [] w w' → R (.returned (.int .i64 (Jn.room j : Int))) w') :
    Calls Tryz.prog 19 #[.pointer (some ⟨b, 0, none⟩)] w R := by
  obtain ⟨own, rfl, h1⟩ := (show KZ w0.heap.size w A2 p2 b D2 j v from T.out.qz)
  exact rroom_r (Lib.hid h1.kr) hn hc h
theorem records_t {b : Nat} {j : Jn.J} {v : Value} (T : Hid (TW w0 w A A2 p p2 D D2 (some (b, j, v)) o2)) (hl : j.l.length ≤ 1000000) (h : ∀ v' w', L2 [] [] w' v' j.l → Chg [] w w' → R (.returned v') w') :
    Calls Tryz.prog 9 #[.pointer (some ⟨b, 0, none⟩)] w R :=
  records_r (v := v) (Lib.hid (JZ.jr (show JZ w0.heap.size w A p b D j v from T.out.pz))) hl (fun v' w' h1 h2 => h v' w' (L2.own h1 (fun k hk => by simp)) h2)
theorem rrecords_t {b : Nat} {j : Jn.J} {v : Value} (T : Hid (TW w0 w A A2 p p2 D D2 o (some (b, j, v)))) (h : L2 [] [] w v j.l → R (.returned v) w) :
    Calls Tryz.prog 18 #[.pointer (some ⟨b, 0, none⟩)] w R := by
  obtain ⟨own, rfl, h1⟩ := (show KZ w0.heap.size w A2 p2 b D2 j v from T.out.qz)
  exact rrecords_r (Lib.hid h1.kr) (h (L2.own h1.kr.own (fun k hk => by simp)))
end
theorem room_jnil (w : World) {R : Ending → World → Prop} (h : ∀ w', Chg [] w w' → R (.returned (.int .i64 0)) w') : Calls Tryz.prog 14 #[.pointer none] w R := by
  have HRR := Lib.hid h
  clear h
  go_enter Tryz.func14, Tryz.ntmps14
  go_wp2_with fail
  exact HRR.out _ (Chg.refl _ _)
theorem records_jnil (w : World) {R : Ending → World → Prop} (h : ∀ w', Chg [] w w' → R (.returned (.slice none 0 0)) w') : Calls Tryz.prog 9 #[.pointer none] w R := by
  have HRR := Lib.hid h
  clear h
  go_enter Tryz.func9, Tryz.ntmps9
  go_wp2_with fail
  exact HRR.out _ (Chg.refl _ _)
theorem rnew_bad (w : World) (s : Int) (hs : s < 1) : Calls Tryz.prog 16 #[.int .i64 s] w fun e w' => e = .returned (.pointer none) ∧ w = w' := by
  go_enter Tryz.func16, Tryz.ntmps16
  go_wp2_with fail
  go_ret
  exact ⟨rfl, rfl⟩
end Go.Proofs.YtpmkgedlnanjiaaGreatDoor
