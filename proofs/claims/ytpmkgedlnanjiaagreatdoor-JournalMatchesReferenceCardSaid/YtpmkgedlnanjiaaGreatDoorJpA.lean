/-
  Journal: a journal on a disk beside lists of texts; what each call does with them.
-/
import Derived.Test.YtpmkgedlnanjiaaGreatDoorJoI
import Derived.Test.YtpmkgedlnanjiaaGreatDoorDkG
import Derived.Test.YtpmkgedlnanjiaaGreatDoorDkH
import Derived.Test.YtpmkgedlnanjiaaGreatDoorDkJ
namespace Go.Proofs.YtpmkgedlnanjiaaGreatDoor
set_option linter.unusedVariables false
set_option linter.unusedSimpArgs false
open Go Go.RowKit
/-- From one zone of blocks to the next. -/
def To (A : List Nat) (w : World) (A' : List Nat) (w' : World) : Prop := Chg A w w' ∧ ∀ k ∈ A', k ∈ A ∨ w.heap.size ≤ k
theorem To.trans {A A1 A2 : List Nat} {w w1 w2 : World} (h : To A w A1 w1) (h1 : To A1 w1 A2 w2) : To A w A2 w2 := ⟨h.1.trans h1.1 h.2, fun k hk => (h1.2 k hk).elim (h.2 k) (fun h2 => .inr (Nat.le_trans h.1.size h2))⟩
theorem To.quiet {A : List Nat} {w w' : World} (hc : Chg [] w w') : To A w A w' := ⟨hc.mono (by simp), fun k hk => .inl hk⟩
/-- A list of texts beside a zone. -/
def Lst (A : List Nat) (w : World) (v : Value) (l : List Bytes) : Prop := Strs w v l ∧ (l ≠ [] → ∀ ad n c, v = .slice (some ad) n c → ad.block ∉ A ∧ ad.block < w.heap.size)
theorem Lst.to {A A' : List Nat} {w w' : World} {v : Value} {l : List Bytes} (h : Lst A w v l) (ht : To A w A' w') : Lst A' w' v l := by
  obtain ⟨h1, h2⟩ := h
  by_cases hl : l = []
  · subst hl
    obtain ⟨ao, cap, rfl, hle, _⟩ := h1
    exact ⟨⟨ao, cap, rfl, hle, fun i x hx => by simp at hx⟩, fun h => absurd rfl h⟩
  · refine ⟨h1.off ht.1 (fun ad n c he => (h2 hl ad n c he).1), fun _ ad n c he => ?_⟩
    obtain ⟨h3, h4⟩ := h2 hl ad n c he
    exact ⟨fun hm => by rcases ht.2 _ hm with h5 | h5; exact h3 h5; omega, Nat.lt_of_lt_of_le h4 ht.1.size⟩
theorem Lst.less {A A' : List Nat} {w : World} {v : Value} {l : List Bytes} (h : Lst A w v l) (hs : ∀ k ∈ A', k ∈ A) : Lst A' w v l := ⟨h.1, fun hl ad n c he => ⟨fun hm => (h.2 hl ad n c he).1 (hs _ hm), (h.2 hl ad n c he).2⟩⟩
theorem Lst.form {A : List Nat} {w : World} {v : Value} {l : List Bytes} (h : Lst A w v l) : ∃ ao cap, v = .slice ao l.length cap ∧ l.length ≤ cap := by
  obtain ⟨⟨ao, cap, rfl, hle, _⟩, _⟩ := h
  exact ⟨ao, cap, rfl, hle⟩
/-- A list of the call's own beside a zone. -/
def Own (B : Nat) (A : List Nat) (w : World) (v : Value) (l : List Bytes) : Prop := OwT B l v w ∧ ∀ k, v.ownBlock = some k → k ∉ A
theorem Own.to {B : Nat} {A A' : List Nat} {w w' : World} {v : Value} {l : List Bytes} (h : Own B A w v l) (ht : To A w A' w') : Own B A' w' v l :=
  ⟨h.1.keep ht.1 h.2, fun k hk hm => by rcases ht.2 k hm with h1 | h1; exact h.2 k hk h1; (have := (h.1.ge k hk).2; omega)⟩
theorem Own.less {B : Nat} {A A' : List Nat} {w : World} {v : Value} {l : List Bytes} (h : Own B A w v l) (hs : ∀ k ∈ A', k ∈ A) : Own B A' w v l := ⟨h.1, fun k hk hm => h.2 k hk (hs k hm)⟩
theorem Own.lst {B : Nat} {A : List Nat} {w : World} {v : Value} {l : List Bytes} (h : Own B A w v l) : Lst A w v l := by
  refine ⟨h.1.strs, fun hl ad n c he => ?_⟩
  subst he
  obtain ⟨g, h1, _⟩ := h.1.cells hl
  injection h1 with h1
  subst h1
  exact ⟨h.2 g rfl, (h.1.ge g rfl).2⟩
/-- A journal at b on the disk at p. -/
structure JA (B : Nat) (w : World) (own : List Nat) (p b : Nat) (D : DK) (j : Jn.J) (v : Value) : Prop where
  dk : DkAt w own p D
  jr : JR w B b p j v
  bn : b ∉ own
  vn : ∀ k, v.ownBlock = some k → k ∉ own ∧ k ≠ b
def zone (own : List Nat) (b : Nat) (v : Value) : List Nat := b :: (v.ownBlock.toList ++ own)
/-- .. and the zone that both take. -/
def JZ (B : Nat) (w : World) (A : List Nat) (p b : Nat) (D : DK) (j : Jn.J) (v : Value) : Prop := ∃ own, A = zone own b v ∧ JA B w own p b D j v
theorem mem_zone {own : List Nat} {b k : Nat} {v : Value} : k ∈ zone own b v ↔ k = b ∨ v.ownBlock = some k ∨ k ∈ own := by
  unfold zone
  rw [List.mem_cons, List.mem_append, Option.mem_toList]
theorem JR.quiet {w w' : World} {B b p : Nat} {j : Jn.J} {v : Value} {A : List Nat} (h : JR w B b p j v) (hc : Chg A w w') (hb : b ∉ A) (hv : ∀ k, v.ownBlock = some k → k ∉ A) : JR w' B b p j v := ⟨hc.blk h.blk hb, h.own.keep hc hv⟩
theorem JR.less {w : World} {B B' b p : Nat} {j : Jn.J} {v : Value} (h : JR w B' b p j v) (hb : B ≤ B') : JR w B b p j v := ⟨h.blk, h.own.less hb⟩
/-- The disk goes on, the journal stays. -/
theorem JZ.step {B : Nat} {w : World} {A : List Nat} {p b : Nat} {D : DK} {j : Jn.J} {v : Value} (h : JZ B w A p b D j v) : ∃ own, DkAt w own p D ∧ (∀ k ∈ own, k ∈ A) ∧ ∀ D' own' w', DkAt w' own' p D' → To own w own' w' → To A w (zone own' b v) w' ∧ JZ B w' (zone own' b v) p b D' j v := by
  obtain ⟨own, rfl, h1⟩ := h
  refine ⟨own, h1.dk, fun k hk => mem_zone.2 (.inr (.inr hk)), fun D' own' w' hd ht => ⟨⟨ht.1.mono (fun k hk => mem_zone.2 (.inr (.inr hk))), fun k hk => ?_⟩, own', rfl, hd, h1.jr.quiet ht.1 h1.bn (fun k hk => (h1.vn k hk).1), fun hm => ?_, fun k hk => ⟨fun hm => ?_, (h1.vn k hk).2⟩⟩⟩
  · rcases mem_zone.1 hk with h2 | h2 | h2
    · exact .inl (mem_zone.2 (.inl h2))
    · exact .inl (mem_zone.2 (.inr (.inl h2)))
    · exact (ht.2 k h2).imp (fun h3 => mem_zone.2 (.inr (.inr h3))) id
  · rcases ht.2 b hm with h2 | h2
    · exact h1.bn h2
    · have := h1.jr.blk.lt; omega
  · rcases ht.2 k hm with h2 | h2
    · exact (h1.vn k hk).1 h2
    · have := (h1.jr.own.ge k hk).2; omega
theorem JZ.quiet {B : Nat} {w w' : World} {A : List Nat} {p b : Nat} {D : DK} {j : Jn.J} {v : Value} (h : JZ B w A p b D j v) (hc : Chg [] w w') : JZ B w' A p b D j v := by
  obtain ⟨own, rfl, h1⟩ := h
  exact ⟨own, rfl, h1.dk.kept hc (by simp), h1.jr.quiet hc (by simp) (by simp), h1.bn, h1.vn⟩
theorem JZ.jr {B : Nat} {w : World} {A : List Nat} {p b : Nat} {D : DK} {j : Jn.J} {v : Value} (h : JZ B w A p b D j v) : JR w B b p j v := by
  obtain ⟨own, rfl, h1⟩ := h
  exact h1.jr
theorem JZ.lt {B : Nat} {w : World} {A : List Nat} {p b : Nat} {D : DK} {j : Jn.J} {v : Value} (h : JZ B w A p b D j v) : ∀ k ∈ A, k < w.heap.size := by
  obtain ⟨own, rfl, h1⟩ := h
  intro k hk
  rcases mem_zone.1 hk with rfl | h2 | h2
  · exact h1.jr.blk.lt
  · exact (h1.jr.own.ge k h2).2
  · exact h1.dk.lt k h2
/-- The zone lies in memory of the call's own. -/
structure Base (w0 w : World) (A : List Nat) : Prop where
  chg : Chg [] w0 w
  ge : ∀ k ∈ A, w0.heap.size ≤ k
  laid : Laid w0
theorem Base.to {w0 w w' : World} {A A' : List Nat} (h : Base w0 w A) (ht : To A w A' w') : Base w0 w' A' :=
  ⟨h.chg.trans ht.1 (fun k hk => .inr (h.ge k hk)), fun k hk => by rcases ht.2 k hk with h1 | h1; exact h.ge k h1; exact Nat.le_trans h.chg.size h1, h.laid⟩
theorem Base.less {w0 w : World} {A A' : List Nat} (h : Base w0 w A) (hs : ∀ k ∈ A', k ∈ A) : Base w0 w A' := ⟨h.chg, fun k hk => h.ge k (hs k hk), h.laid⟩
theorem Base.here {w0 w : World} {A : List Nat} (h : Base w0 w A) : Laid w := h.laid.quiet h.chg
theorem Base.gn {w0 w : World} {A : List Nat} (h : Base w0 w A) : ∀ k ∈ A, GN ≤ k := fun k hk => Nat.le_trans h.laid.gn (h.ge k hk)
theorem Base.size {w0 w : World} {A : List Nat} (h : Base w0 w A) : w0.heap.size ≤ w.heap.size := h.chg.size
/-- What came in lies beside each zone. -/
theorem Base.lst {w0 w : World} {A : List Nat} (h : Base w0 w A) {v : Value} {l : List Bytes} (hl : Strs w0 v l) (hb : l ≠ [] → ∀ ad n c, v = .slice (some ad) n c → ad.block < w0.heap.size) : Lst A w v l :=
  ⟨hl.quiet h.chg, fun h1 ad n c he => ⟨fun hm => by have h2 := h.ge _ hm; have h3 := hb h1 ad n c he; omega, Nat.lt_of_lt_of_le (hb h1 ad n c he) h.chg.size⟩⟩
theorem DkTo.to {w w' : World} {own : List Nat} {p : Nat} {D : DK} (h : DkTo w own p D w') : ∃ own', DkAt w' own' p D ∧ To own w own' w' := by
  obtain ⟨own', h1, h2, h3⟩ := h
  exact ⟨own', h1, h2, h3⟩
theorem DkTo.zone {B : Nat} {w : World} {A : List Nat} {p b : Nat} {D' : DK} {j : Jn.J} {v : Value} {w' : World} {own : List Nat} (hs : ∀ D' own' w', DkAt w' own' p D' → To own w own' w' → To A w (zone own' b v) w' ∧ JZ B w' (zone own' b v) p b D' j v) (h : DkTo w own p D' w') : ∃ A', To A w A' w' ∧ JZ B w' A' p b D' j v := by
  obtain ⟨own', h1, h2⟩ := h.to
  exact ⟨_, hs D' own' w' h1 h2⟩
section
variable {B : Nat} {w : World} {A : List Nat} {p b : Nat} {D : DK} {j : Jn.J} {v : Value} {R : Ending → World → Prop}
theorem fail_z (H : Hid (JZ B w A p b D j v)) (hq : D.q.length ≤ 1000000) (x y : Int) (h : ∀ A' w', To A w A' w' → JZ B w' A' p b (D.fail x y) j v → R (.returned (.tuple #[])) w') :
    Calls Tryz.prog 20 #[.pointer (some ⟨p,0,none⟩), .int .i64 x, .int .i64 y] w R := by
  obtain ⟨own, h1, _, h2⟩ := H.out.step
  refine (fail_spec h1 hq x y).mono ?_
  rintro e w' ⟨rfl, hd⟩
  obtain ⟨A', h3, h4⟩ := DkTo.zone h2 hd
  exact h A' w' h3 h4
theorem start_z (H : Hid (JZ B w A p b D j v)) (h : ∀ A' w', To A w A' w' → JZ B w' A' p b D.start j v → R (.returned (.tuple #[])) w') :
    Calls Tryz.prog 22 #[.pointer (some ⟨p,0,none⟩)] w R := by
  obtain ⟨own, h1, _, h2⟩ := H.out.step
  refine (start_spec h1).mono ?_
  rintro e w' ⟨rfl, hd⟩
  obtain ⟨A', h3, h4⟩ := DkTo.zone h2 hd
  exact h A' w' h3 h4
theorem arm_z (H : Hid (JZ B w A p b D j v)) (a x y : Int) (hr : a ≤ 9223372036854775807) (h : ∀ A' w', To A w A' w' → JZ B w' A' p b (D.setArm a x y) j v → R (.returned (.tuple #[])) w') :
    Calls Tryz.prog 24 #[.pointer (some ⟨p,0,none⟩), .int .i64 a, .int .i64 x, .int .i64 y] w R := by
  obtain ⟨own, h1, _, h2⟩ := H.out.step
  refine (arm_spec h1 a x y hr).mono ?_
  rintro e w' ⟨rfl, hd⟩
  obtain ⟨A', h3, h4⟩ := DkTo.zone h2 hd
  exact h A' w' h3 h4
theorem rot_z (H : Hid (JZ B w A p b D j v)) (s a m : Int) (h : ∀ A' w', To A w A' w' → JZ B w' A' p b (D.rot s a m) j v → R (.returned (.tuple #[])) w') :
    Calls Tryz.prog 26 #[.pointer (some ⟨p,0,none⟩), .int .i64 s, .int .i64 a, .int .i64 m] w R := by
  obtain ⟨own, h1, _, h2⟩ := H.out.step
  refine (rot_spec h1 s a m).mono ?_
  rintro e w' ⟨rfl, hd⟩
  obtain ⟨A', h3, h4⟩ := DkTo.zone h2 hd
  exact h A' w' h3 h4
theorem stale_z (H : Hid (JZ B w A p b D j v)) (s : Int) (h : ∀ A' w', To A w A' w' → JZ B w' A' p b (D.stale s) j v → R (.returned (.tuple #[])) w') :
    Calls Tryz.prog 28 #[.pointer (some ⟨p,0,none⟩), .int .i64 s] w R := by
  obtain ⟨own, h1, _, h2⟩ := H.out.step
  refine (stale_spec h1 s).mono ?_
  rintro e w' ⟨rfl, hd⟩
  obtain ⟨A', h3, h4⟩ := DkTo.zone h2 hd
  exact h A' w' h3 h4
theorem room_z (H : Hid (JZ B w A p b D j v)) (hn : j.n ≤ 4000) (hc : j.c + 2 ≤ j.n) (h : ∀ w', Chg [] w w' → R (.returned (.int .i64 (Jn.room j : Int))) w') :
    Calls Tryz.prog 14 #[.pointer (some ⟨b, 0, none⟩)] w R := room_r (Lib.hid H.out.jr) hn hc h
theorem records_z {w0 : World} (HB : Hid (Base w0 w A)) (HA : Hid (∀ k ∈ A, k < w.heap.size)) (H : Hid (JR w w0.heap.size b p j v)) (hl : j.l.length ≤ 1000000) (h : ∀ v' w', Own w0.heap.size A w' v' j.l → Chg [] w w' → R (.returned v') w') :
    Calls Tryz.prog 9 #[.pointer (some ⟨b, 0, none⟩)] w R :=
  records_r (v := v) H hl (fun v' w' h1 h2 => h v' w' ⟨h1.less HB.out.size, fun k hk hm => by
    have h3 := (h1.ge k hk).1
    have h4 := HA.out k hm
    omega⟩ h2)
theorem append_z {w0 : World} (HB : Hid (Base w0 w A)) (H : Hid (JZ w0.heap.size w A p b D j v)) (rv : Value) (rs : List Bytes) (HV : Hid (Lst A w rv rs))
    (hr : rs.length ≤ 900) (HR9 : Hid (∀ x ∈ rs, x.length ≤ 1000000)) (HT9 : Hid ((Jn.text rs).length ≤ 900000)) (hn : j.n ≤ 4000) (hc : j.c + 2 ≤ j.n) (hll : j.l.length ≤ 90000) (hq : D.q.length ≤ 1000)
    (h : ∀ e j' E A' v' w', Jn.append Dg.sum j D rs = ((e, j'), E) → To A w A' w' → JZ w0.heap.size w' A' p b E j' v' → R (.returned (.int .i64 e)) w') :
    Calls Tryz.prog 13 #[.pointer (some ⟨b, 0, none⟩), rv] w R := by
  obtain ⟨own, rfl, h1⟩ := H.out
  refine append_r (Lib.hid HB.out.here) (Lib.hid (fun k hk => HB.out.gn k (mem_zone.2 (.inr (.inr hk))))) (Lib.hid h1.dk) (Lib.hid h1.jr) (Lib.hid ⟨h1.bn, h1.vn⟩) rv rs (Lib.hid HV.out.1) (Lib.hid (fun hne ad n c he => (HV.out.2 hne ad n c he).1)) hr HR9 HT9 hn hc hll HB.out.size hq
    (Lib.hid (fun e j' E own' v' w' e1 e2 e3 e4 e5 e6 => h e j' E (zone own' b v') v' w' e1 ⟨e3, fun k hk => ?_⟩ ⟨own', rfl, e2, e5, fun hm => ?_, fun k hk => ⟨(e6 k hk).2.1, (e6 k hk).2.2⟩⟩))
  · rcases mem_zone.1 hk with h2 | h2 | h2
    · exact .inl (mem_zone.2 (.inl h2))
    · exact (e6 k h2).1.imp (fun h3 => mem_zone.2 (.inr (.inl h3))) id
    · exact (e4 k h2).imp (fun h3 => mem_zone.2 (.inr (.inr h3))) id
  · rcases e4 b hm with h2 | h2
    · exact h1.bn h2
    · have := h1.jr.blk.lt; omega
/-- Open on a disk alone. -/
theorem open_d {w0 : World} (HB : Hid (Base w0 w A)) (H : Hid (DkAt w A p D)) (hq : D.q.length ≤ 1000) (hn4 : D.n ≤ 100)
    (h1 : ∀ e E A' w', Jn.openJ Dg.sum D = ((e, none), E) → To A w A' w' → DkAt w' A' p E → R (.returned (.tuple #[.pointer none, .slice none 0 0, .int .i64 e])) w')
    (h2 : ∀ j2 E b2 v2 vl A' w', Jn.openJ Dg.sum D = ((0, some j2), E) → To A w A' w' → JZ w0.heap.size w' A' p b2 E j2 v2 → Own w0.heap.size A' w' vl j2.l → R (.returned (.tuple #[.pointer (some ⟨b2, 0, none⟩), vl, .int .i64 0])) w') :
    Calls Tryz.prog 7 #[.pointer (some ⟨p, 0, none⟩)] w R := by
  refine open_r (Lib.hid HB.out.here) (Lib.hid HB.out.gn) H hq hn4 (Lib.hid ⟨fun e E w' e1 e2 => ?_, fun j2 E b2 own' v2 vl w' e1 e2 e3 e4 e5 e6 e7 e8 e9 e10 => ?_⟩)
  · obtain ⟨A', e3, e4⟩ := e2.to
    exact h1 e E A' w' e1 e4 e3
  · refine h2 j2 E b2 v2 vl (zone own' b2 v2) w' e1 ⟨e3, fun k hk => ?_⟩ ⟨own', rfl, e2, e5.less HB.out.size, e8, e9⟩ ⟨e6.less HB.out.size, fun k hk hm => ?_⟩
    · rcases mem_zone.1 hk with h3 | h3 | h3
      · exact .inr (by omega)
      · exact .inr (e5.own.ge k h3).1
      · exact e4 k h3
    · have h4 := e10 k hk
      rcases mem_zone.1 hm with h3 | h3 | h3
      · exact h4.2.1 h3
      · exact h4.2.2 h3
      · exact h4.1 h3
/-- Open on a disk that a journal is on already. -/
theorem open_z {w0 : World} (HB : Hid (Base w0 w A)) (H : Hid (JZ w0.heap.size w A p b D j v)) (hq : D.q.length ≤ 1000) (hn4 : D.n ≤ 100)
    (h1 : ∀ e E A' w', Jn.openJ Dg.sum D = ((e, none), E) → To A w A' w' → JZ w0.heap.size w' A' p b E j v → R (.returned (.tuple #[.pointer none, .slice none 0 0, .int .i64 e])) w')
    (h2 : ∀ j2 E b2 v2 vl A' w', Jn.openJ Dg.sum D = ((0, some j2), E) → To A w A' w' → JZ w0.heap.size w' A' p b E j v → (JR w' w0.heap.size b2 p j2 v2 ∧ b2 ∉ A' ∧ ∀ k, v2.ownBlock = some k → k ∉ A') → Own w0.heap.size A' w' vl j2.l → R (.returned (.tuple #[.pointer (some ⟨b2, 0, none⟩), vl, .int .i64 0])) w') :
    Calls Tryz.prog 7 #[.pointer (some ⟨p, 0, none⟩)] w R := by
  obtain ⟨own, g1, g2, g3⟩ := H.out.step
  have HLT := Lib.hid H.out.lt
  refine open_r (Lib.hid HB.out.here) (Lib.hid (fun k hk => HB.out.gn k (g2 k hk))) (Lib.hid g1) hq hn4 (Lib.hid ⟨fun e E w' e1 e2 => ?_, fun j2 E b2 own' v2 vl w' e1 e2 e3 e4 e5 e6 e7 e8 e9 e10 => ?_⟩)
  · obtain ⟨A', e3, e4⟩ := e2.to
    obtain ⟨g4, g5⟩ := g3 E A' w' e3 e4
    exact h1 e E _ w' e1 g4 g5
  · obtain ⟨g4, g5⟩ := g3 E own' w' e2 ⟨e3, e4⟩
    have hz : ∀ k, w.heap.size ≤ k → k ∉ own' → k ∉ zone own' b v := fun k hk hn hm => by
      rcases mem_zone.1 hm with h3 | h3 | h3
      · have := H.out.jr.blk.lt; omega
      · have := (H.out.jr.own.ge k h3).2; omega
      · exact hn h3
    exact h2 j2 E b2 v2 vl _ w' e1 g4 g5 ⟨e5.less HB.out.size, hz b2 e7 e8, fun k hk => hz k (e5.own.ge k hk).1 (e9 k hk).1⟩ ⟨e6.less HB.out.size, fun k hk => hz k (e6.ge k hk).1 (e10 k hk).1⟩
end
/-- A new disk. -/
theorem new_d {w0 w : World} (HB : Hid (Base w0 w [])) (n : Nat) (h1 : 1 ≤ n) (h2 : n ≤ 4000) {R : Ending → World → Prop} (h : ∀ p A w', To [] w A w' → DkAt w' A p (DK.new n) → R (.returned (.pointer (some ⟨p, 0, none⟩))) w') :
    Calls Tryz.prog 8 #[.int .i64 (n : Int)] w R := by
  refine (new_calls w n h1 h2).mono ?_
  rintro e w' ⟨v, rfl, p, own, rfl, e1, e2, e3⟩
  exact h p own w' ⟨e2, fun k hk => .inr (e3 k hk)⟩ e1
end Go.Proofs.YtpmkgedlnanjiaaGreatDoor
