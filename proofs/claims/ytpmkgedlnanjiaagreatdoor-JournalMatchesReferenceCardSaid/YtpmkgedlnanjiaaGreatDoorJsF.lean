/-
  JsA, JsB, JsC, JsD, JsE, JsF in one text.
-/
import Derived.Test.YtpmkgedlnanjiaaGreatDoorJrA
import Derived.Deep.AppendLies
import Derived.Test.YtpmkgedlnanjiaaGreatDoorDkD
import Derived.Deep.RegionLaw
import Derived.Test.YtpmkgedlnanjiaaGreatDoorDkI
namespace Go.Proofs.YtpmkgedlnanjiaaGreatDoor
set_option linter.unusedVariables false
set_option linter.unusedSimpArgs false
open Go Go.RowKit

def rcells : List (Nat × Bytes) → List Value
  | [] => []
  | p :: l => .int .i64 (p.1 : Int) :: .string ⟨p.2.toArray⟩ :: rcells l
theorem rcells_append (l m : List (Nat × Bytes)) : rcells (l ++ m) = rcells l ++ rcells m := by
  induction l with
  | nil => rfl
  | cons p l ih => simp [rcells, ih]
theorem rcells_length (l : List (Nat × Bytes)) : (rcells l).length = l.length * 2 := by
  induction l with
  | nil => rfl
  | cons p l ih => simp only [rcells, List.length_cons, ih]; omega
theorem rcells_at (l : List (Nat × Bytes)) : ∀ (i : Nat) (p : Nat × Bytes), l[i]? = some p →
    (rcells l)[i * 2]? = some (.int .i64 (p.1 : Int)) ∧ (rcells l)[i * 2 + 1]? = some (.string ⟨p.2.toArray⟩) := by
  induction l with
  | nil => intro i p h; simp at h
  | cons x l ih =>
    intro i p h
    cases i with
    | zero => simp at h; subst h; simp [rcells]
    | succ i =>
      have := ih i p (by simpa using h)
      rw [show (i + 1) * 2 = i * 2 + 2 by omega]
      exact this
/-- The first n texts that f names. -/
def secs (n : Nat) (f : Nat → Bytes) : List Bytes := (List.range n).map f
theorem secs_len (n : Nat) (f : Nat → Bytes) : (secs n f).length = n := by simp [secs]
theorem secs_at (n : Nat) (f : Nat → Bytes) (i : Nat) (h : i < n) : (secs n f)[i]? = some (f i) := by
  unfold secs
  rw [List.getElem?_map, List.getElem?_range h]
  rfl
theorem secs_set (n : Nat) (f : Nat → Bytes) (s : Nat) (x : Bytes) : (secs n f).set s x = secs n (fun i => if i = s then x else f i) := by
  apply List.ext_getElem?
  intro i
  rw [List.getElem?_set, secs_len]
  by_cases hi : i < n
  · rw [secs_at _ _ _ hi, secs_at _ _ _ hi]
    by_cases hs : s = i
    · subst hs; rw [if_pos rfl, if_pos hi, if_pos rfl]
    · rw [if_neg hs, if_neg (fun e => hs e.symm)]
  · rw [List.getElem?_eq_none (by rw [secs_len]; omega), List.getElem?_eq_none (by rw [secs_len]; omega)]
    split
    · rw [if_neg (by omega)]
    · rfl

def rfCells (gs cs ge ce n : Nat) (qv : Value) (off : Bool) (arm : Bool) (A W B : Int) : List Value :=
  [.slice (some ⟨gs, 0, none⟩) n cs, .slice (some ⟨ge, 0, none⟩) n ce, qv, .bool (!off), .bool arm, .int .i64 A, .int .i64 W, .int .i64 B]
structure RfR (w : World) (p gs cs ge ce : Nat) (qv : Value) (A W B : Int) (D : DK) : Prop where
  hp : Blk w p (rfCells gs cs ge ce D.n qv D.off D.arm.isSome A W B) 80
  hs : StrRow w (.slice (some ⟨gs, 0, none⟩) D.n cs) (secs D.n D.st)
  he : StrRow w (.slice (some ⟨ge, 0, none⟩) D.n ce) (secs D.n D.el)
  hq : w.ownsRow 0 92 2 qv D.q.length (rcells D.q)
  ha : ∀ a, D.arm = some a → a = (A, W, B)
  nd : p ≠ gs ∧ p ≠ ge ∧ gs ≠ ge ∧ ∀ k ∈ qv.ownBlock.toList, k ≠ p ∧ k ≠ gs ∧ k ≠ ge
  ok : D.Ok
def rfOwn (p gs ge : Nat) (qv : Value) : List Nat := [p, gs, ge] ++ qv.ownBlock.toList
theorem mem_rfOwn {k p gs ge : Nat} {qv : Value} : k ∈ rfOwn p gs ge qv ↔ k = p ∨ k = gs ∨ k = ge ∨ k ∈ qv.ownBlock.toList := by
  simp [rfOwn, or_assoc]
def RfAt (w : World) (own : List Nat) (p : Nat) (D : DK) : Prop := ∃ gs cs ge ce qv A W B, RfR w p gs cs ge ce qv A W B D ∧ own = rfOwn p gs ge qv
def RfTo (w : World) (own : List Nat) (p : Nat) (D : DK) (w' : World) : Prop :=
  ∃ own', RfAt w' own' p D ∧ Chg own w w' ∧ (∀ k ∈ own', k ∈ own ∨ w.heap.size ≤ k)

theorem RfR.gsl {w : World} {p gs cs ge ce : Nat} {qv : Value} {A W B : Int} {D : DK} (h : RfR w p gs cs ge ce qv A W B D) : gs < w.heap.size := row_lt h.hs gs (by simp [Value.ownBlock])
theorem RfR.gel {w : World} {p gs cs ge ce : Nat} {qv : Value} {A W B : Int} {D : DK} (h : RfR w p gs cs ge ce qv A W B D) : ge < w.heap.size := row_lt h.he ge (by simp [Value.ownBlock])
theorem RfR.kept {w w' : World} {own : List Nat} {p gs cs ge ce : Nat} {qv : Value} {A W B : Int} {D : DK} (h : RfR w p gs cs ge ce qv A W B D) (hc : Chg own w w') (hn : ∀ k ∈ rfOwn p gs ge qv, k ∉ own) : RfR w' p gs cs ge ce qv A W B D :=
  ⟨hc.blk h.hp (hn p (mem_rfOwn.2 (.inl rfl))), h.hs.kept hc (fun k hk => by simp [Value.ownBlock] at hk; subst hk; exact hn _ (mem_rfOwn.2 (.inr (.inl rfl)))), h.he.kept hc (fun k hk => by simp [Value.ownBlock] at hk; subst hk; exact hn _ (mem_rfOwn.2 (.inr (.inr (.inl rfl))))),
    row_kept h.hq hc (fun k hk => hn k (mem_rfOwn.2 (.inr (.inr (.inr hk))))), h.ha, h.nd, h.ok⟩
theorem RfR.lt {w : World} {p gs cs ge ce : Nat} {qv : Value} {A W B : Int} {D : DK} (h : RfR w p gs cs ge ce qv A W B D) : ∀ k ∈ rfOwn p gs ge qv, k < w.heap.size := by
  intro k hk
  rcases mem_rfOwn.1 hk with rfl | rfl | rfl | hk
  · exact h.hp.lt
  · exact h.gsl
  · exact h.gel
  · exact row_lt h.hq k hk
theorem RfAt.kept {w w' : World} {own own1 : List Nat} {p : Nat} {D : DK} (h : RfAt w own p D) (hc : Chg own1 w w') (hn : ∀ k ∈ own, k ∉ own1) : RfAt w' own p D := by
  obtain ⟨gs, cs, ge, ce, qv, A, W, B, h1, rfl⟩ := h
  exact ⟨gs, cs, ge, ce, qv, A, W, B, h1.kept hc hn, rfl⟩
theorem RfAt.lt {w : World} {own : List Nat} {p : Nat} {D : DK} (h : RfAt w own p D) : ∀ k ∈ own, k < w.heap.size := by
  obtain ⟨gs, cs, ge, ce, qv, A, W, B, h1, rfl⟩ := h
  exact h1.lt
theorem RfAt.ok {w : World} {own : List Nat} {p : Nat} {D : DK} (h : RfAt w own p D) : D.Ok := by
  obtain ⟨gs, cs, ge, ce, qv, A, W, B, h1, rfl⟩ := h
  exact h1.ok
theorem RfTo.trans {w w1 w2 : World} {own own1 : List Nat} {p : Nat} {D : DK} (hc : Chg own w w1) (hs : ∀ k ∈ own1, k ∈ own ∨ w.heap.size ≤ k) (h : RfTo w1 own1 p D w2) : RfTo w own p D w2 := by
  obtain ⟨own2, h1, h2, h3⟩ := h
  refine ⟨own2, h1, hc.trans h2 hs, fun k hk => ?_⟩
  rcases h3 k hk with h4 | h4
  · exact hs k h4
  · exact .inr (Nat.le_trans hc.size h4)
theorem RfAt.to {w w' : World} {own : List Nat} {p : Nat} {D : DK} (h : RfAt w own p D) (hc : Chg [] w w') : RfTo w own p D w' :=
  ⟨own, h.kept hc (by simp), hc.mono (by simp), fun k hk => .inl hk⟩
theorem RfR.to {w w' : World} {p gs cs ge ce : Nat} {qv qv' : Value} {A W B : Int} {D : DK} (h : RfR w' p gs cs ge ce qv' A W B D) (hc : Chg (rfOwn p gs ge qv) w w') (hq : ∀ k ∈ qv'.ownBlock.toList, k ∈ qv.ownBlock.toList ∨ w.heap.size ≤ k) : RfTo w (rfOwn p gs ge qv) p D w' :=
  ⟨_, ⟨gs, cs, ge, ce, qv', A, W, B, h, rfl⟩, hc, fun k hk => by
    rcases mem_rfOwn.1 hk with rfl | rfl | rfl | hk
    · exact .inl (mem_rfOwn.2 (.inl rfl))
    · exact .inl (mem_rfOwn.2 (.inr (.inl rfl)))
    · exact .inl (mem_rfOwn.2 (.inr (.inr (.inl rfl))))
    · rcases hq k hk with h | h
      · exact .inl (mem_rfOwn.2 (.inr (.inr (.inr h))))
      · exact .inr h⟩

namespace DK
/-- A whole sector is replaced. -/
def lay (D : DK) (s : Nat) (t : Bytes) : DK := { D with el := fun i => if i = s then D.st s else D.el i, st := fun i => if i = s then t else D.st i }
theorem put_lay (D : DK) (s : Nat) (t : Bytes) : D.put s t = D.lay s (t ++ (D.st s).drop t.length) := by
  unfold put lay
  simp
theorem put_full (D : DK) (s : Nat) (t : Bytes) (hs : (D.st s).length = 64) (ht : t.length = 64) : D.put s t = D.lay s t := by
  rw [put_lay, ht, List.drop_of_length_le (by omega), List.append_nil]
theorem lay_ok {D : DK} (h : D.Ok) (s : Nat) (t : Bytes) (hs : s < D.n) (ht : t.length = 64) : (D.lay s t).Ok := by
  have := put_ok h s t hs (by omega)
  rw [put_full D s t (h.st s hs) ht] at this
  exact this
end DK

theorem StrRow.cellOf {w : World} {g n cap : Nat} {f : Nat → Bytes} (h : StrRow w (.slice (some ⟨g, 0, none⟩) n cap) (secs n f)) (i : Nat) (hi : i < n) : w.cell? ⟨g, i, none⟩ = some (.string ⟨(f i).toArray⟩) := by
  obtain ⟨g', cap', hv, hc⟩ := h.at n (secs_len n f) i (f i) (secs_at n f i hi)
  simp only [Value.slice.injEq, Option.some.injEq, Addr.mk.injEq, and_true, true_and] at hv
  obtain ⟨rfl, _⟩ := hv
  exact hc
theorem StrRow.freeOf {w : World} {g n cap : Nat} {f : Nat → Bytes} (h : StrRow w (.slice (some ⟨g, 0, none⟩) n cap) (secs n f)) (i : Nat) (hi : i < n) : w.frozen? ⟨g, i, none⟩ = false := by
  obtain ⟨h1, _, _⟩ := h.spot2 i (by rw [secs_len]; exact hi)
  exact h1

set_option maxRecDepth 100000 in
theorem rset_spec {w : World} {p gs cs ge ce : Nat} {qv : Value} {A W B : Int} {D : DK} (H : Hid (RfR w p gs cs ge ce qv A W B D)) (s : Nat) (hs : s < D.n) (t : Bytes) (Ht : Hid (t.length = 64)) :
    Calls Tryz.prog 64 #[.pointer (some ⟨p, 0, none⟩), .int .i64 (s : Int), .string ⟨t.toArray⟩] w fun e w' => e = .returned (.tuple #[]) ∧ Chg [gs, ge] w w' ∧ RfR w' p gs cs ge ce qv A W B (D.lay s t) := by
  have c0 := H.out.hp.cell (i := 0) rfl
  have c1 := H.out.hp.cell (i := 1) rfl
  have k1 := H.out.hs.cellOf s hs
  have k2 := H.out.he.cellOf s hs
  have f1 := H.out.hs.freeOf s hs
  have f2 := H.out.he.freeOf s hs
  have n2 := H.out.ok.n2
  obtain ⟨d1, d2, d3, _⟩ := H.out.nd
  go_enter Tryz.func64, Tryz.ntmps64
  go_wp2_with fail
  refine wp_region_tail 12 (by kernel_rfl) (by kernel_rfl) (fun L hL => ?_)
  simp only [List.take_succ_cons, List.take_zero, List.drop_succ_cons, List.drop_zero] at hL ⊢
  repeat still_step
  refine wpStill_nil (hL _ ?_)
  clear hL L
  go_wp2_with fail
  have hc1 : Chg [ge] w (w.setCell ⟨ge, s, none⟩ (vstr (D.st s))) := (Chg.refl _ _).setCell _ _ (.inl (by simp))
  have hc2 : Chg [gs] (w.setCell ⟨ge, s, none⟩ (vstr (D.st s))) ((w.setCell ⟨ge, s, none⟩ (vstr (D.st s))).setCell ⟨gs, s, none⟩ (vstr t)) := (Chg.refl _ _).setCell _ _ (.inl (by simp))
  have hq := H.out.nd.2.2.2
  have hR : RfR ((w.setCell ⟨ge, s, none⟩ (vstr (D.st s))).setCell ⟨gs, s, none⟩ (vstr t)) p gs cs ge ce qv A W B (D.lay s t) := by
    refine ⟨hc2.blk (hc1.blk H.out.hp (by simpa using d2)) (by simpa using d1), ?_, ?_, row_kept (row_kept H.out.hq hc1 (fun k hk => by simpa using (hq k hk).2.2)) hc2 (fun k hk => by simpa using (hq k hk).2.1), H.out.ha, H.out.nd, DK.lay_ok H.out.ok s t hs Ht.out⟩
    · show StrRow _ _ (secs D.n (fun i => if i = s then t else D.st i))
      rw [← secs_set]
      exact (H.out.hs.kept hc1 (by simp [Value.ownBlock]; exact d3)).set s t
    · show StrRow _ _ (secs D.n (fun i => if i = s then D.st s else D.el i))
      rw [← secs_set]
      exact (H.out.he.set s (D.st s)).kept hc2 (by simp [Value.ownBlock]; exact fun e => d3 e.symm)
  refine bodyPost_end (results_none rfl _ _ _) rfl ⟨rfl, ?_, ?_⟩
  · exact ((((Chg.refl _ _).drew).setCell _ _ (.inl (by simp))).setCell _ _ (.inl (by simp)))
  · exact hR.kept ((Chg.refl [] _).drew) (by simp)

/-- k zero bytes. -/
def zs (k : Nat) : ByteArray := ⟨(List.replicate k (0 : UInt8)).toArray⟩
theorem zs_snoc (k : Nat) : zs k ++ ⟨#[0]⟩ = zs (k + 1) := by
  unfold zs
  apply ByteArray.ext
  apply Array.ext'
  simp [List.replicate_succ']
theorem zs_size (k : Nat) : (zs k).size = k := by
  unfold zs
  rw [Lib.size_eq]
  simp
theorem zero_spec (w : World) (m : Nat) (hm : m ≤ 1000) : Calls Tryz.prog 54 #[.int .i64 (m : Int)] w fun e w' => e = .returned (.string (zs m)) ∧ Chg [] w w' := by
  have h0 : (⟨#[]⟩ : ByteArray) = zs 0 := rfl
  have H0 := Lib.hid h0
  clear h0
  go_enter Tryz.func54, Tryz.ntmps54
  go_wp2_with fail
  go_loopw [3, 4] (fun t s wr => ∃ (k : Nat) (z : ByteArray), k ≤ m ∧ s = .int .i64 k ∧ t = .string z ∧ z = zs k ∧ Chg [] w wr) (fun _ s _ => m - (intOf s).toNat)
  case atStart => exact ⟨0, _, Nat.zero_le _, rfl, rfl, H0.out, Chg.refl _ _⟩
  case round =>
    obtain ⟨k, z, hk, rfl, rfl, hz, hC⟩ := hrel
    have HZ := Lib.hid hz
    have HC := Lib.hid hC
    clear hz hC
    by_cases hlt : k < m
    · have hzs : ¬ 9223372036854775807 < z.size + 1 := by rw [HZ.out, zs_size]; omega
      go_wp2_with fail
      go_roundw
      case rel => exact ⟨k + 1, _, by omega, by go_num, rfl, by rw [HZ.out]; exact zs_snoc k, HC.out⟩
      case measure => simp [intOf]; omega
    · have hk64 : k = m := by omega
      go_wp2_with fail
      go_ret
      exact ⟨by rw [HZ.out, hk64]; rfl, HC.out⟩
end Go.Proofs.YtpmkgedlnanjiaaGreatDoor
namespace Go.Proofs.YtpmkgedlnanjiaaGreatDoor
set_option linter.unusedVariables false
set_option linter.unusedSimpArgs false
set_option maxRecDepth 100000
open Go Go.RowKit
attribute [local irreducible] Go.wpStill

theorem rq_cell {w : World} {g c : Nat} {l : List (Nat × Bytes)} (h : w.ownsRow 0 92 2 (.slice (some ⟨g, 0, none⟩) l.length c) l.length (rcells l)) (i : Nat) (x : Nat × Bytes) (hx : l[i]? = some x) :
    w.cell? ⟨g, i * 2, none⟩ = some (.int .i64 (x.1 : Int)) ∧ w.cell? ⟨g, i * 2 + 1, none⟩ = some (.string ⟨x.2.toArray⟩) := by
  obtain ⟨q0, q1⟩ := rcells_at l i x hx
  have hl := rcells_length l
  have hi := (List.getElem?_eq_some_iff.1 hx).1
  exact ⟨(h.cellAt (i * 2) (by omega)).trans q0, (h.cellAt (i * 2 + 1) (by omega)).trans q1⟩
theorem RfR.qcases {w : World} {p gs cs ge ce : Nat} {qv : Value} {A W B : Int} {D : DK} (h : RfR w p gs cs ge ce qv A W B D) : (qv = .slice none 0 0 ∧ D.q = []) ∨ ∃ g cap, qv = .slice (some ⟨g, 0, none⟩) D.q.length cap := by
  rcases h.hq.2 with ⟨h0, h1⟩ | ⟨g, c, cur, he, _⟩
  · exact .inl ⟨h0, List.eq_nil_of_length_eq_zero h1⟩
  · exact .inr ⟨g, c, he⟩

theorem rsettle_spec {w : World} {p gs cs ge ce : Nat} {qv : Value} {A W B : Int} {D : DK} (H : Hid (RfR w p gs cs ge ce qv A W B D)) (n : Nat) (hn : n ≤ D.q.length) (hq : D.q.length ≤ 1000000) :
    Calls Tryz.prog 63 #[.pointer (some ⟨p, 0, none⟩), .int .i64 (n : Int)] w fun e w' => e = .returned (.tuple #[]) ∧ Chg [gs, ge] w w' ∧ RfR w' p gs cs ge ce qv A W B (D.settle (D.q.take n)) := by
  go_enter Tryz.func63, Tryz.ntmps63
  go_wp2_with fail
  go_loopw [4] (fun i wr => ∃ k : Nat, k ≤ n ∧ i = .int .i64 k ∧ RfR wr p gs cs ge ce qv A W B (D.settle (D.q.take k)) ∧ Chg [gs, ge] w wr) (fun i _ => n - (intOf i).toNat)
  case atStart => exact ⟨0, Nat.zero_le _, rfl, by simpa [DK.settle] using H.out, Chg.refl _ _⟩
  case round =>
    obtain ⟨k, hk, rfl, hD, hC⟩ := hrel
    have HD := Lib.hid hD
    have HC := Lib.hid hC
    clear hD hC
    by_cases hlt : k < n
    · obtain ⟨x, hx⟩ : ∃ x, D.q[k]? = some x := ⟨D.q[k]'(by omega), by simp⟩
      have hqq : (D.settle (D.q.take k)).q = D.q := DK.settle_q _ _
      have hnn : (D.settle (D.q.take k)).n = D.n := DK.settle_n _ _
      obtain ⟨hx1, hx2⟩ := H.out.ok.q x (List.mem_of_getElem? hx)
      have Hst : Hid (((D.settle (D.q.take k)).st x.1).length = 64) := Lib.hid (HD.out.ok.st x.1 (by rw [hnn]; exact hx1))
      have Hs : Hid (D.settle (D.q.take (k + 1)) = (D.settle (D.q.take k)).put x.1 x.2) := Lib.hid (by
        rw [List.take_add_one, hx, Option.toList_some, DK.settle_snoc])
      rcases HD.out.qcases with ⟨hq0, hq1⟩ | ⟨g, cap, hq0⟩
      · rw [hqq] at hq1
        rw [hq1] at hx
        simp at hx
      · rw [hqq] at hq0
        subst hq0
        have hrow := HD.out.hq
        rw [hqq] at hrow
        obtain ⟨c0, c1⟩ := rq_cell hrow k x hx
        have p2 := HD.out.hp.cell (i := 2) rfl
        have Hx1 := Lib.hid hx1
        have Hx2 := Lib.hid hx2
        have Hnn := Lib.hid hnn
        have hkq : (k : Int) < (D.q.length : Int) := by omega
        clear hrow hx hqq hx1 hx2 hnn
        go_wp2_with fail
        refine wp_region_tail 17 (by kernel_rfl) (by kernel_rfl) (fun L hL => ?_)
        simp only [List.take_succ_cons, List.take_zero, List.drop_succ_cons, List.drop_zero] at hL ⊢
        repeat still_step
        refine wpStill_nil (hL _ ?_)
        clear hL L
        go_wp2_with fail
        refine (rset_spec (Lib.hid (HD.out.kept ((Chg.refl [] wr).drew) (by simp))) x.1 (by rw [Hnn.out]; exact Hx1.out) x.2 Hx2).mono ?_
        rintro e w1 ⟨rfl, hc1, hD1⟩
        rw [← DK.put_full _ _ _ Hst.out Hx2.out] at hD1
        have HD1 := Lib.hid hD1
        have HC1 : Hid (Chg [gs, ge] wr w1) := Lib.hid ((Chg.refl [gs, ge] wr).drew.trans hc1 (fun k hk => .inl hk))
        clear hD1 hc1
        go_wp2_with fail
        go_roundw
        case rel => exact ⟨k + 1, by omega, by go_num, by rw [Hs.out]; exact HD1.out, HC.out.trans HC1.out (fun k hk => .inl hk)⟩
        case measure => simp [intOf]; omega
    · have hkl : k = n := by omega
      have HK := Lib.hid hkl
      clear hkl
      go_wp2_with fail
      go_end0
      have := HD.out
      rw [HK.out] at this
      exact ⟨rfl, HC.out, this⟩

theorem rstart_calls (w : World) (p : Nat) (b c : Bool) (k3 : w.cell? ⟨p, 3, none⟩ = some (.bool b)) (k4 : w.cell? ⟨p, 4, none⟩ = some (.bool c)) (f3 : w.frozen? ⟨p, 3, none⟩ = false) (f4 : w.frozen? ⟨p, 4, none⟩ = false) :
    Calls Tryz.prog 23 #[.pointer (some ⟨p, 0, none⟩)] w fun e w' => e = .returned (.tuple #[]) ∧ w' = (w.setCell ⟨p, 3, none⟩ (.bool true)).setCell ⟨p, 4, none⟩ (.bool false) := by
  go_enter Tryz.func23, Tryz.ntmps23
  go_wp2_with fail
  exact bodyPost_end (results_none rfl _ _ _) rfl ⟨rfl, rfl⟩
theorem rstart_spec {w : World} {own : List Nat} {p : Nat} {D : DK} (h : RfAt w own p D) :
    Calls Tryz.prog 23 #[.pointer (some ⟨p, 0, none⟩)] w fun e w' => e = .returned (.tuple #[]) ∧ RfTo w own p D.start w' := by
  obtain ⟨gs, cs, ge, ce, qv, A, W, B, h, rfl⟩ := h
  refine (rstart_calls w p _ _ (h.hp.cell (i := 3) rfl) (h.hp.cell (i := 4) rfl) (h.hp.free 3) (h.hp.free 4)).mono ?_
  rintro e w' ⟨rfl, rfl⟩
  refine ⟨rfl, ?_⟩
  have hc : Chg [p] w ((w.setCell ⟨p, 3, none⟩ (.bool true)).setCell ⟨p, 4, none⟩ (.bool false)) := (((Chg.refl _ _).setCell _ _ (.inl (by simp))).setCell _ _ (.inl (by simp)))
  obtain ⟨d1, d2, d3, d4⟩ := h.nd
  have hp' : Blk ((w.setCell ⟨p, 3, none⟩ (.bool true)).setCell ⟨p, 4, none⟩ (.bool false)) p (rfCells gs cs ge ce D.n qv false false A W B) 80 := (h.hp.set 3 _).set 4 _
  exact RfR.to (qv := qv) (D := D.start) ⟨hp', h.hs.kept hc (by simp [Value.ownBlock]; exact fun e => d1 e.symm), h.he.kept hc (by simp [Value.ownBlock]; exact fun e => d2 e.symm), row_kept h.hq hc (fun k hk => by simpa using (d4 k hk).1), (fun a ha => by simp [DK.start] at ha), h.nd, DK.start_ok h.ok⟩
    (hc.mono (fun k hk => by simp at hk; subst hk; exact mem_rfOwn.2 (.inl rfl))) (fun k hk => .inl hk)

theorem rarm_off {w : World} {p : Nat} (a x y : Int) (k3 : w.cell? ⟨p, 3, none⟩ = some (.bool false)) :
    Calls Tryz.prog 25 #[.pointer (some ⟨p, 0, none⟩), .int .i64 a, .int .i64 x, .int .i64 y] w fun e w' => e = .returned (.tuple #[]) ∧ Chg [] w w' := by
  go_enter Tryz.func25, Tryz.ntmps25
  go_wp2_with fail
  exact bodyPost_ret (results_none rfl _ _ _) rfl ⟨rfl, Chg.refl _ _⟩
set_option maxHeartbeats 1000000 in
theorem rarm_on {w : World} {p gs cs ge ce : Nat} {qv : Value} {A W B : Int} {D : DK} (H : Hid (RfR w p gs cs ge ce qv A W B D)) (hoff : D.off = false) (a x y : Int) (hr : a ≤ 9223372036854775807) :
    Calls Tryz.prog 25 #[.pointer (some ⟨p, 0, none⟩), .int .i64 a, .int .i64 x, .int .i64 y] w fun e w' => e = .returned (.tuple #[]) ∧ RfTo w (rfOwn p gs ge qv) p (D.setArm a x y) w' := by
  have k3 : w.cell? ⟨p, 3, none⟩ = some (.bool true) := by have := H.out.hp.cell (i := 3) rfl; rw [hoff] at this; exact this
  have k4 := H.out.hp.cell (i := 4) rfl
  have k5 := H.out.hp.cell (i := 5) rfl
  have k6 := H.out.hp.cell (i := 6) rfl
  have k7 := H.out.hp.cell (i := 7) rfl
  have f4 := H.out.hp.free 4
  have f5 := H.out.hp.free 5
  have f6 := H.out.hp.free 6
  have f7 := H.out.hp.free 7
  have Hoff := Lib.hid hoff
  clear hoff
  by_cases ha : 0 ≤ a
  · have hD : Hid (D.setArm a x y = { D with arm := some (a, x, y) }) := Lib.hid (by unfold DK.setArm; rw [if_neg (by rw [Hoff.out]; simp), if_pos ha])
    have hok : Hid ((D.setArm a x y).Ok) := Lib.hid (DK.setArm_ok H.out.ok a x y hr)
    go_enter Tryz.func25, Tryz.ntmps25
    go_wp2_with fail
    go_end0
    refine ⟨rfl, ?_⟩
    obtain ⟨d1, d2, d3, d4⟩ := H.out.nd
    have hok := hok.out
    rw [hD.out] at hok ⊢
    have hc : Chg [p] w ((((w.setCell ⟨p, 4, none⟩ (.bool true)).setCell ⟨p, 5, none⟩ (.int .i64 a)).setCell ⟨p, 6, none⟩ (.int .i64 x)).setCell ⟨p, 7, none⟩ (.int .i64 y)) := (((((Chg.refl _ _).setCell _ _ (.inl (by simp))).setCell _ _ (.inl (by simp))).setCell _ _ (.inl (by simp))).setCell _ _ (.inl (by simp)))
    have hp' : Blk ((((w.setCell ⟨p, 4, none⟩ (.bool true)).setCell ⟨p, 5, none⟩ (.int .i64 a)).setCell ⟨p, 6, none⟩ (.int .i64 x)).setCell ⟨p, 7, none⟩ (.int .i64 y)) p (rfCells gs cs ge ce D.n qv D.off true a x y) 80 := (((H.out.hp.set 4 _).set 5 _).set 6 _).set 7 _
    exact RfR.to (qv := qv) (A := a) (W := x) (B := y) ⟨hp', H.out.hs.kept hc (by simp [Value.ownBlock]; exact fun e => d1 e.symm), H.out.he.kept hc (by simp [Value.ownBlock]; exact fun e => d2 e.symm), row_kept H.out.hq hc (fun k hk => by simpa using (d4 k hk).1), (fun a' ha' => by simp at ha'; exact ha'.symm), H.out.nd, hok⟩
      (hc.mono (fun k hk => by simp at hk; subst hk; exact mem_rfOwn.2 (.inl rfl))) (fun k hk => .inl hk)
  · have ha' : a < 0 := by omega
    have hD : Hid (D.setArm a x y = { D with arm := none }) := Lib.hid (by unfold DK.setArm; rw [if_neg (by rw [Hoff.out]; simp), if_neg ha])
    have hok : Hid ((D.setArm a x y).Ok) := Lib.hid (DK.setArm_ok H.out.ok a x y hr)
    have hd : decide (0 ≤ a) = false := decide_eq_false ha
    clear ha
    go_enter Tryz.func25, Tryz.ntmps25
    go_wp2_with fail
    go_end0
    refine ⟨rfl, ?_⟩
    obtain ⟨d1, d2, d3, d4⟩ := H.out.nd
    have hok := hok.out
    rw [hD.out] at hok ⊢
    have hc : Chg [p] w ((((w.setCell ⟨p, 4, none⟩ (.bool false)).setCell ⟨p, 5, none⟩ (.int .i64 a)).setCell ⟨p, 6, none⟩ (.int .i64 x)).setCell ⟨p, 7, none⟩ (.int .i64 y)) := (((((Chg.refl _ _).setCell _ _ (.inl (by simp))).setCell _ _ (.inl (by simp))).setCell _ _ (.inl (by simp))).setCell _ _ (.inl (by simp)))
    have hp' : Blk ((((w.setCell ⟨p, 4, none⟩ (.bool false)).setCell ⟨p, 5, none⟩ (.int .i64 a)).setCell ⟨p, 6, none⟩ (.int .i64 x)).setCell ⟨p, 7, none⟩ (.int .i64 y)) p (rfCells gs cs ge ce D.n qv D.off false a x y) 80 := (((H.out.hp.set 4 _).set 5 _).set 6 _).set 7 _
    exact RfR.to (qv := qv) (A := a) (W := x) (B := y) ⟨hp', H.out.hs.kept hc (by simp [Value.ownBlock]; exact fun e => d1 e.symm), H.out.he.kept hc (by simp [Value.ownBlock]; exact fun e => d2 e.symm), row_kept H.out.hq hc (fun k hk => by simpa using (d4 k hk).1), (fun a' ha' => by simp at ha'), H.out.nd, hok⟩
      (hc.mono (fun k hk => by simp at hk; subst hk; exact mem_rfOwn.2 (.inl rfl))) (fun k hk => .inl hk)
theorem rarm_spec {w : World} {own : List Nat} {p : Nat} {D : DK} (h : RfAt w own p D) (a x y : Int) (hr : a ≤ 9223372036854775807) :
    Calls Tryz.prog 25 #[.pointer (some ⟨p, 0, none⟩), .int .i64 a, .int .i64 x, .int .i64 y] w fun e w' => e = .returned (.tuple #[]) ∧ RfTo w own p (D.setArm a x y) w' := by
  have hA := h
  obtain ⟨gs, cs, ge, ce, qv, A, W, B, h, rfl⟩ := h
  by_cases hoff : D.off = true
  · refine (rarm_off a x y (by have := h.hp.cell (i := 3) rfl; rw [hoff] at this; exact this)).mono ?_
    rintro e w' ⟨rfl, hc⟩
    rw [show D.setArm a x y = D from by unfold DK.setArm; rw [if_pos hoff]]
    exact ⟨rfl, hA.to hc⟩
  · exact rarm_on (Lib.hid h) (by simpa using hoff) a x y hr
end Go.Proofs.YtpmkgedlnanjiaaGreatDoor
namespace Go.Proofs.YtpmkgedlnanjiaaGreatDoor
set_option linter.unusedVariables false
set_option linter.unusedSimpArgs false
set_option maxRecDepth 100000
open Go Go.RowKit
attribute [local irreducible] Go.wpStill

theorem str_join (x z : Bytes) (b : Nat) : (⟨x.toArray⟩ : ByteArray).extract 0 b ++ (⟨z.toArray⟩ : ByteArray).extract b z.length = ⟨(x.take b ++ z.drop b).toArray⟩ := by
  apply ByteArray.ext
  apply Array.ext'
  simp
  exact List.take_of_length_le (by simp)
theorem RfR.qform {w : World} {p gs cs ge ce : Nat} {qv : Value} {A W B : Int} {D : DK} (h : RfR w p gs cs ge ce qv A W B D) : ∃ ao cap, qv = .slice ao D.q.length cap := by
  rcases h.qcases with ⟨h0, h1⟩ | ⟨g, c, h0⟩
  · exact ⟨none, 0, by rw [h0, h1]; rfl⟩
  · exact ⟨_, c, h0⟩
theorem RfR.qcell {w : World} {p gs cs ge ce m cap : Nat} {ao : Option Addr} {A W B : Int} {D : DK} (h : RfR w p gs cs ge ce (.slice ao m cap) A W B D) (i : Nat) (x : Nat × Bytes) (hx : D.q[i]? = some x) :
    ∃ g, ao = some ⟨g, 0, none⟩ ∧ w.cell? ⟨g, i * 2, none⟩ = some (.int .i64 (x.1 : Int)) ∧ w.cell? ⟨g, i * 2 + 1, none⟩ = some (.string ⟨x.2.toArray⟩) := by
  have hr := h.hq
  rcases h.qcases with ⟨h0, h1⟩ | ⟨g, c, h0⟩
  · rw [h1] at hx; simp at hx
  · rw [h0] at hr
    simp only [Value.slice.injEq] at h0
    exact ⟨g, h0.1, rq_cell hr i x hx⟩

theorem rfail_off (w : World) (p : Nat) (x y : Int) (k3 : w.cell? ⟨p, 3, none⟩ = some (.bool false)) :
    Calls Tryz.prog 21 #[.pointer (some ⟨p,0,none⟩), .int .i64 x, .int .i64 y] w fun e w' => e = .returned (.tuple #[]) ∧ Chg [] w w' := by
  go_enter Tryz.func21, Tryz.ntmps21
  go_wp2_with fail
  exact bodyPost_ret (results_none rfl _ _ _) rfl ⟨rfl, Chg.refl _ _⟩
theorem RfR.down {w : World} {p gs cs ge ce : Nat} {qv : Value} {A W B : Int} {D : DK} (h : RfR w p gs cs ge ce qv A W B D) :
    RfR (((w.setCell ⟨p, 2, none⟩ (.slice none 0 0)).setCell ⟨p, 3, none⟩ (.bool false)).setCell ⟨p, 4, none⟩ (.bool false)) p gs cs ge ce (.slice none 0 0) A W B { D with q := [], off := true, arm := none } := by
  have hc : Chg [p] w (((w.setCell ⟨p, 2, none⟩ (.slice none 0 0)).setCell ⟨p, 3, none⟩ (.bool false)).setCell ⟨p, 4, none⟩ (.bool false)) := ((((Chg.refl _ _).setCell _ _ (.inl (by simp))).setCell _ _ (.inl (by simp))).setCell _ _ (.inl (by simp)))
  obtain ⟨d1, d2, d3, d4⟩ := h.nd
  have hp' : Blk (((w.setCell ⟨p, 2, none⟩ (.slice none 0 0)).setCell ⟨p, 3, none⟩ (.bool false)).setCell ⟨p, 4, none⟩ (.bool false)) p (rfCells gs cs ge ce D.n (.slice none 0 0) true false A W B) 80 := ((h.hp.set 2 _).set 3 _).set 4 _
  exact ⟨hp', h.hs.kept hc (by simp [Value.ownBlock]; exact fun e => d1 e.symm), h.he.kept hc (by simp [Value.ownBlock]; exact fun e => d2 e.symm), World.ownsRow_nil _ _ _ _, (fun a ha => by simp at ha), ⟨d1, d2, d3, by simp [Value.ownBlock]⟩,
    ⟨h.ok.n1, h.ok.n2, h.ok.st, h.ok.el, by simp, by simp⟩⟩

set_option maxHeartbeats 1000000 in
theorem rfail_on {w : World} {p gs cs ge ce m cap : Nat} {ao : Option Addr} {A W B : Int} {D : DK} (H : Hid (RfR w p gs cs ge ce (.slice ao m cap) A W B D)) (Hm : Hid (D.q.length = m)) (hoff : D.off = false) (hq : m ≤ 1000000) (x y : Int) :
    Calls Tryz.prog 21 #[.pointer (some ⟨p,0,none⟩), .int .i64 x, .int .i64 y] w fun e w' => e = .returned (.tuple #[]) ∧ Chg [p, gs, ge] w w' ∧ RfR w' p gs cs ge ce (.slice none 0 0) A W B (D.down x y) := by
  have h2 := H.out.hp.cell (i := 2) rfl
  have h3 : w.cell? ⟨p, 3, none⟩ = some (.bool true) := by have := H.out.hp.cell (i := 3) rfl; rw [hoff] at this; exact this
  obtain ⟨n, hn⟩ : ∃ n, n = D.cut x := ⟨_, rfl⟩
  have hle : n ≤ m := by rw [hn, ← Hm.out]; exact DK.cut_le D x
  have Hcn : Hid ((n : Int) = min (max x 0) m) := Lib.hid (by rw [hn, ← Hm.out]; unfold DK.cut; omega)
  have Hn := Lib.hid hn
  have HS := Lib.hid (rsettle_spec H n (by rw [Hm.out]; exact hle) (by rw [Hm.out]; exact hq))
  clear hn hoff
  go_enter Tryz.func21, Tryz.ntmps21
  go_upto_region 1 with fail
  go_cut [6] (fun s6 wx => wx = w ∧ s6 = .int .i64 (n : Int))
  case first =>
    go_wp2_with fail
    all_goals
      go_meet
      have := Hcn.out
      refine ⟨rfl, vint ?_⟩
      first | omega | (rename_i hb; split at hb <;> omega)
  case rest =>
    obtain ⟨rfl, rfl⟩ := hcut
    go_wp2_with fail
    refine HS.out.mono ?_
    rintro e w1 ⟨rfl, hc1, hD1⟩
    have k2 := hD1.hp.cell (i := 2) rfl
    have k3 := hD1.hp.cell (i := 3) rfl
    have k4 := hD1.hp.cell (i := 4) rfl
    have kf2 := hD1.hp.free 2
    have kf3 := hD1.hp.free 3
    have kf4 := hD1.hp.free 4
    have Hc1 := Lib.hid hc1
    have HD1 := Lib.hid hD1
    clear hc1 hD1
    by_cases hnm : n < m
    · obtain ⟨e, he⟩ : ∃ e, D.q[n]? = some e := ⟨D.q[n]'(by rw [Hm.out]; exact hnm), by simp [Hm.out, hnm]⟩
      obtain ⟨g, rfl, c0, c1⟩ := HD1.out.qcell n e (by rw [DK.settle_q]; exact he)
      have He := Lib.hid he
      clear he
      obtain ⟨k, hk⟩ : ∃ k, k = DK.torn y := ⟨_, rfl⟩
      have Hck : Hid ((k : Int) = min (max y 0) 64) := Lib.hid (by rw [hk]; unfold DK.torn; omega)
      have Hk := Lib.hid hk
      have hk64 : k ≤ 64 := by rw [hk]; exact DK.torn_le y
      clear hk
      go_upto_region 5 with fail
      go_cut [7, 8] (fun s7 s8 wx => ∃ b : Nat, s7 = .pointer (some ⟨b, 0, none⟩) ∧ s8 = .int .i64 (k : Int) ∧ wc.heap.size ≤ b ∧ Blk wx b [.int .i64 (e.1 : Int), .string ⟨e.2.toArray⟩] 92 ∧
        RfR wx p gs cs ge ce (.slice (some ⟨g, 0, none⟩) m cap) A W B (D.settle (D.q.take n)) ∧ Chg [gs, ge] wc wx)
      case first =>
        go_wp2_with fail
        all_goals
          go_meet
          have := Hck.out
          refine ⟨_, rfl, vint ?_, Hc1.out.size, Blk.new w1 _ _, HD1.out.kept ((Chg.refl [] w1).alloc _) (by simp), Hc1.out.alloc _⟩
          first | omega | (rename_i hb; split at hb <;> omega)
      case rest =>
        clear c0 c1 k2 k3 k4 kf2 kf3 kf4
        obtain ⟨b, rfl, rfl, hbn, hB, hD2, hC2⟩ := hcut
        have hx := H.out.ok.q e (List.mem_of_getElem? He.out)
        have Hex : Hid (e.1 < D.n ∧ e.2.length = 64) := Lib.hid hx
        obtain ⟨S, hS⟩ : ∃ S, S = D.settle (D.q.take n) := ⟨_, rfl⟩
        rw [← hS] at hD2
        have hSn : S.n = D.n := by rw [hS]; exact DK.settle_n _ _
        have hes : e.1 < S.n := by rw [hSn]; exact Hex.out.1
        have hx64 : (S.st e.1).length = 64 := hD2.ok.st e.1 hes
        have he64 : e.2.length = 64 := Hex.out.2
        have n2 := hD2.ok.n2
        have k0 := hD2.hp.cell (i := 0) rfl
        have k2 := hD2.hp.cell (i := 2) rfl
        have k3 := hD2.hp.cell (i := 3) rfl
        have k4 := hD2.hp.cell (i := 4) rfl
        have kf2 := hD2.hp.free 2
        have kf3 := hD2.hp.free 3
        have kf4 := hD2.hp.free 4
        have s0 := hD2.hs.cellOf e.1 hes
        have b0 := hB.cell (i := 0) rfl
        have b1 := hB.cell (i := 1) rfl
        have HB := Lib.hid hB
        have HD2 := Lib.hid hD2
        have HC2 := Lib.hid hC2
        have HSS := Lib.hid hS
        have hd : D.q.drop n = e :: D.q.drop (n + 1) := by
          rw [List.drop_eq_getElem_cons (by rw [Hm.out]; exact hnm)]
          congr 1
          have := He.out
          rw [List.getElem?_eq_getElem (by rw [Hm.out]; exact hnm)] at this
          simpa using this
        have HDd := Lib.hid hd
        clear hB hD2 hC2 hx HD1 Hc1 HS hS hd
        by_cases hk0 : 0 < k
        · obtain ⟨z, hz⟩ : ∃ z, z = S.st e.1 := ⟨_, rfl⟩
          obtain ⟨e1, e2⟩ := e
          simp only at *
          rw [← hz] at s0 hx64
          have HZ := Lib.hid hz
          have hkz : k ≤ z.length := by omega
          have hke : k ≤ e2.length := by omega
          have HX64 := Lib.hid hx64
          have HE64 := Lib.hid he64
          have hzm : ¬ 9223372036854775807 < z.length := by omega
          have hkl2 : (k : Int) ≤ (⟨e2.toArray⟩ : ByteArray).size := by rw [Lib.size_eq]; simpa using hke
          have hkl3 : (k : Int) ≤ (⟨z.toArray⟩ : ByteArray).size := by rw [Lib.size_eq]; simpa using hkz
          have hesD : e1 < D.n := Hex.out.1
          have n2D : D.n ≤ 4000 := H.out.ok.n2
          clear hz hx64 he64
          go_wp2_with fail
          refine wp_region_tail 18 (by kernel_rfl) (by kernel_rfl) (fun L hL => ?_)
          simp only [List.take_succ_cons, List.take_zero, List.drop_succ_cons, List.drop_zero] at hL ⊢
          repeat still_step
          refine wpStill_nil (hL _ ?_)
          clear hL L
          go_wp2_with fail
          rw [str_join]
          refine (rset_spec (Lib.hid (HD2.out.kept ((Chg.refl [] _).drew) (by simp))) e1 hes (e2.take k ++ z.drop k) (Lib.hid (by rw [List.length_append, List.length_take, List.length_drop, HX64.out, HE64.out, Nat.min_eq_left hk64]; omega))).mono ?_
          rintro e2' w2 ⟨rfl, hc3, hD3⟩
          clear k0 k2 k3 k4 kf2 kf3 kf4 b0 b1 s0
          have k2 := hD3.hp.cell (i := 2) rfl
          have k3 := hD3.hp.cell (i := 3) rfl
          have k4 := hD3.hp.cell (i := 4) rfl
          have kf2 := hD3.hp.free 2
          have kf3 := hD3.hp.free 3
          have kf4 := hD3.hp.free 4
          have HC3 : Hid (Chg [p, gs, ge] _ w2) := Lib.hid ((HC2.out.mono (by simp)).drew.trans hc3 (by simp))
          have HD3 := Lib.hid hD3
          clear hc3 hD3
          go_wp2_with fail
          refine bodyPost_end (results_none rfl _ _ _) rfl ⟨rfl, ?_, ?_⟩
          · refine Chg.setCell (Chg.setCell (Chg.setCell HC3.out _ _ (.inl (by simp))) _ _ (.inl (by simp))) _ _ (.inl (by simp))
          · have := HD3.out.down
            unfold DK.down
            rw [← Hn.out, HDd.out, DK.tear, ← Hk.out, if_pos hk0, ← HSS.out, DK.put_lay, ← HZ.out]
            rw [show (List.take k e2).length = k from by rw [List.length_take, Nat.min_eq_left hke]]
            exact this
        · go_wp2_with fail
          refine bodyPost_end (results_none rfl _ _ _) rfl ⟨rfl, ?_, ?_⟩
          · refine Chg.setCell (Chg.setCell (Chg.setCell (HC2.out.mono (by simp)) _ _ (.inl (by simp))) _ _ (.inl (by simp))) _ _ (.inl (by simp))
          · have := HD2.out.down
            unfold DK.down
            rw [← Hn.out, HDd.out, DK.tear, ← Hk.out, if_neg hk0, ← HSS.out]
            exact this
    · go_wp2_with fail
      refine bodyPost_end (results_none rfl _ _ _) rfl ⟨rfl, ?_, ?_⟩
      · refine Chg.setCell (Chg.setCell (Chg.setCell (Hc1.out.mono (by simp)) _ _ (.inl (by simp))) _ _ (.inl (by simp))) _ _ (.inl (by simp))
      · have := HD1.out.down
        unfold DK.down
        rw [← Hn.out, List.drop_of_length_le (by rw [Hm.out]; omega)]
        exact this
theorem rfail_spec {w : World} {own : List Nat} {p : Nat} {D : DK} (h : RfAt w own p D) (hq : D.q.length ≤ 1000000) (x y : Int) :
    Calls Tryz.prog 21 #[.pointer (some ⟨p,0,none⟩), .int .i64 x, .int .i64 y] w fun e w' => e = .returned (.tuple #[]) ∧ RfTo w own p (D.fail x y) w' := by
  have hA := h
  obtain ⟨gs, cs, ge, ce, qv, A, W, B, h, rfl⟩ := h
  by_cases hoff : D.off = true
  · refine (rfail_off w p x y (by have := h.hp.cell (i := 3) rfl; rw [hoff] at this; exact this)).mono ?_
    rintro e w' ⟨rfl, hc⟩
    rw [show D.fail x y = D from by unfold DK.fail; rw [if_pos hoff]]
    exact ⟨rfl, hA.to hc⟩
  · obtain ⟨ao, cap, rfl⟩ := h.qform
    refine (rfail_on (Lib.hid h) (Lib.hid rfl) (by simpa using hoff) hq x y).mono ?_
    rintro e w' ⟨rfl, hc, hD⟩
    rw [show D.fail x y = D.down x y from by unfold DK.fail; rw [if_neg hoff]]
    exact ⟨rfl, hD.to (hc.mono (fun k hk => by simp at hk; exact mem_rfOwn.2 (by rcases hk with h | h | h <;> simp [h]))) (by simp [Value.ownBlock])⟩

theorem rcount_none (w : World) (p : Nat) (k4 : w.cell? ⟨p, 4, none⟩ = some (.bool false)) : Calls Tryz.prog 102 #[.pointer (some ⟨p,0,none⟩)] w fun e w' => e = .returned (.int .i64 0) ∧ Chg [] w w' := by
  go_enter Tryz.func102, Tryz.ntmps102
  go_wp2_with fail
  go_ret
  exact ⟨rfl, Chg.refl _ _⟩
theorem rcount_pos (w : World) (p : Nat) (n : Int) (hn : 0 < n) (hn2 : n ≤ 9223372036854775807) (k4 : w.cell? ⟨p, 4, none⟩ = some (.bool true)) (k5 : w.cell? ⟨p, 5, none⟩ = some (.int .i64 n)) (f5 : w.frozen? ⟨p, 5, none⟩ = false) :
    Calls Tryz.prog 102 #[.pointer (some ⟨p,0,none⟩)] w fun e w' => e = .returned (.int .i64 0) ∧ w' = w.setCell ⟨p, 5, none⟩ (.int .i64 (n-1)) := by
  have hb : (n == 0) = false := by rw [beq_eq_false_iff_ne]; omega
  go_enter Tryz.func102, Tryz.ntmps102
  go_wp2_with fail
  go_ret
  exact ⟨rfl, rfl⟩
theorem rcount_zero {w : World} {own : List Nat} {p : Nat} {D : DK} {x y : Int} (H : Hid (RfAt w own p D)) (hq : D.q.length ≤ 1000000) (k4 : w.cell? ⟨p, 4, none⟩ = some (.bool true)) (k5 : w.cell? ⟨p, 5, none⟩ = some (.int .i64 0))
    (k6 : w.cell? ⟨p, 6, none⟩ = some (.int .i64 x)) (k7 : w.cell? ⟨p, 7, none⟩ = some (.int .i64 y)) :
    Calls Tryz.prog 102 #[.pointer (some ⟨p,0,none⟩)] w fun e w' => e = .returned (.int .i64 24) ∧ RfTo w own p (D.fail x y) w' := by
  go_enter Tryz.func102, Tryz.ntmps102
  go_wp2_with fail
  refine wp_region_tail 9 (by kernel_rfl) (by kernel_rfl) (fun L hL => ?_)
  simp only [List.take_succ_cons, List.take_zero, List.drop_succ_cons, List.drop_zero] at hL ⊢
  repeat still_step
  refine wpStill_nil (hL _ ?_)
  clear hL L
  go_wp2_with fail
  refine (rfail_spec (H.out.kept (Chg.refl [] w).drew (by simp)) hq x y).mono ?_
  rintro e w' ⟨rfl, hT⟩
  have HT : Hid _ := Lib.hid (RfTo.trans (Chg.refl own w).drew (fun k hk => .inl hk) hT)
  clear hT
  go_wp2_with fail
  go_ret
  exact ⟨rfl, HT.out⟩
theorem rcount_spec {w : World} {own : List Nat} {p : Nat} {D : DK} (h : RfAt w own p D) (hq : D.q.length ≤ 1000000) :
    Calls Tryz.prog 102 #[.pointer (some ⟨p,0,none⟩)] w fun e w' => e = .returned (.int .i64 D.count.1) ∧ RfTo w own p D.count.2 w' := by
  have hA := Lib.hid h
  obtain ⟨gs, cs, ge, ce, qv, A, W, B, h, rfl⟩ := h
  have k4 := h.hp.cell (i := 4) rfl
  cases ha : D.arm with
  | none =>
    rw [ha] at k4
    refine (rcount_none w p k4).mono ?_
    rintro e w' ⟨rfl, hc⟩
    rw [show D.count = (0, D) from by simp [DK.count, ha]]
    exact ⟨rfl, hA.out.to hc⟩
  | some t =>
    obtain ⟨a, x, y⟩ := t
    have hav := h.ha _ ha
    simp only [Prod.mk.injEq] at hav
    obtain ⟨rfl, rfl, rfl⟩ := hav
    rw [ha] at k4
    have hr := h.ok.arm a x y ha
    by_cases h0 : 0 < a
    · refine (rcount_pos w p a h0 hr.2 k4 (h.hp.cell (i := 5) rfl) (h.hp.free 5)).mono ?_
      rintro e w' ⟨rfl, rfl⟩
      rw [show D.count = (0, { D with arm := some (a - 1, x, y) }) from by simp [DK.count, ha, h0]]
      refine ⟨rfl, ?_⟩
      have hc : Chg [p] w (w.setCell ⟨p, 5, none⟩ (.int .i64 (a - 1))) := (Chg.refl _ _).setCell _ _ (.inl (by simp))
      obtain ⟨d1, d2, d3, d4⟩ := h.nd
      have hp' : Blk (w.setCell ⟨p, 5, none⟩ (.int .i64 (a - 1))) p (rfCells gs cs ge ce D.n qv D.off true (a - 1) x y) 80 := by
        have := h.hp.set 5 (.int .i64 (a - 1))
        rw [ha] at this
        exact this
      exact RfR.to (qv := qv) (A := a - 1) (W := x) (B := y) (D := { D with arm := some (a - 1, x, y) }) ⟨hp', h.hs.kept hc (by simp [Value.ownBlock]; exact fun e => d1 e.symm), h.he.kept hc (by simp [Value.ownBlock]; exact fun e => d2 e.symm), row_kept h.hq hc (fun k hk => by simpa using (d4 k hk).1), (fun a' ha' => by simp at ha'; exact ha'.symm), h.nd, ⟨h.ok.n1, h.ok.n2, h.ok.st, h.ok.el, h.ok.q, fun a' w' b' h' => by simp at h'; omega⟩⟩
        (hc.mono (fun k hk => by simp at hk; subst hk; exact mem_rfOwn.2 (.inl rfl))) (fun k hk => .inl hk)
    · have h0' : a = 0 := by omega
      subst h0'
      simp only [DK.count, ha, if_neg h0]
      exact rcount_zero hA hq k4 (h.hp.cell (i := 5) rfl) (h.hp.cell (i := 6) rfl) (h.hp.cell (i := 7) rfl)

theorem rsync_off (w : World) (p : Nat) (k3 : w.cell? ⟨p, 3, none⟩ = some (.bool false)) : Calls Tryz.prog 85 #[.pointer (some ⟨p, 0, none⟩)] w fun e w' => e = .returned (.int .i64 24) ∧ Chg [] w w' := by
  go_enter Tryz.func85, Tryz.ntmps85
  go_wp2_with fail
  go_ret
  exact ⟨rfl, Chg.refl _ _⟩
theorem count_code (D : DK) : D.count.1 = 0 ∨ D.count.1 = 24 := by
  unfold DK.count
  split
  · exact .inl rfl
  · split
    · exact .inl rfl
    · exact .inr rfl
theorem rsync_err {w : World} {own : List Nat} {p : Nat} {D : DK} (H : Hid (RfAt w own p D)) (k3 : w.cell? ⟨p, 3, none⟩ = some (.bool true)) (hq : D.q.length ≤ 1000000) (Hc : Hid (D.count.1 = 24)) :
    Calls Tryz.prog 85 #[.pointer (some ⟨p, 0, none⟩)] w fun e w' => e = .returned (.int .i64 24) ∧ RfTo w own p D.count.2 w' := by
  go_enter Tryz.func85, Tryz.ntmps85
  go_wp2_with fail
  refine (rcount_spec H.out hq).mono ?_
  rintro e w1 ⟨rfl, hT⟩
  rw [Hc.out]
  have HT := Lib.hid hT
  clear hT
  go_wp2_with fail
  go_ret
  exact ⟨rfl, HT.out⟩
theorem RfR.flushed {w : World} {p gs cs ge ce : Nat} {qv : Value} {A W B : Int} {D : DK} (h : RfR w p gs cs ge ce qv A W B D) :
    RfR (w.setCell ⟨p, 2, none⟩ (.slice none 0 0)) p gs cs ge ce (.slice none 0 0) A W B { D with q := [] } := by
  have hc : Chg [p] w (w.setCell ⟨p, 2, none⟩ (.slice none 0 0)) := (Chg.refl _ _).setCell _ _ (.inl (by simp))
  obtain ⟨d1, d2, d3, d4⟩ := h.nd
  have hp' : Blk (w.setCell ⟨p, 2, none⟩ (.slice none 0 0)) p (rfCells gs cs ge ce D.n (.slice none 0 0) D.off D.arm.isSome A W B) 80 := h.hp.set 2 _
  exact ⟨hp', h.hs.kept hc (by simp [Value.ownBlock]; exact fun e => d1 e.symm), h.he.kept hc (by simp [Value.ownBlock]; exact fun e => d2 e.symm), World.ownsRow_nil _ _ _ _, h.ha, ⟨d1, d2, d3, by simp [Value.ownBlock]⟩,
    ⟨h.ok.n1, h.ok.n2, h.ok.st, h.ok.el, by simp, h.ok.arm⟩⟩
theorem rsync_fine {w : World} {own : List Nat} {p : Nat} {D : DK} (H : Hid (RfAt w own p D)) (k3 : w.cell? ⟨p, 3, none⟩ = some (.bool true)) (hq : D.q.length ≤ 1000000) (Hc : Hid (D.count.1 = 0)) :
    Calls Tryz.prog 85 #[.pointer (some ⟨p, 0, none⟩)] w fun e w' => e = .returned (.int .i64 0) ∧ RfTo w own p D.count.2.flush w' := by
  have hql : D.count.2.q.length ≤ 1000000 := Nat.le_trans (DK.count_q D) hq
  go_enter Tryz.func85, Tryz.ntmps85
  go_wp2_with fail
  refine (rcount_spec H.out hq).mono ?_
  rintro e w1 ⟨rfl, hT⟩
  rw [Hc.out]
  obtain ⟨own1, hA1, hc1, hn1⟩ := hT
  obtain ⟨gs, cs, ge, ce, qv, A, W, B, h, rfl⟩ := hA1
  obtain ⟨E, hE⟩ : ∃ E, E = D.count.2 := ⟨_, rfl⟩
  rw [← hE] at h hql
  have HE := Lib.hid hE
  clear hE
  obtain ⟨ao, cap, rfl⟩ := h.qform
  have k2 := h.hp.cell (i := 2) rfl
  have HA1 := Lib.hid h
  have HC1 := Lib.hid hc1
  have HN1 := Lib.hid hn1
  clear h hc1 hn1
  go_wp2_with fail
  refine (rsettle_spec HA1 E.q.length (Nat.le_refl _) hql).mono ?_
  rintro e w2 ⟨rfl, hc2, hD2⟩
  rw [List.take_length] at hD2
  clear k2
  have k2 := hD2.hp.cell (i := 2) rfl
  have f2 := hD2.hp.free 2
  have HD2 := Lib.hid hD2
  have HC2 := Lib.hid hc2
  clear hD2 hc2
  go_wp2_with fail
  go_ret
  rw [← HE.out]
  refine ⟨rfl, RfTo.trans HC1.out HN1.out (RfR.to (D := E.flush) HD2.out.flushed ?_ (by simp [Value.ownBlock]))⟩
  refine (HC2.out.mono (fun k hk => ?_)).setCell _ _ (.inl (mem_rfOwn.2 (.inl rfl)))
  simp at hk
  exact mem_rfOwn.2 (by rcases hk with h | h <;> simp [h])
theorem rsync_spec {w : World} {own : List Nat} {p : Nat} {D : DK} (h : RfAt w own p D) (hq : D.q.length ≤ 1000000) :
    Calls Tryz.prog 85 #[.pointer (some ⟨p, 0, none⟩)] w fun e w' => e = .returned (.int .i64 D.sync.1) ∧ RfTo w own p D.sync.2 w' := by
  have hA := h
  obtain ⟨gs, cs, ge, ce, qv, A, W, B, h, rfl⟩ := h
  have k3 := h.hp.cell (i := 3) rfl
  by_cases hoff : D.off = true
  · rw [show D.sync = (24, D) from by unfold DK.sync; rw [if_pos hoff]]
    refine (rsync_off w p (by rw [hoff] at k3; exact k3)).mono ?_
    rintro e w' ⟨rfl, hc⟩
    exact ⟨rfl, hA.to hc⟩
  · have hoff' : D.off = false := by simpa using hoff
    rw [hoff'] at k3
    rcases count_code D with hc | hc
    · rw [show D.sync = (0, D.count.2.flush) from by unfold DK.sync; rw [if_neg hoff, if_neg (by rw [hc]; simp)]]
      exact rsync_fine (Lib.hid hA) k3 hq (Lib.hid hc)
    · rw [show D.sync = D.count from by unfold DK.sync; rw [if_neg hoff, if_pos (by rw [hc]; simp)]]
      rw [hc]
      exact rsync_err (Lib.hid hA) k3 hq (Lib.hid hc)
end Go.Proofs.YtpmkgedlnanjiaaGreatDoor
namespace Go.Proofs.YtpmkgedlnanjiaaGreatDoor
set_option linter.unusedVariables false
set_option linter.unusedSimpArgs false
set_option maxRecDepth 100000
open Go Go.RowKit
attribute [local irreducible] Go.wpStill

theorem info_rpend : (Tryz.prog.info? 92).map (fun i => (i.zero, i.size, i.bytes)) = some (some (.agg #[.int .i64 0, .string ⟨#[]⟩]), 2, 24) := by kernel_rfl

theorem RfR.pushed {w w1 w' : World} {p gs cs ge ce g cap : Nat} {qv : Value} {A W B : Int} {D : DK} (h : RfR w p gs cs ge ce qv A W B D) (s : Nat) (t : Bytes) (hs : s < D.n) (ht : t.length = 64)
    (hw1 : Chg [] w w1) (hg : w1.grownBy w' qv.ownBlock) (hrow : w'.ownsRow 0 92 2 (.slice (some ⟨g, 0, none⟩) (D.q.length + 1) cap) (D.q.length + 1) (rcells D.q ++ rcells [(s, t)]))
    (hat : qv.ownBlock = some g ∨ g = w1.heap.size) (hlt : g < w'.heap.size) :
    RfTo w (rfOwn p gs ge qv) p (D.push s t) (w'.setCell ⟨p, 2, none⟩ (.slice (some ⟨g, 0, none⟩) (D.q.length + 1) cap)) := by
  have hc0 : Chg qv.ownBlock.toList w w' := (hw1.mono (by simp)).grown hg (fun k hk => .inl (by rw [hk]; simp))
  have hc : Chg (p :: qv.ownBlock.toList) w (w'.setCell ⟨p, 2, none⟩ (.slice (some ⟨g, 0, none⟩) (D.q.length + 1) cap)) := (hc0.mono (fun k hk => by simp [hk])).setCell _ _ (.inl (by simp))
  obtain ⟨d1, d2, d3, d4⟩ := h.nd
  have hgo : g ∈ qv.ownBlock.toList ∨ w.heap.size ≤ g := by
    rcases hat with e | e
    · exact .inl (by rw [e]; simp)
    · exact .inr (by rw [e]; exact hw1.size)
  have l1 := h.hp.lt
  have l2 := h.gsl
  have l3 := h.gel
  have hgn : g ≠ p ∧ g ≠ gs ∧ g ≠ ge := by
    rcases hgo with e | e
    · exact d4 g e
    · exact ⟨by omega, by omega, by omega⟩
  have np : p ∉ qv.ownBlock.toList := fun hm => (d4 p hm).1 rfl
  have ngs : gs ∉ qv.ownBlock.toList := fun hm => (d4 gs hm).2.1 rfl
  have nge : ge ∉ qv.ownBlock.toList := fun hm => (d4 ge hm).2.2 rfl
  have hp' : Blk (w'.setCell ⟨p, 2, none⟩ (.slice (some ⟨g, 0, none⟩) (D.q.length + 1) cap)) p (rfCells gs cs ge ce D.n (.slice (some ⟨g, 0, none⟩) (D.q.length + 1) cap) D.off D.arm.isSome A W B) 80 := (hc0.blk h.hp np).set 2 _
  have hr' := row_kept hrow (Chg.setCell (Chg.refl [p] w') ⟨p, 2, none⟩ (.slice (some ⟨g, 0, none⟩) (D.q.length + 1) cap) (.inl (by simp))) (by simp [Value.ownBlock]; exact hgn.1)
  have hok := DK.push_ok h.ok s t (by simp only [DK.valid, decide_eq_true_eq]; omega) ht
  have hql : (D.push (s : Int) t).q = D.q ++ [(s, t)] := rfl
  refine RfR.to (qv := qv) (D := D.push s t) ⟨hp', h.hs.kept hc (fun k hk => ?_), h.he.kept hc (fun k hk => ?_), ?_, h.ha, ⟨d1, d2, d3, ?_⟩, hok⟩ (hc.mono (fun k hk => ?_)) (fun k hk => ?_)
  · simp [Value.ownBlock] at hk; subst hk; simp only [List.mem_cons, not_or]; exact ⟨fun e => d1 e.symm, ngs⟩
  · simp [Value.ownBlock] at hk; subst hk; simp only [List.mem_cons, not_or]; exact ⟨fun e => d2 e.symm, nge⟩
  · rw [hql, rcells_append, List.length_append]
    exact hr'
  · intro k hk; simp [Value.ownBlock] at hk; subst hk; exact hgn
  · rcases List.mem_cons.1 hk with rfl | hk
    · exact mem_rfOwn.2 (.inl rfl)
    · exact mem_rfOwn.2 (.inr (.inr (.inr hk)))
  · simp [Value.ownBlock] at hk; subst hk; exact hgo

theorem rwrite_off (w : World) (p : Nat) (s : Int) (t : ByteArray) (k3 : w.cell? ⟨p, 3, none⟩ = some (.bool false)) :
    Calls Tryz.prog 84 #[.pointer (some ⟨p, 0, none⟩), .int .i64 s, .string t] w fun e w' => e = .returned (.int .i64 24) ∧ Chg [] w w' := by
  go_enter Tryz.func84, Tryz.ntmps84
  go_wp2_with fail
  go_ret
  exact ⟨rfl, Chg.refl _ _⟩
theorem rwrite_neg (w : World) (p : Nat) (s : Int) (t : ByteArray) (k3 : w.cell? ⟨p, 3, none⟩ = some (.bool true)) (hs : s < 0) :
    Calls Tryz.prog 84 #[.pointer (some ⟨p, 0, none⟩), .int .i64 s, .string t] w fun e w' => e = .returned (.int .i64 1) ∧ Chg [] w w' := by
  go_enter Tryz.func84, Tryz.ntmps84
  go_wp2_with fail
  go_ret
  exact ⟨rfl, Chg.refl _ _⟩
theorem rwrite_big (w : World) (p n c : Nat) (ao : Option Addr) (s : Int) (t : ByteArray) (k3 : w.cell? ⟨p, 3, none⟩ = some (.bool true)) (k0 : w.cell? ⟨p, 0, none⟩ = some (.slice ao n c)) (h0 : 0 ≤ s) (hs : (n : Int) ≤ s) :
    Calls Tryz.prog 84 #[.pointer (some ⟨p, 0, none⟩), .int .i64 s, .string t] w fun e w' => e = .returned (.int .i64 1) ∧ Chg [] w w' := by
  go_enter Tryz.func84, Tryz.ntmps84
  go_wp2_with fail
  go_ret
  exact ⟨rfl, Chg.refl _ _⟩
theorem rwrite_len (w : World) (p n c : Nat) (ao : Option Addr) (s : Int) (t : ByteArray) (k3 : w.cell? ⟨p, 3, none⟩ = some (.bool true)) (k0 : w.cell? ⟨p, 0, none⟩ = some (.slice ao n c)) (h0 : 0 ≤ s) (hs : s < (n : Int)) (ht : ((t.size : Int) != 64) = true) :
    Calls Tryz.prog 84 #[.pointer (some ⟨p, 0, none⟩), .int .i64 s, .string t] w fun e w' => e = .returned (.int .i64 1) ∧ Chg [] w w' := by
  go_enter Tryz.func84, Tryz.ntmps84
  go_wp2_with fail
  go_ret
  exact ⟨rfl, Chg.refl _ _⟩

set_option maxHeartbeats 1000000 in
theorem rwrite_push {w : World} {p gs cs ge ce : Nat} {qv : Value} {A W B : Int} {D : DK} (H : Hid (RfR w p gs cs ge ce qv A W B D)) (hoff : D.off = false) (hq : D.q.length ≤ 900000) (s : Nat) (hs : s < D.n) (t : ByteArray) (Ht : Hid (t.data.toList.length = 64)) (ht : ((t.size : Int) != 64) = false) :
    Calls Tryz.prog 84 #[.pointer (some ⟨p, 0, none⟩), .int .i64 s, .string t] w fun e w' => e = .returned (.int .i64 (D.push s t.data.toList).count.1) ∧ RfTo w (rfOwn p gs ge qv) p (D.push s t.data.toList).count.2 w' := by
  have k0 := H.out.hp.cell (i := 0) rfl
  have k2 := H.out.hp.cell (i := 2) rfl
  have k3 : w.cell? ⟨p, 3, none⟩ = some (.bool true) := by have := H.out.hp.cell (i := 3) rfl; rw [hoff] at this; exact this
  have f2 := H.out.hp.free 2
  have hpl := H.out.hp.lt
  have n2 := H.out.ok.n2
  have hqp : qv.ownBlock ≠ some p := fun e => (H.out.nd.2.2.2 p (by rw [e]; simp)).1 rfl
  obtain ⟨i0, hi, hz0, hz1, hz2⟩ := info_parts info_rpend
  clear hoff
  go_enter Tryz.func84, Tryz.ntmps84
  go_wp2_with (at_builtin; refine wpList_append_lies _ rfl (.tmp 32) (.tmp 36) 78 rfl 0 92 i0 (.agg #[.int .i64 0, .string ⟨#[]⟩]) 2 24 Tryz.underlying78 hi hz0 hz1 hz2 rfl (by decide) qv D.q.length (rcells D.q) rfl (by exact H.out.hq.alloc _) ⟨w.heap.size, 0, none⟩ 1 1 [.int .i64 (s : Int), .string t] rfl rfl ?c1 ?c2 (by decide) (by unfold maxLen; omega) (by omega) (Nat.zero_le _) _ rfl ?kk)
  case c1 =>
    intro j u hj
    rw [addr_add, Nat.zero_add]
    exact (Blk.new w [.int .i64 (s : Int), .string t] _).cell hj
  case c2 => intro v hv; simp at hv; rcases hv with rfl | rfl <;> rfl
  case kk =>
    intro g cap w' hown hgrow hat hlt
    have e2 : w'.cell? ⟨p, 2, none⟩ = some qv := (hgrow.cell_far ⟨p, 2, none⟩ (by simp; omega) (fun e => hqp e.symm)).trans ((World.cell?_alloc_past _ p 2 hpl).trans k2)
    have ef : w'.frozen? ⟨p, 2, none⟩ = false := (hgrow.frozen_far ⟨p, 2, none⟩ (by simp; omega) (fun e => hqp e.symm)).trans ((World.frozen?_alloc_past _ p 2 hpl).trans f2)
    have hT := H.out.pushed s t.data.toList hs Ht.out ((Chg.refl [] w).alloc _) hgrow (by simpa [rcells] using hown) (by simpa using hat) hlt
    have HT := Lib.hid hT
    clear hT hown hgrow hat hlt k0 k2 k3 f2
    go_wp2_with fail
    obtain ⟨own', hD, hC, hN⟩ := HT.out
    refine (rcount_spec hD (by simp only [DK.push, List.length_append, List.length_cons, List.length_nil]; omega)).mono ?_
    rintro e w3 ⟨rfl, hT2⟩
    have HT2 := Lib.hid (RfTo.trans hC hN hT2)
    clear hD hC hN hT2
    go_wp2_with fail
    go_ret
    exact ⟨rfl, HT2.out⟩

theorem rwrite_spec {w : World} {own : List Nat} {p : Nat} {D : DK} (h : RfAt w own p D) (hq : D.q.length ≤ 900000) (s : Int) (t : ByteArray) :
    Calls Tryz.prog 84 #[.pointer (some ⟨p, 0, none⟩), .int .i64 s, .string t] w fun e w' => e = .returned (.int .i64 (D.write s t.data.toList).1) ∧ RfTo w own p (D.write s t.data.toList).2 w' := by
  have hA := h
  obtain ⟨gs, cs, ge, ce, qv, A, W, B, h, rfl⟩ := h
  have k0 := h.hp.cell (i := 0) rfl
  have k3 := h.hp.cell (i := 3) rfl
  have key : ∀ x : Int, ∀ e w', (e = Ending.returned (.int .i64 x) ∧ Chg [] w w') → e = Ending.returned (.int .i64 x) ∧ RfTo w (rfOwn p gs ge qv) p D w' := by
    rintro x e w' ⟨rfl, hc⟩
    exact ⟨rfl, hA.to hc⟩
  by_cases hoff : D.off = true
  · rw [show D.write s t.data.toList = (24, D) from by simp [DK.write, hoff]]
    exact (rwrite_off w p s t (by rw [hoff] at k3; exact k3)).mono (key 24)
  · have hoff' : D.off = false := by simpa using hoff
    have k3' : w.cell? ⟨p, 3, none⟩ = some (.bool true) := by rw [hoff'] at k3; exact k3
    by_cases hv : D.valid s = true
    · have hv' := hv
      simp only [DK.valid, decide_eq_true_eq] at hv'
      by_cases ht : t.data.toList.length = 64
      · have ht' : ((t.size : Int) != 64) = false := by rw [Lib.size_eq, ht]; rfl
        rw [show D.write s t.data.toList = (D.push s t.data.toList).count from by unfold DK.write; rw [if_neg hoff, if_neg (by rw [hv]; simp), if_neg (by rw [ht]; simp)]]
        obtain ⟨k, rfl⟩ := Int.eq_ofNat_of_zero_le hv'.1
        exact rwrite_push (Lib.hid h) hoff' (by omega) k (by omega) t (Lib.hid ht) ht'
      · have ht' : ((t.size : Int) != 64) = true := by rw [Lib.size_eq, bne_iff_ne]; omega
        rw [show D.write s t.data.toList = (1, D) from by unfold DK.write; rw [if_neg hoff, if_neg (by rw [hv]; simp), if_pos ht]]
        exact (rwrite_len w p D.n cs _ s t k3' k0 hv'.1 hv'.2 ht').mono (key 1)
    · have hv' : D.valid s = false := by simpa using hv
      rw [show D.write s t.data.toList = (1, D) from by simp [DK.write, hoff', hv']]
      simp only [DK.valid, decide_eq_false_iff_not] at hv'
      by_cases h0 : 0 ≤ s
      · exact (rwrite_big w p D.n cs _ s t k3' k0 h0 (by omega)).mono (key 1)
      · exact (rwrite_neg w p s t k3' (by omega)).mono (key 1)
end Go.Proofs.YtpmkgedlnanjiaaGreatDoor
namespace Go.Proofs.YtpmkgedlnanjiaaGreatDoor
set_option linter.unusedVariables false
set_option linter.unusedSimpArgs false
set_option maxRecDepth 100000
open Go Go.RowKit
attribute [local irreducible] Go.wpStill

theorem rread_off (w : World) (p : Nat) (s : Int) (k3 : w.cell? ⟨p, 3, none⟩ = some (.bool false)) :
    Calls Tryz.prog 32 #[.pointer (some ⟨p, 0, none⟩), .int .i64 s] w fun e w' => e = .returned (.tuple #[.string ⟨#[]⟩, .int .i64 24]) ∧ Chg [] w w' := by
  go_enter Tryz.func32, Tryz.ntmps32
  go_wp2_with fail
  go_ret2
  exact ⟨rfl, Chg.refl _ _⟩
theorem rread_neg (w : World) (p : Nat) (s : Int) (k3 : w.cell? ⟨p, 3, none⟩ = some (.bool true)) (hs : s < 0) :
    Calls Tryz.prog 32 #[.pointer (some ⟨p, 0, none⟩), .int .i64 s] w fun e w' => e = .returned (.tuple #[.string ⟨#[]⟩, .int .i64 1]) ∧ Chg [] w w' := by
  go_enter Tryz.func32, Tryz.ntmps32
  go_wp2_with fail
  go_ret2
  exact ⟨rfl, Chg.refl _ _⟩
theorem rread_big (w : World) (p n c : Nat) (ao : Option Addr) (s : Int) (k3 : w.cell? ⟨p, 3, none⟩ = some (.bool true)) (k0 : w.cell? ⟨p, 0, none⟩ = some (.slice ao n c)) (h0 : 0 ≤ s) (hs : (n : Int) ≤ s) :
    Calls Tryz.prog 32 #[.pointer (some ⟨p, 0, none⟩), .int .i64 s] w fun e w' => e = .returned (.tuple #[.string ⟨#[]⟩, .int .i64 1]) ∧ Chg [] w w' := by
  go_enter Tryz.func32, Tryz.ntmps32
  go_wp2_with fail
  go_ret2
  exact ⟨rfl, Chg.refl _ _⟩
set_option maxHeartbeats 1000000 in
theorem rread_on {w : World} {p gs cs ge ce m cap : Nat} {ao : Option Addr} {A W B : Int} {D : DK} (H : Hid (RfR w p gs cs ge ce (.slice ao m cap) A W B D)) (Hm : Hid (D.q.length = m)) (hoff : D.off = false) (hq : m ≤ 1000000) (s : Nat) (hs : s < D.n) :
    Calls Tryz.prog 32 #[.pointer (some ⟨p, 0, none⟩), .int .i64 (s : Int)] w fun e w' => e = .returned (.tuple #[.string ⟨(D.cur s).toArray⟩, .int .i64 0]) ∧ Chg [] w w' := by
  have k0 := H.out.hp.cell (i := 0) rfl
  have k2 := H.out.hp.cell (i := 2) rfl
  have k3 : w.cell? ⟨p, 3, none⟩ = some (.bool true) := by have := H.out.hp.cell (i := 3) rfl; rw [hoff] at this; exact this
  have s0 := H.out.hs.cellOf s hs
  have n2 := H.out.ok.n2
  clear hoff
  go_enter Tryz.func32, Tryz.ntmps32
  go_wp2_with fail
  go_loopw [6, 7] (fun t i wr => ∃ (k : Nat) (z : Bytes), k ≤ m ∧ i = .int .i64 k ∧ t = .string ⟨z.toArray⟩ ∧ z = DK.last (D.q.take k) s (D.st s) ∧ Chg [] w wr) (fun _ i _ => m - (intOf i).toNat)
  case atStart => exact ⟨0, D.st s, Nat.zero_le _, rfl, rfl, by simp [DK.last], Chg.refl _ _⟩
  case round =>
    obtain ⟨k, z, hk, rfl, rfl, hz, hC⟩ := hrel
    have HZ := Lib.hid hz
    have HR := Lib.hid (H.out.kept hC (by simp))
    have HC := Lib.hid hC
    clear hz hC k0 k2 k3 s0
    have k2 := HR.out.hp.cell (i := 2) rfl
    by_cases hlt : k < m
    · obtain ⟨x, hx⟩ : ∃ x, D.q[k]? = some x := ⟨D.q[k]'(by rw [Hm.out]; exact hlt), by simp [Hm.out, hlt]⟩
      obtain ⟨g, rfl, c0, c1⟩ := HR.out.qcell k x hx
      have HX := Lib.hid hx
      clear hx
      by_cases hxs : x.1 = s
      · have hb : ((x.1 : Int) == (s : Int)) = true := by rw [hxs]; simp
        have Hxs := Lib.hid hxs
        clear hxs
        go_wp2_with fail
        go_roundw
        case rel => exact ⟨k + 1, x.2, by omega, by go_num, rfl, by rw [last_take _ _ _ _ _ HX.out, if_pos Hxs.out], HC.out⟩
        case measure => simp [intOf]; omega
      · have hb : ((x.1 : Int) == (s : Int)) = false := by rw [beq_eq_false_iff_ne]; omega
        have Hxs := Lib.hid hxs
        clear hxs
        go_wp2_with fail
        go_roundw
        case rel => exact ⟨k + 1, z, by omega, by go_num, rfl, by rw [last_take _ _ _ _ _ HX.out, if_neg Hxs.out]; exact HZ.out, HC.out⟩
        case measure => simp [intOf]; omega
    · have hkm : k = m := by omega
      have HK := Lib.hid hkm
      clear hkm
      go_wp2_with fail
      go_ret2
      refine ⟨?_, HC.out⟩
      have := HZ.out
      rw [HK.out, List.take_of_length_le (by rw [Hm.out]; exact Nat.le_refl _)] at this
      rw [this]
      rfl
theorem rread_spec {w : World} {own : List Nat} {p : Nat} {D : DK} (h : RfAt w own p D) (hq : D.q.length ≤ 1000000) (s : Int) :
    Calls Tryz.prog 32 #[.pointer (some ⟨p, 0, none⟩), .int .i64 s] w fun e w' => e = .returned (.tuple #[.string ⟨(D.read s).1.toArray⟩, .int .i64 (D.read s).2]) ∧ Chg [] w w' := by
  obtain ⟨gs, cs, ge, ce, qv, A, W, B, h, rfl⟩ := h
  have k0 := h.hp.cell (i := 0) rfl
  have k3 := h.hp.cell (i := 3) rfl
  by_cases hoff : D.off = true
  · rw [show D.read s = ([], 24) from by simp [DK.read, hoff]]
    exact rread_off w p s (by rw [hoff] at k3; exact k3)
  · have hoff' : D.off = false := by simpa using hoff
    have k3' : w.cell? ⟨p, 3, none⟩ = some (.bool true) := by rw [hoff'] at k3; exact k3
    by_cases hv : D.valid s = true
    · have hv' := hv
      simp only [DK.valid, decide_eq_true_eq] at hv'
      obtain ⟨k, rfl⟩ := Int.eq_ofNat_of_zero_le hv'.1
      rw [show D.read (k : Int) = (D.cur k, 0) from by unfold DK.read; rw [if_neg hoff, if_neg (by rw [hv]; simp)]; simp]
      obtain ⟨ao, cap, rfl⟩ := h.qform
      exact rread_on (Lib.hid h) (Lib.hid rfl) hoff' hq k (by omega)
    · have hv' : D.valid s = false := by simpa using hv
      rw [show D.read s = ([], 1) from by simp [DK.read, hoff', hv']]
      simp only [DK.valid, decide_eq_false_iff_not] at hv'
      by_cases h0 : 0 ≤ s
      · exact rread_big w p D.n cs _ s k3' k0 h0 (by omega)
      · exact rread_neg w p s k3' (by omega)

theorem rstale_bad (w : World) (p n c : Nat) (ao : Option Addr) (s : Int) (k0 : w.cell? ⟨p, 0, none⟩ = some (.slice ao n c)) (hs : ¬ (0 ≤ s ∧ s < (n : Int))) :
    Calls Tryz.prog 29 #[.pointer (some ⟨p, 0, none⟩), .int .i64 s] w fun e w' => e = .returned (.tuple #[]) ∧ Chg [] w w' := by
  by_cases h0 : 0 ≤ s
  · have h1 : (n : Int) ≤ s := by omega
    clear hs
    go_enter Tryz.func29, Tryz.ntmps29
    go_wp2_with fail
    exact bodyPost_end (results_none rfl _ _ _) rfl ⟨rfl, Chg.refl _ _⟩
  · have h1 : s < 0 := by omega
    clear hs h0
    go_enter Tryz.func29, Tryz.ntmps29
    go_wp2_with fail
    exact bodyPost_end (results_none rfl _ _ _) rfl ⟨rfl, Chg.refl _ _⟩
theorem rstale_fine (w : World) (p gs cs ge ce n s : Nat) (t u : Bytes) (hn : n ≤ 4000) (hs : s < n) (k0 : w.cell? ⟨p, 0, none⟩ = some (.slice (some ⟨gs, 0, none⟩) n cs)) (k1 : w.cell? ⟨p, 1, none⟩ = some (.slice (some ⟨ge, 0, none⟩) n ce))
    (e0 : w.cell? ⟨ge, s, none⟩ = some (.string ⟨t.toArray⟩)) (s0 : w.cell? ⟨gs, s, none⟩ = some (.string ⟨u.toArray⟩)) (f0 : w.frozen? ⟨gs, s, none⟩ = false) :
    Calls Tryz.prog 29 #[.pointer (some ⟨p, 0, none⟩), .int .i64 (s : Int)] w fun e w' => e = .returned (.tuple #[]) ∧ w' = w.drew.setCell ⟨gs, s, none⟩ (vstr t) := by
  go_enter Tryz.func29, Tryz.ntmps29
  go_wp2_with fail
  refine wp_region_tail 12 (by kernel_rfl) (by kernel_rfl) (fun L hL => ?_)
  simp only [List.take_succ_cons, List.take_zero, List.drop_succ_cons, List.drop_zero] at hL ⊢
  repeat still_step
  refine wpStill_nil (hL _ ?_)
  clear hL L
  go_wp2_with fail
  exact bodyPost_end (results_none rfl _ _ _) rfl ⟨rfl, rfl⟩
/-- The stable text of a sector is replaced. -/
theorem RfR.stored {w : World} {p gs cs ge ce : Nat} {qv : Value} {A W B : Int} {D : DK} (h : RfR w p gs cs ge ce qv A W B D) (s : Nat) (t : Bytes) (hs : s < D.n) (ht : t.length = 64) :
    RfR (w.setCell ⟨gs, s, none⟩ (vstr t)) p gs cs ge ce qv A W B { D with st := fun i => if i = s then t else D.st i } := by
  obtain ⟨d1, d2, d3, d4⟩ := h.nd
  have hc : Chg [gs] w (w.setCell ⟨gs, s, none⟩ (vstr t)) := (Chg.refl _ _).setCell _ _ (.inl (by simp))
  refine ⟨hc.blk h.hp (by simpa using d1), ?_, h.he.kept hc (by simp [Value.ownBlock]; exact fun e => d3 e.symm), row_kept h.hq hc (fun k hk => by simpa using (d4 k hk).2.1), h.ha, h.nd, ⟨h.ok.n1, h.ok.n2, fun i hi => ?_, h.ok.el, h.ok.q, h.ok.arm⟩⟩
  · show StrRow _ _ (secs D.n (fun i => if i = s then t else D.st i))
    rw [← secs_set]
    exact h.hs.set s t
  · show (if i = s then t else D.st i).length = 64
    split
    · exact ht
    · exact h.ok.st i hi
theorem rstale_spec {w : World} {own : List Nat} {p : Nat} {D : DK} (h : RfAt w own p D) (s : Int) :
    Calls Tryz.prog 29 #[.pointer (some ⟨p, 0, none⟩), .int .i64 s] w fun e w' => e = .returned (.tuple #[]) ∧ RfTo w own p (D.stale s) w' := by
  have hA := h
  obtain ⟨gs, cs, ge, ce, qv, A, W, B, h, rfl⟩ := h
  have k0 := h.hp.cell (i := 0) rfl
  have k1 := h.hp.cell (i := 1) rfl
  by_cases hv : D.valid s = true
  · have hv' := hv
    simp only [DK.valid, decide_eq_true_eq] at hv'
    obtain ⟨k, rfl⟩ := Int.eq_ofNat_of_zero_le hv'.1
    have hk : k < D.n := by omega
    refine (rstale_fine w p gs cs ge ce D.n k _ _ h.ok.n2 hk k0 k1 (h.he.cellOf k hk) (h.hs.cellOf k hk) (h.hs.freeOf k hk)).mono ?_
    rintro e w' ⟨rfl, rfl⟩
    refine ⟨rfl, ?_⟩
    have hD : D.stale (k : Int) = { D with st := fun i => if i = k then D.el k else D.st i } := by
      unfold DK.stale
      rw [if_pos hv]
      congr 1
      funext i
      by_cases hi : i = k
      · rw [if_pos (by simpa using hi), if_pos hi, hi]
      · rw [if_neg (by simpa using hi), if_neg hi]
    rw [hD]
    have hd := (h.kept ((Chg.refl [] w).drew) (by simp)).stored k (D.el k) hk (h.ok.el k hk)
    exact hd.to (((Chg.refl _ w).drew).setCell _ _ (.inl (mem_rfOwn.2 (.inr (.inl rfl))))) (fun k hk => .inl hk)
  · have hv' : D.valid s = false := by simpa using hv
    rw [show D.stale s = D from by unfold DK.stale; rw [if_neg hv]]
    simp only [DK.valid, decide_eq_false_iff_not] at hv'
    refine (rstale_bad w p D.n cs _ s k0 hv').mono ?_
    rintro e w' ⟨rfl, hc⟩
    exact ⟨rfl, hA.to hc⟩
end Go.Proofs.YtpmkgedlnanjiaaGreatDoor
namespace Go.Proofs.YtpmkgedlnanjiaaGreatDoor
set_option linter.unusedVariables false
set_option linter.unusedSimpArgs false
set_option maxRecDepth 100000
open Go Go.RowKit
attribute [local irreducible] Go.wpStill

theorem byte_of9 {t : Bytes} {k : Nat} {x : UInt8} (h : t[k]? = some x) (hk : k < (⟨t.toArray⟩ : ByteArray).size) : (⟨t.toArray⟩ : ByteArray)[k]'hk = x := by
  have h2 := (List.getElem?_eq_some_iff.1 h).2
  rw [← h2]
  rfl
theorem flip_join (z : Bytes) (a : Nat) (v : UInt8) (ha : a < z.length) : (⟨z.toArray⟩ : ByteArray).extract 0 a ++ ⟨[v].toArray⟩ ++ (⟨z.toArray⟩ : ByteArray).extract (a + 1) z.length = ⟨(z.set a v).toArray⟩ := by
  apply ByteArray.ext
  apply Array.ext'
  rw [List.set_eq_take_append_cons_drop, if_pos ha]
  simp
  exact List.take_of_length_le (by simp)

theorem rrot_bad (w : World) (p n c : Nat) (ao : Option Addr) (s a m : Int) (k0 : w.cell? ⟨p, 0, none⟩ = some (.slice ao n c)) (hs : ¬ ((0 ≤ s ∧ s < (n : Int)) ∧ 0 ≤ a ∧ a < 64 ∧ 0 < m ∧ m < 256)) :
    Calls Tryz.prog 27 #[.pointer (some ⟨p, 0, none⟩), .int .i64 s, .int .i64 a, .int .i64 m] w fun e w' => e = .returned (.tuple #[]) ∧ Chg [] w w' := by
  by_cases h1 : s < 0
  · clear hs
    go_enter Tryz.func27, Tryz.ntmps27
    go_wp2_with fail
    exact bodyPost_ret (results_none rfl _ _ _) rfl ⟨rfl, Chg.refl _ _⟩
  have h1' : 0 ≤ s := by omega
  by_cases h2 : (n : Int) ≤ s
  · clear hs
    go_enter Tryz.func27, Tryz.ntmps27
    go_wp2_with fail
    exact bodyPost_ret (results_none rfl _ _ _) rfl ⟨rfl, Chg.refl _ _⟩
  have h2' : s < (n : Int) := by omega
  by_cases h3 : a < 0
  · clear hs
    go_enter Tryz.func27, Tryz.ntmps27
    go_wp2_with fail
    exact bodyPost_ret (results_none rfl _ _ _) rfl ⟨rfl, Chg.refl _ _⟩
  have h3' : 0 ≤ a := by omega
  by_cases h4 : 64 ≤ a
  · clear hs
    go_enter Tryz.func27, Tryz.ntmps27
    go_wp2_with fail
    exact bodyPost_ret (results_none rfl _ _ _) rfl ⟨rfl, Chg.refl _ _⟩
  have h4' : a < 64 := by omega
  by_cases h5 : m < 1
  · clear hs
    go_enter Tryz.func27, Tryz.ntmps27
    go_wp2_with fail
    exact bodyPost_ret (results_none rfl _ _ _) rfl ⟨rfl, Chg.refl _ _⟩
  have h5' : 1 ≤ m := by omega
  have h6 : 255 < m := by omega
  clear hs
  go_enter Tryz.func27, Tryz.ntmps27
  go_wp2_with fail
  exact bodyPost_ret (results_none rfl _ _ _) rfl ⟨rfl, Chg.refl _ _⟩

set_option maxHeartbeats 1000000 in
theorem rrot_fine (w : World) (p gs cs n s a m : Nat) (z : Bytes) (hn : n ≤ 4000) (hs : s < n) (ha : a < 64) (hm0 : 0 < m) (hm : m < 256) (k0 : w.cell? ⟨p, 0, none⟩ = some (.slice (some ⟨gs, 0, none⟩) n cs)) (hp : p < w.heap.size) (hgl : gs < w.heap.size)
    (s0 : w.cell? ⟨gs, s, none⟩ = some (.string ⟨z.toArray⟩)) (f0 : w.frozen? ⟨gs, s, none⟩ = false) (hz : z.length = 64) :
    Calls Tryz.prog 27 #[.pointer (some ⟨p, 0, none⟩), .int .i64 (s : Int), .int .i64 (a : Int), .int .i64 (m : Int)] w fun e w' => e = .returned (.tuple #[]) ∧ ∃ w1, Chg [] w w1 ∧ w' = w1.setCell ⟨gs, s, none⟩ (vstr (DK.flip z a (UInt8.ofNat m))) := by
  obtain ⟨x, hx⟩ : ∃ x, z[a]? = some x := ⟨z[a]'(by omega), by simp⟩
  have hkx : a < (⟨z.toArray⟩ : ByteArray).size := by rw [Lib.size_eq]; simp; omega
  have hbx := byte_of9 hx hkx
  obtain ⟨v, hv⟩ : ∃ v, v = x ^^^ UInt8.ofNat m := ⟨_, rfl⟩
  have hxm : bits BinOp.xor IntKind.u8 (x.toNat : Int) (m : Int) = (v.toNat : Int) := by
    rw [u8_xor_nat _ _ x.toNat_lt hm, hv, UInt8.toNat_xor, UInt8.toNat_ofNat', show m % 2 ^ 8 = m from Nat.mod_eq_of_lt hm]
  have HF : Hid (DK.flip z a (UInt8.ofNat m) = z.set a v) := Lib.hid (by
    unfold DK.flip
    rw [hv, List.getD_eq_getElem?_getD, hx]
    rfl)
  have hmw : IntKind.u8.wrap (m : Int) = (m : Int) := IntWalk.u8_in _ (by omega)
  have HZ := Lib.hid hz
  clear hv hx
  go_enter Tryz.func27, Tryz.ntmps27
  go_upto_region 3 with fail
  obtain ⟨w2, hw2⟩ : ∃ w2, w2 = w.alloc (.cells #[.int .u8 (v.toNat : Int)] 5) := ⟨_, rfl⟩
  rw [← hw2]
  have hc2 : Chg [] w w2 := by rw [hw2]; exact (Chg.refl _ _).alloc _
  have hb : Blk w2 w.heap.size ([v].map B8) 5 := by rw [hw2]; exact Blk.new w [.int .u8 (v.toNat : Int)] _
  have q0 := (World.cell?_of_block (hc2.block p hp (by simp))).trans k0
  have t0 := (World.cell?_of_block (hc2.block gs hgl (by simp))).trans s0
  have g0 := (World.frozen?_of_block (hc2.block gs hgl (by simp))).trans f0
  generalize w.heap.size = tb at *
  have hcv : (convert 56 9 (.slice (some ⟨tb, 0, none⟩) 1 1)).run Tryz.prog w2.drew = .ok (.string ⟨[v].toArray⟩) w2.drew := by
    have hrun' : (Conv.bytesToString (.slice (some ⟨tb, 0, none⟩) 1 1)).run Tryz.prog w2.drew = .ok (.string ⟨[v].toArray⟩) w2.drew := run_bytes_of (w := w2.drew) (l := [v]) hb rfl (fun j hj => by rw [Nat.zero_add])
    rw [run_convert_bytes_string _ _ _ 5 _ _ _ Tryz.underlying56 Tryz.underlying5 Tryz.underlying9]
    exact hrun'
  have HC2 := Lib.hid hc2
  have hla : (a : Int) ≤ (⟨z.toArray⟩ : ByteArray).size := by rw [Lib.size_eq]; simp; omega
  obtain ⟨b, hbe⟩ : ∃ b, b = a + 1 := ⟨_, rfl⟩
  have hlb : (b : Int) ≤ (⟨z.toArray⟩ : ByteArray).size := by rw [Lib.size_eq]; simp; omega
  have hwr : IntKind.i64.wrap ((a : Int) + 1) = (b : Int) := by rw [IntWalk.i64_in _ (by omega)]; omega
  have hlz : a ≤ z.length := by omega
  have hlz1 : b ≤ z.length := by omega
  have hzm : ¬ 9223372036854775807 < z.length := by omega
  have hza : ¬ 9223372036854775807 < a + 1 := by omega
  have hzb : ¬ 9223372036854775807 < a + 1 + (z.length - b) := by omega
  have HBE := Lib.hid hbe
  clear hbe
  clear hc2 hw2 k0 s0 f0 hbx hb hxm hmw hp hgl hz hkx
  refine wp_region_tail 16 (by kernel_rfl) (by kernel_rfl) (fun L hL => ?_)
  simp only [List.take_succ_cons, List.take_zero, List.drop_succ_cons, List.drop_zero] at hL ⊢
  repeat still_step
  refine wpStill_nil (hL _ ?_)
  clear hL L
  go_wp2_with fail
  refine bodyPost_end (results_none rfl _ _ _) rfl ⟨rfl, w2.drew, HC2.out.drew, ?_⟩
  rw [HF.out, vstr, ← flip_join z a v (by have := HZ.out; omega), ← HBE.out]
  rfl
theorem rrot_spec {w : World} {own : List Nat} {p : Nat} {D : DK} (h : RfAt w own p D) (s a m : Int) :
    Calls Tryz.prog 27 #[.pointer (some ⟨p, 0, none⟩), .int .i64 s, .int .i64 a, .int .i64 m] w fun e w' => e = .returned (.tuple #[]) ∧ RfTo w own p (D.rot s a m) w' := by
  have hA := h
  obtain ⟨gs, cs, ge, ce, qv, A, W, B, h, rfl⟩ := h
  have k0 := h.hp.cell (i := 0) rfl
  by_cases hv : D.rotOk s a m = true
  · have hv' := hv
    simp only [DK.rotOk, DK.valid, Bool.and_eq_true, decide_eq_true_eq] at hv'
    obtain ⟨k, rfl⟩ := Int.eq_ofNat_of_zero_le hv'.1.1
    obtain ⟨j, rfl⟩ := Int.eq_ofNat_of_zero_le hv'.2.1
    obtain ⟨u, rfl⟩ := Int.eq_ofNat_of_zero_le (show 0 ≤ m by omega)
    have hk : k < D.n := by omega
    refine (rrot_fine w p gs cs D.n k j u _ h.ok.n2 hk (by omega) (by omega) (by omega) k0 h.hp.lt h.gsl (h.hs.cellOf k hk) (h.hs.freeOf k hk) (h.ok.st k hk)).mono ?_
    rintro e w' ⟨rfl, w1, hc, rfl⟩
    refine ⟨rfl, ?_⟩
    have hD : D.rot (k : Int) (j : Int) (u : Int) = { D with st := fun i => if i = k then DK.flip (D.st k) j (UInt8.ofNat u) else D.st i } := by
      unfold DK.rot
      rw [if_pos hv]
      congr 1
      funext i
      by_cases hi : i = k
      · rw [if_pos (by simpa using hi), if_pos hi, hi]
        rfl
      · rw [if_neg (by simpa using hi), if_neg hi]
    rw [hD]
    have hd := (h.kept hc (by simp)).stored k (DK.flip (D.st k) j (UInt8.ofNat u)) hk (by simp only [DK.flip, List.length_set]; exact h.ok.st k hk)
    exact hd.to ((hc.mono (by simp)).setCell _ _ (.inl (mem_rfOwn.2 (.inr (.inl rfl))))) (fun k hk => .inl hk)
  · rw [show D.rot s a m = D from by unfold DK.rot; rw [if_neg hv]]
    refine (rrot_bad w p D.n cs _ s a m k0 (fun hh => hv ?_)).mono ?_
    · simp only [DK.rotOk, DK.valid, Bool.and_eq_true, decide_eq_true_eq]
      exact hh
    · rintro e w' ⟨rfl, hc⟩
      exact ⟨rfl, hA.to hc⟩

theorem rep_snoc (k : Nat) (z : Bytes) : List.replicate k z ++ [z] = List.replicate (k + 1) z := (List.replicate_succ').symm
/-- The reference disk while New makes it. -/
structure Two (w wr : World) (p : Nat) (u v : Value) (lu lv : List Bytes) : Prop where
  hb : Blk wr p [u, v, .slice none 0 0, .bool true, .bool false, .int .i64 0, .int .i64 0, .int .i64 0] 80
  hu : StrRow wr u lu
  hv : StrRow wr v lv
  hc : Chg [] w wr
  ou : ∀ b ∈ u.ownBlock.toList, w.heap.size ≤ b ∧ b ≠ p ∧ b ∉ v.ownBlock.toList
  ov : ∀ b ∈ v.ownBlock.toList, w.heap.size ≤ b ∧ b ≠ p
  hp : w.heap.size ≤ p
theorem Two.lefts {w wr w1 w2 : World} {p g c : Nat} {u v : Value} {lu lv : List Bytes} {z : Bytes} (h : Two w wr p u v lu lv) (hw1 : Chg [] wr w1) (hg : w1.grownBy w2 u.ownBlock)
    (hown : w2.ownsRow 0 9 1 (.slice (some ⟨g, 0, none⟩) (lu.length + 1) c) (lu.length + 1) (lu.map vstr ++ [vstr z])) (hat : u.ownBlock = some g ∨ g = w1.heap.size) :
    Two w (w2.setCell ⟨p, 0, none⟩ (.slice (some ⟨g, 0, none⟩) (lu.length + 1) c)) p (.slice (some ⟨g, 0, none⟩) (lu.length + 1) c) v (lu ++ [z]) lv := by
  have hc0 : Chg u.ownBlock.toList wr w2 := (hw1.mono (by simp)).grown hg (fun k hk => .inl (by rw [hk]; simp))
  have hg2 : w.heap.size ≤ g ∧ g ≠ p ∧ g ∉ v.ownBlock.toList := by
    rcases hat with e | e
    · exact h.ou g (by rw [e]; simp)
    · have l1 := h.hb.lt
      have l2 := hw1.size
      have l3 := h.hc.size
      exact ⟨by omega, by omega, fun hm => by have := row_lt h.hv g hm; omega⟩
  have hc1 : Chg [p] w2 (w2.setCell ⟨p, 0, none⟩ (.slice (some ⟨g, 0, none⟩) (lu.length + 1) c)) := (Chg.refl _ _).setCell _ _ (.inl (by simp))
  refine ⟨(hc0.blk h.hb (fun hm => (h.ou p hm).2.1 rfl)).set 0 _, ?_, ?_, ?_, ?_, h.ov, h.hp⟩
  · exact (StrRow.push (w := w) (w1 := w1) (v := u) hown).kept hc1 (by simp [Value.ownBlock]; exact hg2.2.1)
  · exact (h.hv.kept hc0 (fun k hk hm => (h.ou k hm).2.2 hk)).kept hc1 (fun k hk => by simpa using (h.ov k hk).2)
  · exact (h.hc.trans hc0 (fun k hk => .inr (h.ou k hk).1)).trans hc1 (fun k hk => by simp at hk; subst hk; exact .inr h.hp)
  · intro b hb
    simp [Value.ownBlock] at hb
    subst hb
    exact hg2
theorem Two.rights {w wr w1 w2 : World} {p g c : Nat} {u v : Value} {lu lv : List Bytes} {z : Bytes} (h : Two w wr p u v lu lv) (hw1 : Chg [] wr w1) (hg : w1.grownBy w2 v.ownBlock)
    (hown : w2.ownsRow 0 9 1 (.slice (some ⟨g, 0, none⟩) (lv.length + 1) c) (lv.length + 1) (lv.map vstr ++ [vstr z])) (hat : v.ownBlock = some g ∨ g = w1.heap.size) :
    Two w (w2.setCell ⟨p, 1, none⟩ (.slice (some ⟨g, 0, none⟩) (lv.length + 1) c)) p u (.slice (some ⟨g, 0, none⟩) (lv.length + 1) c) lu (lv ++ [z]) := by
  have hc0 : Chg v.ownBlock.toList wr w2 := (hw1.mono (by simp)).grown hg (fun k hk => .inl (by rw [hk]; simp))
  have hg2 : w.heap.size ≤ g ∧ g ≠ p ∧ g ∉ u.ownBlock.toList := by
    rcases hat with e | e
    · have := h.ov g (by rw [e]; simp)
      exact ⟨this.1, this.2, fun hm => (h.ou g hm).2.2 (by rw [e]; simp)⟩
    · have l1 := h.hb.lt
      have l2 := hw1.size
      have l3 := h.hc.size
      exact ⟨by omega, by omega, fun hm => by have := row_lt h.hu g hm; omega⟩
  have hc1 : Chg [p] w2 (w2.setCell ⟨p, 1, none⟩ (.slice (some ⟨g, 0, none⟩) (lv.length + 1) c)) := (Chg.refl _ _).setCell _ _ (.inl (by simp))
  refine ⟨(hc0.blk h.hb (fun hm => (h.ov p hm).2 rfl)).set 1 _, ?_, ?_, ?_, ?_, ?_, h.hp⟩
  · exact (h.hu.kept hc0 (fun k hk hm => (h.ou k hk).2.2 hm)).kept hc1 (fun k hk => by simpa using (h.ou k hk).2.1)
  · exact (StrRow.push (w := w) (w1 := w1) (v := u) hown).kept hc1 (by simp [Value.ownBlock]; exact hg2.2.1)
  · exact (h.hc.trans hc0 (fun k hk => .inr (h.ov k hk).1)).trans hc1 (fun k hk => by simp at hk; subst hk; exact .inr h.hp)
  · intro b hb
    refine ⟨(h.ou b hb).1, (h.ou b hb).2.1, fun hm => ?_⟩
    simp [Value.ownBlock] at hm
    subst hm
    exact hg2.2.2 hb
  · intro b hb
    simp [Value.ownBlock] at hb
    subst hb
    exact ⟨hg2.1, hg2.2.1⟩
theorem StrRow.head {w : World} {v : Value} {l : List Bytes} {n : Nat} (h : StrRow w v l) (hl : l.length = n) (h0 : 0 < n) : ∃ g c, v = .slice (some ⟨g, 0, none⟩) n c := by
  rcases h.2 with ⟨_, h1⟩ | ⟨g, c, cur, he, _⟩
  · omega
  · exact ⟨g, c, by rw [he, hl]⟩
set_option maxHeartbeats 2000000 in
theorem rnew_calls (w : World) (n : Nat) (h1 : 1 ≤ n) (h2 : n ≤ 4000) : Calls Tryz.prog 16 #[.int .i64 (n : Int)] w fun e w' => ∃ p own, e = .returned (.pointer (some ⟨p, 0, none⟩)) ∧ RfAt w' own p (DK.new n) ∧ Chg [] w w' ∧ ∀ k ∈ own, w.heap.size ≤ k := by
  obtain ⟨i0, hi, hz0, hz1, hz2⟩ := info_parts info_str
  obtain ⟨z, hz⟩ : ∃ z : Bytes, z = List.replicate 64 0 := ⟨_, rfl⟩
  have hzs : zs 64 = ⟨z.toArray⟩ := by rw [hz]; rfl
  have HZ := Lib.hid hz
  have HZS := Lib.hid hzs
  clear hz hzs
  go_enter Tryz.func16, Tryz.ntmps16
  go_wp2_with fail
  refine (zero_spec _ 64 (by omega)).mono ?_
  rintro e w1 ⟨rfl, hc⟩
  rw [HZS.out]
  have hb0 := hc.blk (Blk.new w [.slice none 0 0, .slice none 0 0, .slice none 0 0, .bool true, .bool false, .int .i64 0, .int .i64 0, .int .i64 0] 80) (by simp)
  have hc1 : Chg [] w w1 := ((Chg.refl _ _).alloc _).trans hc (by simp)
  obtain ⟨p, hp⟩ : ∃ p, p = w.heap.size := ⟨_, rfl⟩
  rw [← hp] at hb0 ⊢
  have HT : Hid (Two w w1 p (.slice none 0 0) (.slice none 0 0) [] []) := Lib.hid ⟨hb0, World.ownsRow_nil _ _ _ _, World.ownsRow_nil _ _ _ _, hc1, by simp [Value.ownBlock], by simp [Value.ownBlock], by omega⟩
  clear hb0 hc1 hc hp
  go_wp2_with fail
  go_loopw [5] (fun s wr => ∃ (k : Nat) (u v : Value), k ≤ n ∧ s = .int .i64 k ∧ Two w wr p u v (List.replicate k z) (List.replicate k z)) (fun s _ => n - (intOf s).toNat)
  case atStart => exact ⟨0, _, _, Nat.zero_le _, rfl, HT.out⟩
  case round =>
    obtain ⟨k, u, v, hk, rfl, hT⟩ := hrel
    have HT1 := Lib.hid hT
    clear hT HT
    by_cases hlt : k < n
    · have c0 := HT1.out.hb.cell (i := 0) rfl
      have f0 := HT1.out.hb.free 0
      have hpl := HT1.out.hb.lt
      have hqu : u.ownBlock ≠ some p := fun e => (HT1.out.ou p (by rw [e]; simp)).2.1 rfl
      go_wp2_with (at_builtin; refine wpList_append_lies _ rfl (.tmp 24) (.tmp 26) 26 rfl 0 9 i0 (.string ⟨#[]⟩) 1 16 Tryz.underlying26 hi hz0 hz1 hz2 rfl (by decide) u k ((List.replicate k z).map vstr) rfl ?own ⟨wr.heap.size, 0, none⟩ 1 1 [vstr z] rfl rfl ?c1 ?c2 (by decide) (by unfold maxLen; omega) (by omega) (Nat.zero_le _) _ rfl ?kk)
      case own =>
        have := HT1.out.hu
        unfold StrRow at this
        rw [List.length_replicate] at this
        exact this.alloc _
      case c1 =>
        intro j u hj
        rw [addr_add, Nat.zero_add]
        exact (Blk.new wr [vstr z] _).cell hj
      case c2 => intro u hu; simp at hu; rw [hu]; rfl
      case kk =>
        intro g cap w2 hown hgrow hat hlt2
        have e0 : w2.cell? ⟨p, 0, none⟩ = some u := (hgrow.cell_far ⟨p, 0, none⟩ (by simp; omega) (fun e => hqu e.symm)).trans ((World.cell?_alloc_past _ p 0 hpl).trans c0)
        have ef : w2.frozen? ⟨p, 0, none⟩ = false := (hgrow.frozen_far ⟨p, 0, none⟩ (by simp; omega) (fun e => hqu e.symm)).trans ((World.frozen?_alloc_past _ p 0 hpl).trans f0)
        have hT2 := HT1.out.lefts (g := g) (c := cap) (z := z) ((Chg.refl [] wr).alloc _) hgrow (by rw [List.length_replicate, List.map_replicate]; exact hown) (by simpa using hat)
        rw [List.length_replicate] at hT2
        have HT2 := Lib.hid hT2
        clear hT2 hown hgrow hat hlt2 c0 f0 hpl hqu HT1
        go_upto_region 9 with fail
        generalize (.slice (some ⟨g, 0, none⟩) (k + 1) cap : Value) = u2 at *
        have c1 := HT2.out.hb.cell (i := 1) rfl
        have f1 := HT2.out.hb.free 1
        have hpl := HT2.out.hb.lt
        have hqv : v.ownBlock ≠ some p := fun e => (HT2.out.ov p (by rw [e]; simp)).2 rfl
        clear e0 ef
        generalize (w2.setCell ⟨p, 0, none⟩ u2) = w3 at *
        go_wp2_with (at_builtin; refine wpList_append_lies _ rfl (.tmp 34) (.tmp 36) 26 rfl 0 9 i0 (.string ⟨#[]⟩) 1 16 Tryz.underlying26 hi hz0 hz1 hz2 rfl (by decide) v k ((List.replicate k z).map vstr) rfl ?own ⟨w3.heap.size, 0, none⟩ 1 1 [vstr z] rfl rfl ?c1 ?c2 (by decide) (by unfold maxLen; omega) (by omega) (Nat.zero_le _) _ rfl ?kk)
        case own =>
          have := HT2.out.hv
          unfold StrRow at this
          rw [List.length_replicate] at this
          exact this.alloc _
        case c1 =>
          intro j u hj
          rw [addr_add, Nat.zero_add]
          exact (Blk.new w3 [vstr z] _).cell hj
        case c2 => intro u hu; simp at hu; rw [hu]; rfl
        case kk =>
          intro g2 cap2 w4 hown hgrow hat hlt2
          have e1 : w4.cell? ⟨p, 1, none⟩ = some v := (hgrow.cell_far ⟨p, 1, none⟩ (by simp; omega) (fun e => hqv e.symm)).trans ((World.cell?_alloc_past _ p 1 hpl).trans c1)
          have ef : w4.frozen? ⟨p, 1, none⟩ = false := (hgrow.frozen_far ⟨p, 1, none⟩ (by simp; omega) (fun e => hqv e.symm)).trans ((World.frozen?_alloc_past _ p 1 hpl).trans f1)
          have hT4 := HT2.out.rights (g := g2) (c := cap2) (z := z) ((Chg.refl [] w3).alloc _) hgrow (by rw [List.length_replicate, List.map_replicate]; exact hown) (by simpa using hat)
          rw [List.length_replicate, rep_snoc] at hT4
          have HT4 := Lib.hid hT4
          clear hT4 hown hgrow hat hlt2 c1 f1 hpl hqv HT2
          go_wp2_with fail
          go_roundw
          case rel => exact ⟨k + 1, _, _, by omega, by go_num, HT4.out⟩
          case measure => simp [intOf]; omega
    · have hkn : k = n := by omega
      have HK := Lib.hid hkn
      clear hkn
      go_wp2_with fail
      go_ret
      have hT := HT1.out
      rw [HK.out] at hT
      obtain ⟨gs, cs, rfl⟩ := hT.hu.head (n := n) (by simp) (by omega)
      obtain ⟨ge, ce, rfl⟩ := hT.hv.head (n := n) (by simp) (by omega)
      have ou := hT.ou gs (by simp [Value.ownBlock])
      have ov := hT.ov ge (by simp [Value.ownBlock])
      have hsec : secs n (fun _ => List.replicate 64 0) = List.replicate n z := by
        rw [HZ.out]
        unfold secs
        rw [List.map_const', List.length_range]
      refine ⟨p, rfOwn p gs ge (.slice none 0 0), rfl, ⟨gs, cs, ge, ce, .slice none 0 0, 0, 0, 0, ⟨hT.hb, ?_, ?_, World.ownsRow_nil _ _ _ _, by simp [DK.new], ⟨fun e => ou.2.1 e.symm, fun e => ov.2 e.symm, fun e => ou.2.2 (by rw [e]; simp [Value.ownBlock]), by simp [Value.ownBlock]⟩, DK.new_ok n h1 h2⟩, rfl⟩, hT.hc, fun k hk => ?_⟩
      · show StrRow _ _ (secs n (fun _ => List.replicate 64 0))
        rw [hsec]
        exact hT.hu
      · show StrRow _ _ (secs n (fun _ => List.replicate 64 0))
        rw [hsec]
        exact hT.hv
      · rcases mem_rfOwn.1 hk with rfl | rfl | rfl | hk
        · exact hT.hp
        · exact ou.1
        · exact ov.1
        · simp [Value.ownBlock] at hk
end Go.Proofs.YtpmkgedlnanjiaaGreatDoor
