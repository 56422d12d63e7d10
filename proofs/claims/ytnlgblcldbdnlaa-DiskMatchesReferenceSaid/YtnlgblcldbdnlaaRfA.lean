/-
  The reference disk of layer 43 in memory, and the contracts of its set and zero.
-/
import Derived.Test.YtnlgblcldbdnlaaLwJ
import Derived.Deep.AppendLies
namespace Go.Proofs.Ytnlgblcldbdnlaa
set_option linter.unusedVariables false
set_option linter.unusedSimpArgs false
open Go Go.RowKit

def rcells : List (Nat × Bytes) → List Value
  | [] => []
  | p :: l => .int .i64 (p.1 : Int) :: .string ⟨p.2.toArray⟩ :: rcells l
theorem rcells_append (l m : List (Nat × Bytes)) : rcells (l ++ m) = rcells l ++ rcells m := by
  induction l with
  | nil => rfl
  | cons p l ih => simp [rcells, ih]
theorem rcells_length (l : List (Nat × Bytes)) : (rcells l).length = l.length * 2 := by
  induction l with
  | nil => rfl
  | cons p l ih => simp only [rcells, List.length_cons, ih]; omega
theorem rcells_at (l : List (Nat × Bytes)) : ∀ (i : Nat) (p : Nat × Bytes), l[i]? = some p →
    (rcells l)[i * 2]? = some (.int .i64 (p.1 : Int)) ∧ (rcells l)[i * 2 + 1]? = some (.string ⟨p.2.toArray⟩) := by
  induction l with
  | nil => intro i p h; simp at h
  | cons x l ih =>
    intro i p h
    cases i with
    | zero => simp at h; subst h; simp [rcells]
    | succ i =>
      have := ih i p (by simpa using h)
      rw [show (i + 1) * 2 = i * 2 + 2 by omega]
      exact this
/-- The first n texts that f names. -/
def secs (n : Nat) (f : Nat → Bytes) : List Bytes := (List.range n).map f
theorem secs_len (n : Nat) (f : Nat → Bytes) : (secs n f).length = n := by simp [secs]
theorem secs_at (n : Nat) (f : Nat → Bytes) (i : Nat) (h : i < n) : (secs n f)[i]? = some (f i) := by
  unfold secs
  rw [List.getElem?_map, List.getElem?_range h]
  rfl
theorem secs_set (n : Nat) (f : Nat → Bytes) (s : Nat) (x : Bytes) : (secs n f).set s x = secs n (fun i => if i = s then x else f i) := by
  apply List.ext_getElem?
  intro i
  rw [List.getElem?_set, secs_len]
  by_cases hi : i < n
  · rw [secs_at _ _ _ hi, secs_at _ _ _ hi]
    by_cases hs : s = i
    · subst hs; rw [if_pos rfl, if_pos hi, if_pos rfl]
    · rw [if_neg hs, if_neg (fun e => hs e.symm)]
  · rw [List.getElem?_eq_none (by rw [secs_len]; omega), List.getElem?_eq_none (by rw [secs_len]; omega)]
    split
    · rw [if_neg (by omega)]
    · rfl

def rfCells (gs cs ge ce n : Nat) (qv : Value) (off : Bool) (arm : Bool) (A W B : Int) : List Value :=
  [.slice (some ⟨gs, 0, none⟩) n cs, .slice (some ⟨ge, 0, none⟩) n ce, qv, .bool (!off), .bool arm, .int .i64 A, .int .i64 W, .int .i64 B]
structure RfR (w : World) (p gs cs ge ce : Nat) (qv : Value) (A W B : Int) (D : DK) : Prop where
  hp : Blk w p (rfCells gs cs ge ce D.n qv D.off D.arm.isSome A W B) 64
  hs : StrRow w (.slice (some ⟨gs, 0, none⟩) D.n cs) (secs D.n D.st)
  he : StrRow w (.slice (some ⟨ge, 0, none⟩) D.n ce) (secs D.n D.el)
  hq : w.ownsRow 0 73 2 qv D.q.length (rcells D.q)
  ha : ∀ a, D.arm = some a → a = (A, W, B)
  nd : p ≠ gs ∧ p ≠ ge ∧ gs ≠ ge ∧ ∀ k ∈ qv.ownBlock.toList, k ≠ p ∧ k ≠ gs ∧ k ≠ ge
  ok : D.Ok
def rfOwn (p gs ge : Nat) (qv : Value) : List Nat := [p, gs, ge] ++ qv.ownBlock.toList
theorem mem_rfOwn {k p gs ge : Nat} {qv : Value} : k ∈ rfOwn p gs ge qv ↔ k = p ∨ k = gs ∨ k = ge ∨ k ∈ qv.ownBlock.toList := by
  simp [rfOwn, or_assoc]
def RfAt (w : World) (own : List Nat) (p : Nat) (D : DK) : Prop := ∃ gs cs ge ce qv A W B, RfR w p gs cs ge ce qv A W B D ∧ own = rfOwn p gs ge qv
def RfTo (w : World) (own : List Nat) (p : Nat) (D : DK) (w' : World) : Prop :=
  ∃ own', RfAt w' own' p D ∧ Chg own w w' ∧ (∀ k ∈ own', k ∈ own ∨ w.heap.size ≤ k)

theorem RfR.gsl {w : World} {p gs cs ge ce : Nat} {qv : Value} {A W B : Int} {D : DK} (h : RfR w p gs cs ge ce qv A W B D) : gs < w.heap.size := row_lt h.hs gs (by simp [Value.ownBlock])
theorem RfR.gel {w : World} {p gs cs ge ce : Nat} {qv : Value} {A W B : Int} {D : DK} (h : RfR w p gs cs ge ce qv A W B D) : ge < w.heap.size := row_lt h.he ge (by simp [Value.ownBlock])
theorem RfR.kept {w w' : World} {own : List Nat} {p gs cs ge ce : Nat} {qv : Value} {A W B : Int} {D : DK} (h : RfR w p gs cs ge ce qv A W B D) (hc : Chg own w w') (hn : ∀ k ∈ rfOwn p gs ge qv, k ∉ own) : RfR w' p gs cs ge ce qv A W B D :=
  ⟨hc.blk h.hp (hn p (mem_rfOwn.2 (.inl rfl))), h.hs.kept hc (fun k hk => by simp [Value.ownBlock] at hk; subst hk; exact hn _ (mem_rfOwn.2 (.inr (.inl rfl)))), h.he.kept hc (fun k hk => by simp [Value.ownBlock] at hk; subst hk; exact hn _ (mem_rfOwn.2 (.inr (.inr (.inl rfl))))),
    row_kept h.hq hc (fun k hk => hn k (mem_rfOwn.2 (.inr (.inr (.inr hk))))), h.ha, h.nd, h.ok⟩
theorem RfR.lt {w : World} {p gs cs ge ce : Nat} {qv : Value} {A W B : Int} {D : DK} (h : RfR w p gs cs ge ce qv A W B D) : ∀ k ∈ rfOwn p gs ge qv, k < w.heap.size := by
  intro k hk
  rcases mem_rfOwn.1 hk with rfl | rfl | rfl | hk
  · exact h.hp.lt
  · exact h.gsl
  · exact h.gel
  · exact row_lt h.hq k hk
theorem RfAt.kept {w w' : World} {own own1 : List Nat} {p : Nat} {D : DK} (h : RfAt w own p D) (hc : Chg own1 w w') (hn : ∀ k ∈ own, k ∉ own1) : RfAt w' own p D := by
  obtain ⟨gs, cs, ge, ce, qv, A, W, B, h1, rfl⟩ := h
  exact ⟨gs, cs, ge, ce, qv, A, W, B, h1.kept hc hn, rfl⟩
theorem RfAt.lt {w : World} {own : List Nat} {p : Nat} {D : DK} (h : RfAt w own p D) : ∀ k ∈ own, k < w.heap.size := by
  obtain ⟨gs, cs, ge, ce, qv, A, W, B, h1, rfl⟩ := h
  exact h1.lt
theorem RfAt.ok {w : World} {own : List Nat} {p : Nat} {D : DK} (h : RfAt w own p D) : D.Ok := by
  obtain ⟨gs, cs, ge, ce, qv, A, W, B, h1, rfl⟩ := h
  exact h1.ok
theorem RfTo.trans {w w1 w2 : World} {own own1 : List Nat} {p : Nat} {D : DK} (hc : Chg own w w1) (hs : ∀ k ∈ own1, k ∈ own ∨ w.heap.size ≤ k) (h : RfTo w1 own1 p D w2) : RfTo w own p D w2 := by
  obtain ⟨own2, h1, h2, h3⟩ := h
  refine ⟨own2, h1, hc.trans h2 hs, fun k hk => ?_⟩
  rcases h3 k hk with h4 | h4
  · exact hs k h4
  · exact .inr (Nat.le_trans hc.size h4)
theorem RfAt.to {w w' : World} {own : List Nat} {p : Nat} {D : DK} (h : RfAt w own p D) (hc : Chg [] w w') : RfTo w own p D w' :=
  ⟨own, h.kept hc (by simp), hc.mono (by simp), fun k hk => .inl hk⟩
theorem RfR.to {w w' : World} {p gs cs ge ce : Nat} {qv qv' : Value} {A W B : Int} {D : DK} (h : RfR w' p gs cs ge ce qv' A W B D) (hc : Chg (rfOwn p gs ge qv) w w') (hq : ∀ k ∈ qv'.ownBlock.toList, k ∈ qv.ownBlock.toList ∨ w.heap.size ≤ k) : RfTo w (rfOwn p gs ge qv) p D w' :=
  ⟨_, ⟨gs, cs, ge, ce, qv', A, W, B, h, rfl⟩, hc, fun k hk => by
    rcases mem_rfOwn.1 hk with rfl | rfl | rfl | hk
    · exact .inl (mem_rfOwn.2 (.inl rfl))
    · exact .inl (mem_rfOwn.2 (.inr (.inl rfl)))
    · exact .inl (mem_rfOwn.2 (.inr (.inr (.inl rfl))))
    · rcases hq k hk with h | h
      · exact .inl (mem_rfOwn.2 (.inr (.inr (.inr h))))
      · exact .inr h⟩

namespace DK
/-- A whole sector is replaced. -/
def lay (D : DK) (s : Nat) (t : Bytes) : DK := { D with el := fun i => if i = s then D.st s else D.el i, st := fun i => if i = s then t else D.st i }
theorem put_lay (D : DK) (s : Nat) (t : Bytes) : D.put s t = D.lay s (t ++ (D.st s).drop t.length) := by
  unfold put lay
  simp
theorem put_full (D : DK) (s : Nat) (t : Bytes) (hs : (D.st s).length = 64) (ht : t.length = 64) : D.put s t = D.lay s t := by
  rw [put_lay, ht, List.drop_of_length_le (by omega), List.append_nil]
theorem lay_ok {D : DK} (h : D.Ok) (s : Nat) (t : Bytes) (hs : s < D.n) (ht : t.length = 64) : (D.lay s t).Ok := by
  have := put_ok h s t hs (by omega)
  rw [put_full D s t (h.st s hs) ht] at this
  exact this
end DK

theorem StrRow.cellOf {w : World} {g n cap : Nat} {f : Nat → Bytes} (h : StrRow w (.slice (some ⟨g, 0, none⟩) n cap) (secs n f)) (i : Nat) (hi : i < n) : w.cell? ⟨g, i, none⟩ = some (.string ⟨(f i).toArray⟩) := by
  obtain ⟨g', cap', hv, hc⟩ := h.at n (secs_len n f) i (f i) (secs_at n f i hi)
  simp only [Value.slice.injEq, Option.some.injEq, Addr.mk.injEq, and_true, true_and] at hv
  obtain ⟨rfl, _⟩ := hv
  exact hc
theorem StrRow.freeOf {w : World} {g n cap : Nat} {f : Nat → Bytes} (h : StrRow w (.slice (some ⟨g, 0, none⟩) n cap) (secs n f)) (i : Nat) (hi : i < n) : w.frozen? ⟨g, i, none⟩ = false := by
  obtain ⟨h1, _, _⟩ := h.spot2 i (by rw [secs_len]; exact hi)
  exact h1

set_option maxRecDepth 100000 in
theorem rset_spec {w : World} {p gs cs ge ce : Nat} {qv : Value} {A W B : Int} {D : DK} (H : Hid (RfR w p gs cs ge ce qv A W B D)) (s : Nat) (hs : s < D.n) (t : Bytes) (Ht : Hid (t.length = 64)) :
    Calls Try.prog 46 #[.pointer (some ⟨p, 0, none⟩), .int .i64 (s : Int), .string ⟨t.toArray⟩] w fun e w' => e = .returned (.tuple #[]) ∧ Chg [gs, ge] w w' ∧ RfR w' p gs cs ge ce qv A W B (D.lay s t) := by
  have c0 := H.out.hp.cell (i := 0) rfl
  have c1 := H.out.hp.cell (i := 1) rfl
  have k1 := H.out.hs.cellOf s hs
  have k2 := H.out.he.cellOf s hs
  have f1 := H.out.hs.freeOf s hs
  have f2 := H.out.he.freeOf s hs
  have n2 := H.out.ok.n2
  obtain ⟨d1, d2, d3, _⟩ := H.out.nd
  go_enter Try.func46, Try.ntmps46
  go_wp2_with fail
  refine wp_region_tail 12 (by kernel_rfl) (by kernel_rfl) (fun L hL => ?_)
  simp only [List.take_succ_cons, List.take_zero, List.drop_succ_cons, List.drop_zero] at hL ⊢
  repeat still_step
  refine wpStill_nil (hL _ ?_)
  clear hL L
  go_wp2_with fail
  have hc1 : Chg [ge] w (w.setCell ⟨ge, s, none⟩ (vstr (D.st s))) := (Chg.refl _ _).setCell _ _ (.inl (by simp))
  have hc2 : Chg [gs] (w.setCell ⟨ge, s, none⟩ (vstr (D.st s))) ((w.setCell ⟨ge, s, none⟩ (vstr (D.st s))).setCell ⟨gs, s, none⟩ (vstr t)) := (Chg.refl _ _).setCell _ _ (.inl (by simp))
  have hq := H.out.nd.2.2.2
  have hR : RfR ((w.setCell ⟨ge, s, none⟩ (vstr (D.st s))).setCell ⟨gs, s, none⟩ (vstr t)) p gs cs ge ce qv A W B (D.lay s t) := by
    refine ⟨hc2.blk (hc1.blk H.out.hp (by simpa using d2)) (by simpa using d1), ?_, ?_, row_kept (row_kept H.out.hq hc1 (fun k hk => by simpa using (hq k hk).2.2)) hc2 (fun k hk => by simpa using (hq k hk).2.1), H.out.ha, H.out.nd, DK.lay_ok H.out.ok s t hs Ht.out⟩
    · show StrRow _ _ (secs D.n (fun i => if i = s then t else D.st i))
      rw [← secs_set]
      exact (H.out.hs.kept hc1 (by simp [Value.ownBlock]; exact d3)).set s t
    · show StrRow _ _ (secs D.n (fun i => if i = s then D.st s else D.el i))
      rw [← secs_set]
      exact (H.out.he.set s (D.st s)).kept hc2 (by simp [Value.ownBlock]; exact fun e => d3 e.symm)
  refine bodyPost_end (results_none rfl _ _ _) rfl ⟨rfl, ?_, ?_⟩
  · exact ((((Chg.refl _ _).drew).setCell _ _ (.inl (by simp))).setCell _ _ (.inl (by simp)))
  · exact hR.kept ((Chg.refl [] _).drew) (by simp)

/-- k zero bytes. -/
def zs (k : Nat) : ByteArray := ⟨(List.replicate k (0 : UInt8)).toArray⟩
theorem zs_snoc (k : Nat) : zs k ++ ⟨#[0]⟩ = zs (k + 1) := by
  unfold zs
  apply ByteArray.ext
  apply Array.ext'
  simp [List.replicate_succ']
theorem zs_size (k : Nat) : (zs k).size = k := by
  unfold zs
  rw [Lib.size_eq]
  simp
theorem zero_spec (w : World) (m : Nat) (hm : m ≤ 1000) : Calls Try.prog 31 #[.int .i64 (m : Int)] w fun e w' => e = .returned (.string (zs m)) ∧ Chg [] w w' := by
  have h0 : (⟨#[]⟩ : ByteArray) = zs 0 := rfl
  have H0 := Lib.hid h0
  clear h0
  go_enter Try.func31, Try.ntmps31
  go_wp2_with fail
  go_loopw [3, 4] (fun t s wr => ∃ (k : Nat) (z : ByteArray), k ≤ m ∧ s = .int .i64 k ∧ t = .string z ∧ z = zs k ∧ Chg [] w wr) (fun _ s _ => m - (intOf s).toNat)
  case atStart => exact ⟨0, _, Nat.zero_le _, rfl, rfl, H0.out, Chg.refl _ _⟩
  case round =>
    obtain ⟨k, z, hk, rfl, rfl, hz, hC⟩ := hrel
    have HZ := Lib.hid hz
    have HC := Lib.hid hC
    clear hz hC
    by_cases hlt : k < m
    · have hzs : ¬ 9223372036854775807 < z.size + 1 := by rw [HZ.out, zs_size]; omega
      go_wp2_with fail
      go_roundw
      case rel => exact ⟨k + 1, _, by omega, by go_num, rfl, by rw [HZ.out]; exact zs_snoc k, HC.out⟩
      case measure => simp [intOf]; omega
    · have hk64 : k = m := by omega
      go_wp2_with fail
      go_ret
      exact ⟨by rw [HZ.out, hk64]; rfl, HC.out⟩
end Go.Proofs.Ytnlgblcldbdnlaa
