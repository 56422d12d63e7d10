/-
  The disk of layer 43 in memory: when a pointer leads to a disk that holds what 'DK' says.
-/
import Derived.Test.YtpmkgedlnanjiaaGreatDoorHeap
import Derived.Test.YtpmkgedlnanjiaaGreatDoorDkModel
import Derived.Test.YtpmkgedlnanjiaaGreatDoorProg
namespace Go.Proofs.YtpmkgedlnanjiaaGreatDoor
set_option linter.unusedVariables false
set_option linter.unusedSimpArgs false
open Go Go.RowKit

def dkCells (bs be n : Nat) (qv av : Value) (off : Bool) : List Value :=
  [.slice (some ⟨bs, 0, none⟩) (n * 64) (n * 64), .slice (some ⟨be, 0, none⟩) (n * 64) (n * 64), qv, .bool off, av]
def qcells : List (Nat × Bytes) → List Value
  | [] => []
  | p :: l => .int .i64 ((p.1 : Int) * 64) :: .int .i64 (((p.1 : Int) + 1) * 64) :: .string ⟨p.2.toArray⟩ :: qcells l
theorem qcells_append (l m : List (Nat × Bytes)) : qcells (l ++ m) = qcells l ++ qcells m := by
  induction l with
  | nil => rfl
  | cons p l ih => simp [qcells, ih]
theorem qcells_length (l : List (Nat × Bytes)) : (qcells l).length = l.length * 3 := by
  induction l with
  | nil => rfl
  | cons p l ih => simp only [qcells, List.length_cons, ih]; omega
theorem qcells_at (l : List (Nat × Bytes)) : ∀ (i : Nat) (p : Nat × Bytes), l[i]? = some p →
    (qcells l)[i * 3]? = some (.int .i64 ((p.1 : Int) * 64)) ∧ (qcells l)[i * 3 + 1]? = some (.int .i64 (((p.1 : Int) + 1) * 64)) ∧ (qcells l)[i * 3 + 2]? = some (.string ⟨p.2.toArray⟩) := by
  induction l with
  | nil => intro i p h; simp at h
  | cons x l ih =>
    intro i p h
    cases i with
    | zero => simp at h; subst h; simp [qcells]
    | succ i =>
      have := ih i p (by simpa using h)
      rw [show (i + 1) * 3 = i * 3 + 3 by omega]
      exact this
def avBlk : Value → List Nat
  | .pointer (some a) => [a.block]
  | _ => []
def ArmAt (w : World) (av : Value) : Option (Int × Int × Int) → Prop
  | none => av = .pointer none
  | some (a, x, y) => ∃ ba, av = .pointer (some ⟨ba, 0, none⟩) ∧ Blk w ba [.int .i64 a, .int .i64 x, .int .i64 y] 95
/-- A block of bytes that holds n sectors. -/
def Secs (w : World) (b n : Nat) (f : Nat → Bytes) : Prop :=
  ∃ S : Bytes, Blk w b (S.map B8) 5 ∧ S.length = n * 64 ∧ ∀ i, i < n → (S.drop (i * 64)).take 64 = f i
def dkOwn (p bs be : Nat) (qv av : Value) : List Nat := [p, bs, be] ++ qv.ownBlock.toList ++ avBlk av

structure DkR (w : World) (p bs be : Nat) (qv av : Value) (D : DK) : Prop where
  hp : Blk w p (dkCells bs be D.n qv av D.off) 73
  hs : Secs w bs D.n D.st
  he : Secs w be D.n D.el
  hq : w.ownsRow 0 89 3 qv D.q.length (qcells D.q)
  ha : ArmAt w av D.arm
  nd : (dkOwn p bs be qv av).Nodup
  ok : D.Ok

def DkAt (w : World) (own : List Nat) (p : Nat) (D : DK) : Prop := ∃ bs be qv av, DkR w p bs be qv av D ∧ own = dkOwn p bs be qv av

/-- Behind a step: the disk at p holds D; nothing else that was there has changed. -/
def DkTo (w : World) (own : List Nat) (p : Nat) (D : DK) (w' : World) : Prop :=
  ∃ own', DkAt w' own' p D ∧ Chg own w w' ∧ (∀ k ∈ own', k ∈ own ∨ w.heap.size ≤ k)

theorem Secs.kept {w w' : World} {own : List Nat} {b n : Nat} {f : Nat → Bytes} (h : Secs w b n f) (hc : Chg own w w') (hn : b ∉ own) : Secs w' b n f := by
  obtain ⟨S, h1, h2⟩ := h
  exact ⟨S, hc.blk h1 hn, h2⟩
theorem Secs.lt {w : World} {b n : Nat} {f : Nat → Bytes} (h : Secs w b n f) : b < w.heap.size := by
  obtain ⟨S, h1, _⟩ := h
  exact h1.lt
theorem ArmAt.kept {w w' : World} {own : List Nat} {av : Value} {o : Option (Int × Int × Int)} (h : ArmAt w av o) (hc : Chg own w w') (hn : ∀ k ∈ avBlk av, k ∉ own) : ArmAt w' av o := by
  cases o with
  | none => exact h
  | some x =>
    obtain ⟨ba, rfl, h1⟩ := h
    exact ⟨ba, rfl, hc.blk h1 (hn ba (by simp [avBlk]))⟩
theorem ArmAt.lt {w : World} {av : Value} {o : Option (Int × Int × Int)} (h : ArmAt w av o) : ∀ k ∈ avBlk av, k < w.heap.size := by
  cases o with
  | none => rw [show av = .pointer none from h]; intro k hk; simp [avBlk] at hk
  | some x =>
    obtain ⟨ba, rfl, h1⟩ := h
    intro k hk
    simp [avBlk] at hk
    subst hk
    exact h1.lt
theorem row_kept {w w' : World} {own : List Nat} {e : TypeId} {size : Nat} {v : Value} {n : Nat} {xs : List Value} (h : w.ownsRow 0 e size v n xs) (hc : Chg own w w') (hn : ∀ k ∈ v.ownBlock.toList, k ∉ own) :
    w'.ownsRow 0 e size v n xs := by
  refine ⟨h.1, ?_⟩
  rcases h.2 with h0 | ⟨g, cap, cur, rfl, hb, hg, rest⟩
  · exact .inl h0
  · exact .inr ⟨g, cap, cur, rfl, hb, (hc.block g (Array.getElem?_eq_some_iff.1 hg).1 (hn g (by simp [Value.ownBlock]))).trans hg, rest⟩
theorem row_lt {w : World} {e : TypeId} {size : Nat} {v : Value} {n : Nat} {xs : List Value} (h : w.ownsRow 0 e size v n xs) : ∀ k ∈ v.ownBlock.toList, k < w.heap.size := by
  intro k hk
  have hk' : v.ownBlock = some k := by
    cases hv : v.ownBlock with
    | none => rw [hv] at hk; simp at hk
    | some x => rw [hv] at hk; simp at hk; rw [hk]
  exact (h.lt k hk').2

theorem mem_dkOwn {k p bs be : Nat} {qv av : Value} : k ∈ dkOwn p bs be qv av ↔ k = p ∨ k = bs ∨ k = be ∨ k ∈ qv.ownBlock.toList ∨ k ∈ avBlk av := by
  simp [dkOwn, or_assoc]

theorem DkR.kept {w w' : World} {own : List Nat} {p bs be : Nat} {qv av : Value} {D : DK} (h : DkR w p bs be qv av D) (hc : Chg own w w') (hn : ∀ k ∈ dkOwn p bs be qv av, k ∉ own) : DkR w' p bs be qv av D :=
  ⟨hc.blk h.hp (hn p (mem_dkOwn.2 (.inl rfl))), h.hs.kept hc (hn bs (mem_dkOwn.2 (.inr (.inl rfl)))), h.he.kept hc (hn be (mem_dkOwn.2 (.inr (.inr (.inl rfl))))),
    row_kept h.hq hc (fun k hk => hn k (mem_dkOwn.2 (.inr (.inr (.inr (.inl hk)))))), h.ha.kept hc (fun k hk => hn k (mem_dkOwn.2 (.inr (.inr (.inr (.inr hk)))))), h.nd, h.ok⟩
theorem DkR.lt {w : World} {p bs be : Nat} {qv av : Value} {D : DK} (h : DkR w p bs be qv av D) : ∀ k ∈ dkOwn p bs be qv av, k < w.heap.size := by
  intro k hk
  rcases mem_dkOwn.1 hk with rfl | rfl | rfl | hk | hk
  · exact h.hp.lt
  · exact h.hs.lt
  · exact h.he.lt
  · exact row_lt h.hq k hk
  · exact h.ha.lt k hk
theorem DkAt.kept {w w' : World} {own own1 : List Nat} {p : Nat} {D : DK} (h : DkAt w own p D) (hc : Chg own1 w w') (hn : ∀ k ∈ own, k ∉ own1) : DkAt w' own p D := by
  obtain ⟨bs, be, qv, av, h1, rfl⟩ := h
  exact ⟨bs, be, qv, av, h1.kept hc hn, rfl⟩
theorem DkAt.lt {w : World} {own : List Nat} {p : Nat} {D : DK} (h : DkAt w own p D) : ∀ k ∈ own, k < w.heap.size := by
  obtain ⟨bs, be, qv, av, h1, rfl⟩ := h
  exact h1.lt
theorem DkAt.ok {w : World} {own : List Nat} {p : Nat} {D : DK} (h : DkAt w own p D) : D.Ok := by
  obtain ⟨bs, be, qv, av, h1, rfl⟩ := h
  exact h1.ok
theorem DkTo.trans {w w1 w2 : World} {own own1 : List Nat} {p : Nat} {D : DK} (hc : Chg own w w1) (hs : ∀ k ∈ own1, k ∈ own ∨ w.heap.size ≤ k) (h : DkTo w1 own1 p D w2) : DkTo w own p D w2 := by
  obtain ⟨own2, h1, h2, h3⟩ := h
  refine ⟨own2, h1, hc.trans h2 hs, fun k hk => ?_⟩
  rcases h3 k hk with h4 | h4
  · exact hs k h4
  · exact .inr (Nat.le_trans hc.size h4)
theorem DkAt.to {w w' : World} {own : List Nat} {p : Nat} {D : DK} (h : DkAt w own p D) (hc : Chg [] w w') : DkTo w own p D w' :=
  ⟨own, h.kept hc (by simp), hc.mono (by simp), fun k hk => .inl hk⟩
/-- A disk written in place. -/
theorem DkR.to {w w' : World} {p bs be : Nat} {qv av : Value} {D : DK} (h : DkR w' p bs be qv av D) (hc : Chg (dkOwn p bs be qv av) w w') : DkTo w (dkOwn p bs be qv av) p D w' :=
  ⟨_, ⟨bs, be, qv, av, h, rfl⟩, hc, fun k hk => .inl hk⟩
end Go.Proofs.YtpmkgedlnanjiaaGreatDoor
