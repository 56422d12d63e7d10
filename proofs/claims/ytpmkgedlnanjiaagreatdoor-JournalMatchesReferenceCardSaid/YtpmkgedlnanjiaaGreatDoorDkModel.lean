/-
  The disk of layer 43 as plain data: what each method computes. No program in sight.
-/
namespace Go.Proofs.YtpmkgedlnanjiaaGreatDoor

abbrev Bytes := List UInt8

/-- A disk: n sectors, their stable and their elder contents, the pending writes, whether it is off, and how it is armed. -/
structure DK where
  n : Nat
  st : Nat → Bytes
  el : Nat → Bytes
  q : List (Nat × Bytes)
  off : Bool
  arm : Option (Int × Int × Int)

namespace DK
def new (n : Nat) : DK := ⟨n, fun _ => List.replicate 64 0, fun _ => List.replicate 64 0, [], false, none⟩
def put (D : DK) (s : Nat) (t : Bytes) : DK :=
  { D with el := fun i => if i = s then D.st s else D.el i, st := fun i => if i = s then t ++ (D.st s).drop t.length else D.st i }
def settle (D : DK) (l : List (Nat × Bytes)) : DK := l.foldl (fun D p => D.put p.1 p.2) D
def cut (D : DK) (w : Int) : Nat := (min (max w 0) (D.q.length : Int)).toNat
def torn (b : Int) : Nat := (min (max b 0) 64).toNat
def tear (D : DK) (r : List (Nat × Bytes)) (b : Int) : DK :=
  match r with
  | [] => D
  | p :: _ => if 0 < torn b then D.put p.1 (p.2.take (torn b)) else D
def down (D : DK) (w b : Int) : DK := { (D.settle (D.q.take (D.cut w))).tear (D.q.drop (D.cut w)) b with q := [], off := true, arm := none }
def fail (D : DK) (w b : Int) : DK := if D.off then D else D.down w b
def count (D : DK) : Int × DK :=
  match D.arm with
  | none => (0, D)
  | some (a, w, b) => if 0 < a then (0, { D with arm := some (a - 1, w, b) }) else (24, D.fail w b)
def valid (D : DK) (s : Int) : Bool := decide (0 ≤ s ∧ s < (D.n : Int))
def push (D : DK) (s : Int) (t : Bytes) : DK := { D with q := D.q ++ [(s.toNat, t)] }
def write (D : DK) (s : Int) (t : Bytes) : Int × DK :=
  if D.off then (24, D) else if D.valid s = false then (1, D) else if t.length ≠ 64 then (1, D) else (D.push s t).count
def last (l : List (Nat × Bytes)) (s : Nat) (d : Bytes) : Bytes := l.foldl (fun acc p => if p.1 = s then p.2 else acc) d
def cur (D : DK) (s : Nat) : Bytes := last D.q s (D.st s)
def read (D : DK) (s : Int) : Bytes × Int :=
  if D.off then ([], 24) else if D.valid s = false then ([], 1) else (D.cur s.toNat, 0)
def flush (D : DK) : DK := { D.settle D.q with q := [] }
def sync (D : DK) : Int × DK := if D.off then (24, D) else if D.count.1 ≠ 0 then D.count else (0, D.count.2.flush)
def start (D : DK) : DK := { D with off := false, arm := none }
def setArm (D : DK) (a w b : Int) : DK := if D.off then D else { D with arm := if 0 ≤ a then some (a, w, b) else none }
def rotOk (D : DK) (s a m : Int) : Bool := D.valid s && decide (0 ≤ a ∧ a < 64 ∧ 0 < m ∧ m < 256)
def flip (t : Bytes) (a : Nat) (m : UInt8) : Bytes := t.set a ((t.getD a 0) ^^^ m)
def rot (D : DK) (s a m : Int) : DK :=
  if D.rotOk s a m then { D with st := fun i => if i = s.toNat then flip (D.st i) a.toNat (UInt8.ofNat m.toNat) else D.st i } else D
def stale (D : DK) (s : Int) : DK :=
  if D.valid s then { D with st := fun i => if i = s.toNat then D.el i else D.st i } else D

/-- What holds of every disk that the program makes. -/
structure Ok (D : DK) : Prop where
  n1 : 1 ≤ D.n
  n2 : D.n ≤ 4000
  st : ∀ i, i < D.n → (D.st i).length = 64
  el : ∀ i, i < D.n → (D.el i).length = 64
  q : ∀ p ∈ D.q, p.1 < D.n ∧ p.2.length = 64
  arm : ∀ a w b, D.arm = some (a, w, b) → 0 ≤ a ∧ a ≤ 9223372036854775807

theorem put_n (D : DK) (s : Nat) (t : Bytes) : (D.put s t).n = D.n := rfl
theorem put_ok {D : DK} (h : D.Ok) (s : Nat) (t : Bytes) (hs : s < D.n) (ht : t.length ≤ 64) : (D.put s t).Ok := by
  refine ⟨h.n1, h.n2, fun i hi => ?_, fun i hi => ?_, h.q, h.arm⟩
  · simp only [put]
    split
    · have := h.st s hs
      simp only [List.length_append, List.length_drop]; omega
    · exact h.st i hi
  · simp only [put]
    split
    · exact h.st s hs
    · exact h.el i hi
theorem settle_n (l : List (Nat × Bytes)) : ∀ D : DK, (D.settle l).n = D.n := by
  induction l with
  | nil => exact fun _ => rfl
  | cons p l ih => exact fun D => (ih (D.put p.1 p.2)).trans rfl
theorem settle_q (l : List (Nat × Bytes)) : ∀ D : DK, (D.settle l).q = D.q := by
  induction l with
  | nil => exact fun _ => rfl
  | cons p l ih => exact fun D => (ih (D.put p.1 p.2)).trans rfl
theorem settle_off (l : List (Nat × Bytes)) : ∀ D : DK, (D.settle l).off = D.off := by
  induction l with
  | nil => exact fun _ => rfl
  | cons p l ih => exact fun D => (ih (D.put p.1 p.2)).trans rfl
theorem settle_arm (l : List (Nat × Bytes)) : ∀ D : DK, (D.settle l).arm = D.arm := by
  induction l with
  | nil => exact fun _ => rfl
  | cons p l ih => exact fun D => (ih (D.put p.1 p.2)).trans rfl
theorem settle_ok (l : List (Nat × Bytes)) : ∀ {D : DK}, D.Ok → (∀ p ∈ l, p.1 < D.n ∧ p.2.length = 64) → (D.settle l).Ok := by
  induction l with
  | nil => exact fun h _ => h
  | cons p l ih =>
    intro D h hl
    have hp := hl p (by simp)
    exact ih (put_ok h p.1 p.2 hp.1 (by omega)) (fun x hx => hl x (by simp [hx]))
theorem settle_snoc (D : DK) (l : List (Nat × Bytes)) (p : Nat × Bytes) : D.settle (l ++ [p]) = (D.settle l).put p.1 p.2 := by
  simp [settle]
theorem torn_le (b : Int) : torn b ≤ 64 := by unfold torn; omega
theorem cut_le (D : DK) (w : Int) : D.cut w ≤ D.q.length := by unfold cut; omega
theorem tear_n (D : DK) (r : List (Nat × Bytes)) (b : Int) : (D.tear r b).n = D.n := by
  unfold tear; split
  · rfl
  · split <;> rfl
theorem tear_ok {D : DK} (h : D.Ok) (r : List (Nat × Bytes)) (b : Int) (hr : ∀ p ∈ r, p.1 < D.n ∧ p.2.length = 64) : (D.tear r b).Ok := by
  unfold tear
  split
  · exact h
  · rename_i p r'
    have hp := hr p (by simp)
    split
    · exact put_ok h _ _ hp.1 (by have := torn_le b; simp; omega)
    · exact h
theorem down_ok {D : DK} (h : D.Ok) (w b : Int) : (D.down w b).Ok := by
  have h1 := settle_ok (D.q.take (D.cut w)) h (fun p hp => h.q p (List.mem_of_mem_take hp))
  have hn := settle_n (D.q.take (D.cut w)) D
  have h2 := tear_ok h1 (D.q.drop (D.cut w)) b (fun p hp => by rw [hn]; exact h.q p (List.mem_of_mem_drop hp))
  exact ⟨h2.n1, h2.n2, h2.st, h2.el, fun p hp => by simp [down] at hp, fun a w b ha => by simp [down] at ha⟩
theorem down_n (D : DK) (w b : Int) : (D.down w b).n = D.n := (tear_n _ _ _).trans (settle_n _ _)
theorem fail_ok {D : DK} (h : D.Ok) (w b : Int) : (D.fail w b).Ok := by
  unfold fail; split
  · exact h
  · exact down_ok h w b
theorem fail_n (D : DK) (w b : Int) : (D.fail w b).n = D.n := by
  unfold fail; split
  · rfl
  · exact down_n D w b
theorem count_ok {D : DK} (h : D.Ok) : D.count.2.Ok := by
  unfold count
  split
  · exact h
  · rename_i a w b ha
    split
    · have := h.arm a w b ha
      exact ⟨h.n1, h.n2, h.st, h.el, h.q, fun a' w' b' h' => by simp at h'; omega⟩
    · exact fail_ok h w b
theorem count_n (D : DK) : D.count.2.n = D.n := by
  unfold count
  split
  · rfl
  · split
    · rfl
    · exact fail_n D _ _
theorem push_ok {D : DK} (h : D.Ok) (s : Int) (t : Bytes) (hs : D.valid s = true) (ht : t.length = 64) : (D.push s t).Ok := by
  refine ⟨h.n1, h.n2, h.st, h.el, fun p hp => ?_, h.arm⟩
  simp only [push, List.mem_append, List.mem_singleton] at hp
  rcases hp with hp | rfl
  · exact h.q p hp
  · simp only [valid, decide_eq_true_eq] at hs
    exact ⟨by show s.toNat < D.n; omega, ht⟩
theorem write_ok {D : DK} (h : D.Ok) (s : Int) (t : Bytes) : (D.write s t).2.Ok := by
  unfold write
  split
  · exact h
  · split
    · exact h
    · rename_i hv
      split
      · exact h
      · rename_i ht
        exact count_ok (push_ok h s t (by simpa using hv) (by simpa using ht))
theorem write_n (D : DK) (s : Int) (t : Bytes) : (D.write s t).2.n = D.n := by
  unfold write
  repeat' split
  all_goals first | rfl | exact count_n _
theorem flush_ok {D : DK} (h : D.Ok) : D.flush.Ok := by
  have h1 := settle_ok D.q h h.q
  exact ⟨h1.n1, h1.n2, h1.st, h1.el, fun p hp => by simp [flush] at hp, h1.arm⟩
theorem sync_ok {D : DK} (h : D.Ok) : D.sync.2.Ok := by
  unfold sync
  split
  · exact h
  · split
    · exact count_ok h
    · exact flush_ok (count_ok h)
theorem sync_n (D : DK) : D.sync.2.n = D.n := by
  unfold sync
  split
  · rfl
  · split
    · exact count_n D
    · exact (settle_n _ _).trans (count_n D)
theorem start_ok {D : DK} (h : D.Ok) : D.start.Ok := ⟨h.n1, h.n2, h.st, h.el, h.q, fun a w b ha => by simp [start] at ha⟩
theorem setArm_ok {D : DK} (h : D.Ok) (a w b : Int) (ha : a ≤ 9223372036854775807) : (D.setArm a w b).Ok := by
  unfold setArm
  split
  · exact h
  · refine ⟨h.n1, h.n2, h.st, h.el, h.q, fun a' w' b' h' => ?_⟩
    by_cases h0 : 0 ≤ a
    · simp [h0] at h'; omega
    · simp [h0] at h'
theorem setArm_n (D : DK) (a w b : Int) : (D.setArm a w b).n = D.n := by unfold setArm; split <;> rfl
theorem rot_ok {D : DK} (h : D.Ok) (s a m : Int) : (D.rot s a m).Ok := by
  unfold rot
  split
  · refine ⟨h.n1, h.n2, fun i hi => ?_, h.el, h.q, h.arm⟩
    show (if i = s.toNat then _ else _ : Bytes).length = 64
    split
    · simp only [flip, List.length_set]; exact h.st i hi
    · exact h.st i hi
  · exact h
theorem rot_n (D : DK) (s a m : Int) : (D.rot s a m).n = D.n := by unfold rot; split <;> rfl
theorem stale_ok {D : DK} (h : D.Ok) (s : Int) : (D.stale s).Ok := by
  unfold stale
  split
  · refine ⟨h.n1, h.n2, fun i hi => ?_, h.el, h.q, h.arm⟩
    show (if i = s.toNat then _ else _ : Bytes).length = 64
    split
    · exact h.el i hi
    · exact h.st i hi
  · exact h
theorem stale_n (D : DK) (s : Int) : (D.stale s).n = D.n := by unfold stale; split <;> rfl
theorem new_ok (n : Nat) (h1 : 1 ≤ n) (h2 : n ≤ 4000) : (DK.new n).Ok :=
  ⟨h1, h2, fun _ _ => by simp [new], fun _ _ => by simp [new], fun p hp => by simp [new] at hp, fun a w b ha => by simp [new] at ha⟩
end DK
end Go.Proofs.YtpmkgedlnanjiaaGreatDoor
