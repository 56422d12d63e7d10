/-
  Journal, plain laws: a disk that is on and is not armed: what is written is there; a journal is opened, records are added.
-/
import Derived.Test.YtpmkgedlnanjiaaGreatDoorJnA
namespace Go.Proofs.YtpmkgedlnanjiaaGreatDoor
set_option linter.unusedVariables false
set_option linter.unusedSimpArgs false
open Go
namespace DK
theorem last_snoc (l : List (Nat × Bytes)) (p : Nat × Bytes) (s : Nat) (d : Bytes) : last (l ++ [p]) s d = if p.1 = s then p.2 else last l s d := by
  unfold last
  rw [List.foldl_append]
  rfl
theorem last_len : ∀ (l : List (Nat × Bytes)) (s : Nat) (d : Bytes), d.length = 64 → (∀ p ∈ l, p.2.length = 64) → (last l s d).length = 64
  | [], s, d, h, _ => h
  | p :: l, s, d, h, hp => by
    show (last l s (if p.1 = s then p.2 else d)).length = 64
    refine last_len l s _ ?_ (fun q hq => hp q (List.mem_cons_of_mem _ hq))
    split
    · exact hp p (List.mem_cons_self ..)
    · exact h
theorem settle_cur (i : Nat) : ∀ (l : List (Nat × Bytes)) (D : DK), (D.st i).length = 64 → (∀ p ∈ l, p.2.length = 64) → (D.settle l).st i = last l i (D.st i)
  | [], D, _, _ => rfl
  | p :: l, D, h, hp => by
    have h2 := hp p (List.mem_cons_self ..)
    have h3 : (D.put p.1 p.2).st i = if p.1 = i then p.2 else D.st i := by
      unfold put
      by_cases e : p.1 = i
      · subst e
        simp only [if_true]
        rw [List.drop_of_length_le (by omega), List.append_nil]
      · have e' : ¬ i = p.1 := fun h => e h.symm
        simp only [if_neg e, if_neg e']
    show ((D.put p.1 p.2).settle l).st i = last l i (if p.1 = i then p.2 else D.st i)
    rw [settle_cur i l (D.put p.1 p.2) (by rw [h3]; split; exact h2; exact h) (fun q hq => hp q (List.mem_cons_of_mem _ hq)), h3]
end DK
namespace Jn
/-- A disk that is on and is not armed. -/
structure On (D : DK) : Prop where
  off : D.off = false
  arm : D.arm = none
  ok : D.Ok
theorem On.cur_len {D : DK} (h : On D) {i : Nat} (hi : i < D.n) : (D.cur i).length = 64 := DK.last_len _ _ _ (h.ok.st i hi) (fun p hp => (h.ok.q p hp).2)
theorem On.write {D : DK} (h : On D) {p : Nat} {s : Bytes} (hp : p < D.n) (hs : s.length = 64) : D.write (p : Int) s = (0, D.push (p : Int) s) ∧ On (D.push (p : Int) s) ∧ ∀ i, (D.push (p : Int) s).cur i = if p = i then s else D.cur i := by
  have hv : D.valid (p : Int) = true := by unfold DK.valid; exact decide_eq_true ⟨by omega, by omega⟩
  refine ⟨?_, ⟨h.off, h.arm, DK.push_ok h.ok _ _ hv hs⟩, fun i => ?_⟩
  · unfold DK.write
    rw [h.off, if_neg (by decide), hv, if_neg (by decide), if_neg (fun hn => hn hs)]
    unfold DK.count
    have : (D.push (p : Int) s).arm = none := h.arm
    rw [this]
  · unfold DK.cur DK.push
    simp only [Int.toNat_natCast]
    exact DK.last_snoc _ _ _ _
theorem On.writes : ∀ (l : List Bytes) {D : DK} (h : On D) (p : Nat), p + l.length ≤ D.n → (∀ s ∈ l, s.length = 64) →
    (writes D p l).1 = 0 ∧ On (writes D p l).2 ∧ (writes D p l).2.n = D.n ∧ ∀ i, (writes D p l).2.cur i = if p ≤ i ∧ i < p + l.length then l.getD (i - p) [] else D.cur i
  | [], D, h, p, hp, hl => ⟨rfl, h, rfl, fun i => by rw [if_neg (by rw [List.length_nil]; omega)]; rfl⟩
  | s :: r, D, h, p, hp, hl => by
    rw [List.length_cons] at hp
    obtain ⟨h1, h2, h3⟩ := h.write (p := p) (by omega) (hl s (List.mem_cons_self ..))
    have hn : (D.push (p : Int) s).n = D.n := rfl
    obtain ⟨g1, g2, g3, g4⟩ := On.writes r h2 (p + 1) (by rw [hn]; omega) (fun x hx => hl x (List.mem_cons_of_mem _ hx))
    have e : Jn.writes D p (s :: r) = Jn.writes (D.push (p : Int) s) (p + 1) r := by
      show (if (D.write (p : Int) s).1 ≠ 0 then D.write (p : Int) s else Jn.writes (D.write (p : Int) s).2 (p + 1) r) = _
      rw [h1]
      simp
    rw [e]
    refine ⟨g1, g2, g3.trans hn, fun i => ?_⟩
    rw [g4 i, h3 i, List.length_cons]
    by_cases h4 : p = i
    · subst h4
      rw [if_neg (by omega), if_pos rfl, if_pos (by omega), Nat.sub_self]
      rfl
    · by_cases h5 : p + 1 ≤ i ∧ i < p + 1 + r.length
      · rw [if_pos h5, if_pos (by omega), show i - p = (i - (p + 1)) + 1 by omega]
        rfl
      · rw [if_neg h5, if_neg h4, if_neg (by omega)]
theorem On.sync {D : DK} (h : On D) : D.sync = (0, D.flush) ∧ On D.flush ∧ D.flush.n = D.n ∧ D.flush.q = [] ∧ ∀ i, i < D.n → D.flush.cur i = D.cur i := by
  refine ⟨?_, ⟨(DK.settle_off _ _).trans h.off, (DK.settle_arm _ _).trans h.arm, DK.flush_ok h.ok⟩, DK.settle_n _ _, rfl, fun i hi => ?_⟩
  · have hc : D.count = (0, D) := by unfold DK.count; rw [h.arm]
    unfold DK.sync
    rw [h.off, if_neg (by decide), hc, if_neg (by simp)]
  · show (D.settle D.q).st i = DK.last D.q i (D.st i)
    exact DK.settle_cur i D.q D (h.ok.st i hi) (fun p hp => (h.ok.q p hp).2)
theorem On.put {D : DK} (h : On D) (p : Nat) (l : List Bytes) (hp : p + l.length ≤ D.n) (hl : ∀ s ∈ l, s.length = 64) :
    (put D p l).1 = 0 ∧ On (put D p l).2 ∧ (put D p l).2.n = D.n ∧ (put D p l).2.q = [] ∧ ∀ i, i < D.n → (put D p l).2.cur i = if p ≤ i ∧ i < p + l.length then l.getD (i - p) [] else D.cur i := by
  obtain ⟨h1, h2, h3, h4⟩ := On.writes l h p hp hl
  obtain ⟨g1, g2, g3, g4, g5⟩ := h2.sync
  have e : Jn.put D p l = (0, (Jn.writes D p l).2.flush) := by
    unfold Jn.put
    rw [h1, if_neg (by decide), g1]
  rw [e]
  exact ⟨rfl, g2, g3.trans h3, g4, fun i hi => by rw [g5 i (by rw [h3]; exact hi), h4 i]⟩
theorem On.put1 {D : DK} (h : On D) (p : Nat) (s : Bytes) (hp : p < D.n) (hs : s.length = 64) :
    (Jn.put D p [s]).1 = 0 ∧ On (Jn.put D p [s]).2 ∧ (Jn.put D p [s]).2.n = D.n ∧ (Jn.put D p [s]).2.q = [] ∧ ∀ i, i < D.n → (Jn.put D p [s]).2.cur i = if i = p then s else D.cur i := by
  obtain ⟨h1, h2, h3, h4, h5⟩ := h.put p [s] (by rw [List.length_cons, List.length_nil]; omega) (fun x hx => by rw [List.mem_singleton.1 hx]; exact hs)
  refine ⟨h1, h2, h3, h4, fun i hi => ?_⟩
  rw [h5 i hi]
  by_cases e : i = p
  · subst e
    rw [if_pos (by simp), if_pos rfl, Nat.sub_self]
    rfl
  · rw [if_neg (by rw [List.length_cons, List.length_nil]; omega), if_neg e]
/-! ### A journal on a disk -/
section
variable (sm : Bytes → Bytes)
/-- What Open would find. -/
structure At (D : DK) (c : Nat) (l : List Bytes) : Prop where
  n3 : 3 ≤ D.n
  cn : c + 2 ≤ D.n
  hd : maxC (cnt sm 0 (D.cur 0) (D.n - 2)) (cnt sm 1 (D.cur 1) (D.n - 2)) = some c
  fd : ∃ t, found sm D c = some t ∧ records t = some l
/-- Both heads are as they should be. -/
def Neat (D : DK) (c : Nat) : Prop := ∀ p, p < 2 → D.cur p = head sm p c ∨ (c = 0 ∧ D.cur p = zero)
end
theorem Neat.cnt {sm : Bytes → Bytes} (hs : ∀ s, (sm s).length = 16) {D : DK} {c room : Nat} (h : Neat sm D c) (hc : c ≤ room) (hr : room < 100000000) : maxC (cnt sm 0 (D.cur 0) room) (cnt sm 1 (D.cur 1) room) = some c := by
  have h1 : ∀ p, p < 2 → Jn.cnt sm p (D.cur p) room = some c := fun p hp => by
    rcases h p hp with e | ⟨rfl, e⟩
    · rw [e]
      exact cnt_head hs hc hr
    · rw [e]
      unfold Jn.cnt
      rw [if_pos rfl]
  rw [h1 0 (by decide), h1 1 (by decide)]
  show some (max c c) = some c
  rw [Nat.max_self]
theorem Neat.mend {sm : Bytes → Bytes} {D E : DK} {c p : Nat} (h : Neat sm D c) (hp : p < 2) : mend sm E p c (D.cur p) = (0, E) := by
  unfold Jn.mend
  rw [if_pos (h p hp)]
theorem found_congr {sm : Bytes → Bytes} {D E : DK} : ∀ {c : Nat}, (∀ i, i < c → D.cur (2 + i) = E.cur (2 + i)) → found sm D c = found sm E c
  | 0, _ => rfl
  | c + 1, h => by
    unfold found
    rw [found_congr (c := c) (fun i hi => h i (by omega)), h c (by omega)]
theorem open_neat {sm : Bytes → Bytes} {D : DK} {c : Nat} {l : List Bytes} (h : On D) (ha : At sm D c l) (hn : Neat sm D c) : openJ sm D = ((0, some ⟨D.n, c, l, false⟩), D) := by
  obtain ⟨t, h1, h2⟩ := ha.fd
  have h3 := ha.n3
  unfold openJ
  rw [h.off, if_neg (by decide), if_neg (by omega), ha.hd]
  simp only
  rw [h1, Option.bind_some, h2]
  simp only
  rw [hn.mend (E := D) (by decide : 0 < 2)]
  simp only [ne_eq, not_true_eq_false, if_false]
  rw [hn.mend (E := D) (by decide : 1 < 2)]
  simp
theorem new_on {n : Nat} (h1 : 1 ≤ n) (h2 : n ≤ 4000) : On (DK.new n) := ⟨rfl, rfl, DK.new_ok n h1 h2⟩
theorem new_neat (sm : Bytes → Bytes) (n : Nat) : Neat sm (DK.new n) 0 := fun p hp => .inr ⟨rfl, rfl⟩
theorem new_at {sm : Bytes → Bytes} (hs : ∀ s, (sm s).length = 16) {n : Nat} (h1 : 3 ≤ n) (h2 : n ≤ 4000) : At sm (DK.new n) 0 [] :=
  ⟨h1, by show 0 + 2 ≤ n; omega, (new_neat sm n).cnt hs (Nat.zero_le _) (by show n - 2 < _; omega), [], rfl, by decide⟩
/-- The pieces behind those that are there. -/
theorem found_more {sm : Bytes → Bytes} (hs : ∀ s, (sm s).length = 16) {D E : DK} {c : Nat} {t : Bytes} (ht : found sm D c = some t) (hl : ∀ i, i < c → E.cur (2 + i) = D.cur (2 + i)) {ps : List Bytes}
    (hx : ∀ x ∈ ps, 1 ≤ x.length ∧ x.length ≤ 46) (hc : ∀ i, i < ps.length → E.cur (2 + (c + i)) = sector sm (2 + (c + i)) (ps.getD i [])) : ∀ k, k ≤ ps.length → found sm E (c + k) = some (t ++ (ps.take k).flatten)
  | 0, _ => by
    rw [Nat.add_zero, List.take_zero, List.flatten_nil, List.append_nil, ← ht]
    exact (found_congr (fun i hi => (hl i hi).symm)).symm
  | k + 1, hk => by
    have h1 := found_more hs ht hl hx hc k (by omega)
    have h2 := hc k (by omega)
    have h3 : ps.getD k [] = ps[k]'(by omega) := by rw [List.getD_eq_getElem?_getD, List.getElem?_eq_getElem (by omega)]; rfl
    have h4 := hx (ps[k]'(by omega)) (List.getElem_mem _)
    rw [h3] at h2
    rw [← Nat.add_assoc]
    unfold found
    rw [h1]
    simp only
    rw [h2, piece_sector hs h4.1 h4.2, List.take_succ_eq_append_getElem (by omega), List.flatten_append, List.flatten_singleton]
    simp
theorem sectors_len (sm : Bytes → Bytes) : ∀ (p : Nat) (ps : List Bytes), (sectors sm p ps).length = ps.length
  | _, [] => rfl
  | p, s :: r => by
    show (sectors sm (p + 1) r).length + 1 = r.length + 1
    rw [sectors_len sm (p + 1) r]
theorem sectors_get (sm : Bytes → Bytes) : ∀ (p : Nat) (ps : List Bytes) (i : Nat), i < ps.length → (sectors sm p ps).getD i [] = sector sm (p + i) (ps.getD i [])
  | _, [], i, h => by simp at h
  | p, s :: r, 0, _ => rfl
  | p, s :: r, i + 1, h => by
    have := sectors_get sm (p + 1) r i (by simpa using h)
    show (sectors sm (p + 1) r).getD i [] = sector sm (p + (i + 1)) (r.getD i [])
    rw [this, show p + 1 + i = p + (i + 1) by omega]
theorem sectors_64 {sm : Bytes → Bytes} (hs : ∀ s, (sm s).length = 16) : ∀ (p : Nat) (ps : List Bytes), ∀ x ∈ sectors sm p ps, x.length = 64
  | _, [], x, h => by simp [sectors] at h
  | p, s :: r, x, h => by
    rcases List.mem_cons.1 (show x ∈ sector sm p s :: sectors sm (p + 1) r from h) with rfl | h
    · exact sealed_len hs _ _
    · exact sectors_64 hs (p + 1) r x h
/-- All steps of an Append. -/
theorem steps_on {sm : Bytes → Bytes} (hs : ∀ s, (sm s).length = 16) {D : DK} (h : On D) {c : Nat} {ps : List Bytes} (hc : 2 + c + ps.length ≤ D.n) (hp : ∀ x ∈ ps, 1 ≤ x.length ∧ x.length ≤ 46) :
    ∃ E, steps D (plan sm c ps) = (0, E) ∧ On E ∧ E.n = D.n ∧ E.q = [] ∧ (∀ p, p < 2 → E.cur p = head sm p (c + ps.length)) ∧ (∀ i, i < c → E.cur (2 + i) = D.cur (2 + i)) ∧ ∀ i, i < ps.length → E.cur (2 + (c + i)) = sector sm (2 + (c + i)) (ps.getD i []) := by
  have hn := h.ok.n1
  obtain ⟨a1, a2, a3, a4, a5⟩ := h.put (2 + c) (ps.map (fun _ => zero)) (by rw [List.length_map]; exact hc) (fun s hs => by obtain ⟨x, _, rfl⟩ := List.mem_map.1 hs; exact zero_len)
  obtain ⟨A, hA⟩ : ∃ A, A = (put D (2 + c) (ps.map (fun _ => zero))).2 := ⟨_, rfl⟩
  rw [← hA] at a2 a3 a4 a5
  obtain ⟨b1, b2, b3, b4, b5⟩ := a2.put (2 + c) (sectors sm (2 + c) ps) (by rw [sectors_len, a3]; exact hc) (sectors_64 hs _ _)
  obtain ⟨B, hB⟩ : ∃ B, B = (put A (2 + c) (sectors sm (2 + c) ps)).2 := ⟨_, rfl⟩
  rw [← hB] at b2 b3 b4 b5
  obtain ⟨c1, c2, c3, c4, c5⟩ := b2.put1 1 (head sm 1 (c + ps.length)) (by omega) (sealed_len hs _ _)
  obtain ⟨C, hC⟩ : ∃ C, C = (put B 1 [head sm 1 (c + ps.length)]).2 := ⟨_, rfl⟩
  rw [← hC] at c2 c3 c4 c5
  obtain ⟨d1, d2, d3, d4, d5⟩ := c2.put1 0 (head sm 0 (c + ps.length)) (by omega) (sealed_len hs _ _)
  obtain ⟨F, hF⟩ : ∃ F, F = (put C 0 [head sm 0 (c + ps.length)]).2 := ⟨_, rfl⟩
  rw [← hF] at d2 d3 d4 d5
  have pr : ∀ (X : Int × DK), X.1 = 0 → X = (0, X.2) := fun X hX => by rw [← hX]
  refine ⟨F, ?_, d2, by omega, d4, fun p hp2 => ?_, fun i hi => ?_, fun i hi => ?_⟩
  · unfold plan steps
    rw [a1, if_neg (by decide), ← hA]
    unfold steps
    rw [b1, if_neg (by decide), ← hB]
    unfold steps
    rw [c1, if_neg (by decide), ← hC]
    unfold steps
    rw [d1, if_neg (by decide), ← hF]
    rfl
  · rcases (by omega : p = 0 ∨ p = 1) with rfl | rfl
    · rw [d5 0 (by omega), if_pos rfl]
    · rw [d5 1 (by omega), if_neg (by decide), c5 1 (by omega), if_pos rfl]
  · rw [d5 _ (by omega), if_neg (by omega), c5 _ (by omega), if_neg (by omega), b5 _ (by omega), if_neg (by omega), a5 _ (by omega), if_neg (by omega)]
  · rw [d5 _ (by omega), if_neg (by omega), c5 _ (by omega), if_neg (by omega), b5 _ (by omega), if_pos (by rw [sectors_len]; omega), show 2 + (c + i) - (2 + c) = i by omega, sectors_get sm _ _ _ hi, show 2 + c + i = 2 + (c + i) by omega]
/-- Records are added. -/
theorem append_on {sm : Bytes → Bytes} (hs : ∀ s, (sm s).length = 16) {D : DK} (h : On D) {c : Nat} {l : List Bytes} (ha : At sm D c l) (hn : Neat sm D c) (rs : List Bytes) (hl : rs.any (fun r => decide (2000 < r.length)) = false) (hr : (pieces (text rs)).length ≤ D.n - 2 - c) :
    ∃ E, append sm ⟨D.n, c, l, false⟩ D rs = ((0, ⟨D.n, c + (pieces (text rs)).length, l ++ rs, false⟩), E) ∧ On E ∧ E.n = D.n ∧ (E = D ∨ E.q = []) ∧ At sm E (c + (pieces (text rs)).length) (l ++ rs) ∧ Neat sm E (c + (pieces (text rs)).length) := by
  have hr2 : ¬ room ⟨D.n, c, l, false⟩ < (pieces (text rs)).length := by show ¬ D.n - 2 - c < _; omega
  have h3 := ha.n3
  have h4 := ha.cn
  have h5 := h.ok.n2
  unfold append
  rw [if_neg (by show ¬ false = true; decide), if_neg (by rw [hl]; decide), if_neg hr2]
  by_cases h0 : rs = []
  · subst h0
    rw [if_pos rfl]
    exact ⟨D, by rw [List.append_nil]; rfl, h, rfl, .inl rfl, by rw [List.append_nil]; exact ha, hn⟩
  · rw [if_neg h0]
    obtain ⟨E, e1, e2, e3, e4, e5, e6, e7⟩ := steps_on hs h (c := c) (ps := pieces (text rs)) (by omega) (split_len _ _)
    simp only
    rw [e1, if_neg (by simp)]
    refine ⟨E, rfl, e2, e3, .inr e4, ?_, fun p hp => .inl (e5 p hp)⟩
    obtain ⟨t, t1, t2⟩ := ha.fd
    have hnt : Neat sm E (c + (pieces (text rs)).length) := fun p hp => .inl (e5 p hp)
    refine ⟨by omega, by omega, hnt.cnt hs (by omega) (by omega), t ++ (pieces (text rs)).flatten, ?_, ?_⟩
    · have h9 := found_more hs t1 e6 (split_len _ _) e7 _ (Nat.le_refl _)
      rw [List.take_length] at h9
      exact h9
    · rw [show (pieces (text rs)).flatten = text rs from split_flat _ _ (Nat.le_refl _)]
      exact records_more t2 (fun x hx => by
        have := List.any_eq_false.1 hl x hx
        have := of_decide_eq_false (by simpa using this : decide (2000 < x.length) = false)
        omega)
end Jn
end Go.Proofs.YtpmkgedlnanjiaaGreatDoor
