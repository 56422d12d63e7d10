/-
  Journal, plain laws: what is found on a disk behind a cut; a round of Append, failure, Open, failure, Open.
-/
import Derived.Test.YtpmkgedlnanjiaaGreatDoorJnF
namespace Go.Proofs.YtpmkgedlnanjiaaGreatDoor
set_option linter.unusedVariables false
set_option linter.unusedSimpArgs false
open Go
namespace Jn
/-- What the laws want of a digest. -/
structure Dig (sm : Bytes → Bytes) : Prop where
  len : ∀ s, (sm s).length = 16
  hex : ∀ s, ∀ c ∈ sm s, c ≠ 0
  heads : ∀ p n m, p < 2 → n ≤ 38 → m ≤ 38 → sm (dgt p 8 ++ fit (dgt n 8)) = sm (dgt p 8 ++ fit (dgt m 8)) → n = m
theorem maxC_iff {a b : Option Nat} {c : Nat} : maxC a b = some c ↔ (a = some c ∧ ∀ k, b = some k → k ≤ c) ∨ (b = some c ∧ ∀ k, a = some k → k ≤ c) := by
  cases a with
  | none =>
    constructor
    · intro h
      exact .inr ⟨h, fun k hk => by cases hk⟩
    · rintro (⟨h, _⟩ | ⟨h, _⟩)
      · cases h
      · exact h
  | some x =>
    cases b with
    | none =>
      constructor
      · intro h
        exact .inl ⟨h, fun k hk => by cases hk⟩
      · rintro (⟨h, _⟩ | ⟨h, _⟩)
        · exact h
        · cases h
    | some y =>
      show some (max x y) = some c ↔ _
      constructor
      · intro h
        injection h with h
        by_cases hx : y ≤ x
        · exact .inl ⟨by rw [← h, Nat.max_eq_left hx], fun k hk => by injection hk; omega⟩
        · exact .inr ⟨by rw [← h, Nat.max_eq_right (by omega)], fun k hk => by injection hk; omega⟩
      · rintro (⟨h, h2⟩ | ⟨h, h2⟩)
        · injection h with h
          have := h2 y rfl
          rw [← h, Nat.max_eq_left (by omega)]
        · injection h with h
          have := h2 x rfl
          rw [← h, Nat.max_eq_right (by omega)]
/-- A head that says c. -/
def Good (sm : Bytes → Bytes) (p c : Nat) (x : Bytes) : Prop := x = head sm p c ∨ (c = 0 ∧ x = zero)
theorem Good.cnt {sm : Bytes → Bytes} (hs : ∀ s, (sm s).length = 16) {p c room : Nat} {x : Bytes} (h : Good sm p c x) (hc : c ≤ room) (hr : room < 100000000) : Jn.cnt sm p x room = some c := by
  rcases h with rfl | ⟨rfl, rfl⟩
  · exact cnt_head hs hc hr
  · unfold Jn.cnt
    rw [if_pos rfl]
theorem fit_dgt_inj {n m : Nat} (hn : n < 100000000) (hm : m < 100000000) (h : fit (dgt n 8) = fit (dgt m 8)) : n = m := by
  have l1 : (dgt n 8).length = 8 := dgt_len (w := 7) hn
  have l2 : (dgt m 8).length = 8 := dgt_len (w := 7) hm
  exact dgt_inj (w := 8) (fit_inj (a := dgt n 8) (a' := dgt m 8) (b := []) (b' := []) (by omega) (by omega) (by rw [List.append_nil, List.append_nil]; exact h))
theorem head_take {sm : Bytes → Bytes} (hs : ∀ s, (sm s).length = 16) (p n : Nat) : (head sm p n).take 16 = sm (dgt p 8 ++ fit (dgt n 8)) := by
  show (sm _ ++ _).take 16 = _
  rw [List.take_append_of_le_length (by rw [hs]; omega), List.take_of_length_le (by rw [hs]; omega)]
theorem fit_nz {n : Nat} (hn : n < 100000000) : fit (dgt n 8) ≠ List.replicate 48 0 := by
  intro h
  have l1 : (dgt n 8).length = 8 := dgt_len (w := 7) hn
  have h2 := fit_take (a := dgt n 8) (b := []) (by omega)
  rw [List.append_nil, l1, h] at h2
  have h3 : (0 : UInt8) ∈ dgt n 8 := by rw [← h2]; decide
  have := dgt_isD n 8 0 h3
  cases this
/-- A head that is written over one that counts less. -/
theorem torn_head {sm : Bytes → Bytes} (h : Dig sm) {p n c room b : Nat} {x old : Bytes} (hp : p < 2) (hn : n ≤ 38) (hc : c ≤ n) (hr : room ≤ 38) (ho : Good sm p c old) (hb : b ≤ 64) (hx : x = (head sm p n).take b ++ old.drop b) {k : Nat} (hk : cnt sm p x room = some k) : k = n ∨ k ≤ c := by
  obtain ⟨hk1, hk2 | hk2⟩ := cnt_some hk
  · have hl : (head sm p n).length = 64 := sealed_len h.len _ _
    by_cases hb16 : b ≤ 16
    · have h1 : x.drop 16 = old.drop 16 := by
        rw [hx, List.drop_append, List.drop_of_length_le (by rw [List.length_take]; omega), List.nil_append, List.length_take, hl, Nat.min_eq_left (by omega), List.drop_drop, show b + (16 - b) = 16 by omega]
      rw [hk2, show head sm p k = sealed sm p (dgt k 8) from rfl, sealed_drop h.len] at h1
      rcases ho with rfl | ⟨rfl, rfl⟩
      · rw [show head sm p c = sealed sm p (dgt c 8) from rfl, sealed_drop h.len] at h1
        right
        rw [fit_dgt_inj (by omega) (by omega) h1]
        exact Nat.le_refl _
      · exact absurd (h1.trans (by decide)) (fit_nz (by omega))
    · have h1 : x.take 16 = sm (dgt p 8 ++ fit (dgt n 8)) := by
        rw [hx, List.take_append_of_le_length (by rw [List.length_take]; omega), List.take_take, Nat.min_eq_left (by omega), head_take h.len]
      rw [hk2, head_take h.len] at h1
      exact .inl (h.heads p k n hp (by omega) hn h1)
  · right
    omega
/-- Zeros that are written over a head. -/
theorem torn_zero {sm : Bytes → Bytes} (h : Dig sm) {p c room b : Nat} {x old : Bytes} (ho : ∀ k, cnt sm p old room = some k → k ≤ c) (hx : x = zero.take b ++ old.drop b) {k : Nat} (hk : cnt sm p x room = some k) : k ≤ c := by
  cases b with
  | zero =>
    rw [List.take_zero, List.drop_zero, List.nil_append] at hx
    rw [hx] at hk
    exact ho k hk
  | succ b =>
    obtain ⟨hk1, hk2 | hk2⟩ := cnt_some hk
    · exfalso
      have h1 : x.head? = some 0 := by
        rw [hx, show zero = 0 :: List.replicate 63 0 from rfl, List.take_succ_cons]
        rfl
      have h2 : (sm (dgt p 8 ++ fit (dgt k 8))).head? = some 0 := by
        rw [← head_take h.len, ← hk2, List.head?_take, if_neg (by decide), h1]
      exact h.hex _ 0 (List.mem_of_mem_head? h2) rfl
    · omega
theorem At.good {sm : Bytes → Bytes} {D : DK} {c : Nat} {l : List Bytes} (h : At sm D c l) : ∃ p, p < 2 ∧ Good sm p c (D.cur p) ∧ ∀ k, cnt sm (1 - p) (D.cur (1 - p)) (D.n - 2) = some k → k ≤ c := by
  rcases maxC_iff.1 h.hd with ⟨h1, h2⟩ | ⟨h1, h2⟩
  · exact ⟨0, by decide, (cnt_some h1).2, h2⟩
  · exact ⟨1, by decide, (cnt_some h1).2, h2⟩
theorem max_good {sm : Bytes → Bytes} (hs : ∀ s, (sm s).length = 16) {D : DK} {c p : Nat} (hp : p < 2) (hc : c + 2 ≤ D.n) (hN : D.n ≤ 4000) (hg : Good sm (1 - p) c (D.cur (1 - p))) (hk : ∀ k, cnt sm p (D.cur p) (D.n - 2) = some k → k ≤ c) : maxC (cnt sm 0 (D.cur 0) (D.n - 2)) (cnt sm 1 (D.cur 1) (D.n - 2)) = some c := by
  have h1 := hg.cnt hs (room := D.n - 2) (by omega) (by omega)
  rcases (by omega : p = 0 ∨ p = 1) with rfl | rfl
  · exact maxC_iff.2 (.inr ⟨h1, hk⟩)
  · exact maxC_iff.2 (.inl ⟨h1, hk⟩)
theorem At.move {sm : Bytes → Bytes} {D E : DK} {c : Nat} {l : List Bytes} (h : At sm D c l) (hn : E.n = D.n) (hc : ∀ i, i < c → E.cur (2 + i) = D.cur (2 + i)) (hh : maxC (cnt sm 0 (E.cur 0) (E.n - 2)) (cnt sm 1 (E.cur 1) (E.n - 2)) = some c) : At sm E c l :=
  ⟨by rw [hn]; exact h.n3, by rw [hn]; exact h.cn, hh, by obtain ⟨t, h1, h2⟩ := h.fd; exact ⟨t, by rw [← h1]; exact found_congr hc, h2⟩⟩
/-- One head changes, the other one says what is. -/
theorem At.head {sm : Bytes → Bytes} (hs : ∀ s, (sm s).length = 16) {D E : DK} {c : Nat} {l : List Bytes} (h : At sm D c l) (hN : D.n ≤ 4000) (hn : E.n = D.n) {p : Nat} (hp : p < 2) (hg : Good sm (1 - p) c (D.cur (1 - p))) (ho : ∀ i, i < D.n → i ≠ p → E.cur i = D.cur i) (hk : ∀ k, cnt sm p (E.cur p) (D.n - 2) = some k → k ≤ c) : At sm E c l := by
  have h3 := h.n3
  have h4 := h.cn
  refine h.move hn (fun i hi => ho _ (by omega) (by omega)) (max_good hs (p := p) hp (by omega) (by omega) ?_ ?_)
  · rw [ho (1 - p) (by omega) (by omega)]
    exact hg
  · rw [hn]
    exact hk
theorem mend_good {sm : Bytes → Bytes} {D : DK} {p c : Nat} {s : Bytes} (h : Good sm p c s) : mend sm D p c s = (0, D) := by
  unfold Jn.mend
  rw [if_pos (show s = head sm p c ∨ (c = 0 ∧ s = zero) from h)]
/-- A head is repaired on a disk that is not armed. -/
theorem mend_on {sm : Bytes → Bytes} (hs : ∀ s, (sm s).length = 16) {D : DK} (h : On D) {c p : Nat} (h3 : 3 ≤ D.n) (hp : p < 2) (s : Bytes) (hcur : s = D.cur p) :
    ∃ E, mend sm D p c s = (0, E) ∧ On E ∧ E.n = D.n ∧ Good sm p c (E.cur p) ∧ (∀ i, i < D.n → i ≠ p → E.cur i = D.cur i) ∧ (E = D ∨ E.q = []) := by
  by_cases hg : Good sm p c s
  · exact ⟨D, mend_good hg, h, rfl, by rw [← hcur]; exact hg, fun _ _ _ => rfl, .inl rfl⟩
  · obtain ⟨a1, a2, a3, a4, a5⟩ := h.put1 p zero (by omega) zero_len
    unfold mend
    rw [if_neg (show ¬ (s = head sm p c ∨ (c = 0 ∧ s = zero)) from hg)]
    obtain ⟨A, hA⟩ : ∃ A, A = (put D p [zero]).2 := ⟨_, rfl⟩
    have e1 : put D p [zero] = (0, A) := by rw [hA, ← a1]
    rw [← hA] at a2 a3 a4 a5
    by_cases hc : c = 0
    · rw [if_pos (.inr hc), e1]
      refine ⟨A, rfl, a2, a3, .inr ⟨hc, ?_⟩, fun i hi hne => ?_, .inr a4⟩
      · rw [a5 p (by omega), if_pos rfl]
      · rw [a5 i hi, if_neg hne]
    · rw [if_neg (by rw [e1]; rintro (h | h); exact h rfl; exact hc h), e1]
      obtain ⟨b1, b2, b3, b4, b5⟩ := a2.put1 p (head sm p c) (by omega) (sealed_len hs _ _)
      refine ⟨(put A p [head sm p c]).2, by rw [← b1], b2, b3.trans a3, .inl ?_, fun i hi hne => ?_, .inr b4⟩
      · rw [b5 p (by omega), if_pos rfl]
      · rw [b5 i (by omega), if_neg hne, a5 i hi, if_neg hne]
/-- Open on a disk that is not armed. -/
theorem open_on {sm : Bytes → Bytes} (hs : ∀ s, (sm s).length = 16) {D : DK} (h : On D) (h3 : 3 ≤ D.n) :
    (openJ sm D = ((25, none), D) ∧ ∀ c l, ¬ At sm D c l) ∨ ∃ c l E, At sm D c l ∧ openJ sm D = ((0, some ⟨D.n, c, l, false⟩), E) ∧ On E ∧ E.n = D.n ∧ At sm E c l ∧ Neat sm E c ∧ (E = D ∨ E.q = []) := by
  have hN := h.ok.n2
  unfold openJ
  rw [h.off, if_neg (by decide), if_neg (by omega)]
  cases hm : maxC (cnt sm 0 (D.cur 0) (D.n - 2)) (cnt sm 1 (D.cur 1) (D.n - 2)) with
  | none => exact .inl ⟨rfl, fun c l ha => by have := ha.hd; rw [hm] at this; cases this⟩
  | some c =>
    have hcn : c + 2 ≤ D.n := by
      rcases maxC_iff.1 hm with ⟨h1, _⟩ | ⟨h1, _⟩
      · have := (cnt_some h1).1; omega
      · have := (cnt_some h1).1; omega
    simp only
    cases hf : found sm D c with
    | none => exact .inl ⟨rfl, fun c2 l ha => by
        have h1 := ha.hd
        rw [hm] at h1
        injection h1 with h1
        subst h1
        obtain ⟨t, h2, _⟩ := ha.fd
        rw [hf] at h2
        cases h2⟩
    | some t =>
      rw [Option.bind_some]
      cases hr : records t with
      | none => exact .inl ⟨rfl, fun c2 l ha => by
          have h1 := ha.hd
          rw [hm] at h1
          injection h1 with h1
          subst h1
          obtain ⟨t2, h2, h4⟩ := ha.fd
          rw [hf] at h2
          injection h2 with h2
          subst h2
          rw [hr] at h4
          cases h4⟩
      | some l =>
        have ha : At sm D c l := ⟨h3, hcn, hm, t, hf, hr⟩
        obtain ⟨A, e1, a1, a2, a3, a4, a5⟩ := mend_on hs h (c := c) h3 (p := 0) (by decide) (D.cur 0) rfl
        obtain ⟨B, e2, b1, b2, b3, b4, b5⟩ := mend_on hs a1 (c := c) (by omega) (p := 1) (by decide) (D.cur 1) (a4 1 (by omega) (by decide)).symm
        simp only
        rw [e1, if_neg (fun h => h rfl), e2]
        have hneat : Neat sm B c := fun p hp => by
          rcases (by omega : p = 0 ∨ p = 1) with rfl | rfl
          · rw [b4 0 (by omega) (by decide)]
            exact a3
          · exact b3
        refine .inr ⟨c, l, B, ha, rfl, b1, by omega, ha.move (by omega) (fun i hi => ?_) (hneat.cnt hs (by omega) (by omega)), hneat, ?_⟩
        · rw [b4 _ (by omega) (by omega), a4 _ (by omega) (by omega)]
        · rcases b5 with rfl | b5
          · exact a5
          · exact .inr b5
theorem At.uniq {sm : Bytes → Bytes} {D : DK} {c c2 : Nat} {l l2 : List Bytes} (h : At sm D c l) (h2 : At sm D c2 l2) : c = c2 ∧ l = l2 := by
  have h1 := h.hd
  rw [h2.hd] at h1
  injection h1 with h1
  subst h1
  obtain ⟨t, a, b⟩ := h.fd
  obtain ⟨t2, a2, b2⟩ := h2.fd
  rw [a] at a2
  injection a2 with a2
  subst a2
  rw [b] at b2
  injection b2 with b2
  exact ⟨rfl, b2⟩
theorem open_live {sm : Bytes → Bytes} (hs : ∀ s, (sm s).length = 16) {D : DK} (h : On D) (hq : D.q = []) {c : Nat} {l : List Bytes} (ha : At sm D c l) : ∃ E, openJ sm D = ((0, some ⟨D.n, c, l, false⟩), E) ∧ E.n = D.n ∧ Live sm E c l := by
  rcases open_on hs h ha.n3 with ⟨_, hno⟩ | ⟨c2, l2, E, h1, h2, h3, h4, h5, h6, h7⟩
  · exact absurd ha (hno c l)
  · obtain ⟨rfl, rfl⟩ := ha.uniq h1
    exact ⟨E, h2, h4, h3, h5, h6, by rcases h7 with rfl | h7; exact hq; exact h7⟩
/-- A head is repaired on a disk that may be armed. -/
theorem mend_up {sm : Bytes → Bytes} (h : Dig sm) {D : DK} (hu : Up D) (hN : D.n ≤ 40) {c p : Nat} {l : List Bytes} (ha : At sm D c l) (hp : p < 2) (s : Bytes) (hcur : s = D.cur p) :
    ∃ e E, mend sm D p c s = (e, E) ∧ E.n = D.n ∧ At sm E c l ∧ (∀ i, i < D.n → i ≠ p → E.cur i = D.cur i) ∧ ((e = 0 ∧ Up E) ∨ (e = 24 ∧ Down E)) := by
  have h3 := ha.n3
  have h4 := ha.cn
  by_cases hg : Good sm p c s
  · exact ⟨0, D, mend_good hg, rfl, ha, fun _ _ _ => rfl, .inl ⟨rfl, hu⟩⟩
  · obtain ⟨hgo, hk⟩ : Good sm (1 - p) c (D.cur (1 - p)) ∧ ∀ k, cnt sm p (D.cur p) (D.n - 2) = some k → k ≤ c := by
      obtain ⟨p2, g1, g2, g3⟩ := ha.good
      have hne : p2 ≠ p := fun e => hg (by rw [hcur, ← e]; exact g2)
      obtain rfl : p2 = 1 - p := by omega
      rw [show 1 - (1 - p) = p by omega] at g3
      exact ⟨g2, g3⟩
    have hst := hu.ok.st
    unfold mend
    rw [if_neg (show ¬ (s = head sm p c ∨ (c = 0 ∧ s = zero)) from hg)]
    rcases hu.put p [zero] (by rw [List.length_singleton]; omega) (fun x hx => by rw [List.mem_singleton.1 hx]; exact zero_len) with ⟨A, e1, a1, a2, a3, _⟩ | ⟨A, e1, a1, a2, a3⟩
    · have a4 : ∀ i, i < D.n → A.cur i = if i = p then zero else D.cur i := fun i hi => by
        rw [cur_st a1.q, cur_st hu.q, a3 i hi, List.length_singleton]
        by_cases e : i = p
        · subst e
          rw [if_pos (by omega), if_pos rfl, Nat.sub_self]
          rfl
        · rw [if_neg (by omega), if_neg e]
      have haA : At sm A c l := ha.head h.len (by omega) a2 hp hgo (fun i hi hne => by rw [a4 i hi, if_neg hne]) (fun k hk => by
        rw [a4 p (by omega), if_pos rfl] at hk
        unfold cnt at hk
        rw [if_pos rfl] at hk
        injection hk with hk
        omega)
      by_cases hc : c = 0
      · rw [if_pos (.inr hc), e1]
        exact ⟨0, A, rfl, a2, haA, fun i hi hne => by rw [a4 i hi, if_neg hne], .inl ⟨rfl, a1⟩⟩
      · rw [if_neg (by rw [e1]; rintro (h | h); exact h rfl; exact hc h), e1]
        have hgA : Good sm (1 - p) c (A.cur (1 - p)) := by rw [a4 _ (by omega), if_neg (by omega)]; exact hgo
        have hl : (head sm p c).length = 64 := sealed_len h.len _ _
        rcases a1.put p [head sm p c] (by rw [List.length_singleton]; omega) (fun x hx => by rw [List.mem_singleton.1 hx]; exact hl) with ⟨B, e2, b1, b2, b3, _⟩ | ⟨B, e2, b1, b2, b3⟩
        · have b4 : ∀ i, i < D.n → B.cur i = if i = p then head sm p c else A.cur i := fun i hi => by
            rw [cur_st b1.q, cur_st a1.q, b3 i (by omega), List.length_singleton]
            by_cases e : i = p
            · subst e
              rw [if_pos (by omega), if_pos rfl, Nat.sub_self]
              rfl
            · rw [if_neg (by omega), if_neg e]
          refine ⟨0, B, e2, by omega, haA.head h.len (by omega) b2 hp hgA (fun i hi hne => by rw [b4 i (by omega), if_neg hne]) (fun k hk => ?_), fun i hi hne => by rw [b4 i hi, if_neg hne, a4 i hi, if_neg hne], .inl ⟨rfl, b1⟩⟩
          rw [b4 p (by omega), if_pos rfl, cnt_head h.len (by omega) (by omega)] at hk
          injection hk with hk
          omega
        · obtain ⟨b, hb, b5⟩ := b3.one hl (fun i hi => a1.ok.st i hi) (by omega)
          have b6 : ∀ i, i < D.n → i ≠ p → B.cur i = A.cur i := fun i hi hne => by rw [cur_st b1.q, cur_st a1.q, b5 i (by omega), if_neg hne]
          refine ⟨24, B, e2, by omega, haA.head h.len (by omega) b2 hp hgA (fun i hi hne => b6 i (by omega) hne) (fun k hk => ?_), fun i hi hne => by rw [b6 i hi hne, a4 i hi, if_neg hne], .inr ⟨rfl, b1⟩⟩
          have hz : A.st p = zero := by rw [← cur_st a1.q, a4 p (by omega), if_pos rfl]
          have := torn_head h (p := p) (n := c) (c := 0) (room := A.n - 2) hp (by omega) (by omega) (by omega) (old := zero) (.inr ⟨rfl, rfl⟩) hb (by rw [cur_st b1.q, b5 p (by omega), if_pos rfl, hz]) hk
          omega
    · rw [if_pos (.inl (by rw [e1]; show (24 : Int) ≠ 0; decide)), e1]
      obtain ⟨b, hb, b5⟩ := a3.one zero_len hst (by omega)
      have b6 : ∀ i, i < D.n → i ≠ p → A.cur i = D.cur i := fun i hi hne => by rw [cur_st a1.q, cur_st hu.q, b5 i hi, if_neg hne]
      refine ⟨24, A, rfl, a2, ha.head h.len (by omega) a2 hp hgo b6 (fun k hk2 => ?_), b6, .inr ⟨rfl, a1⟩⟩
      exact torn_zero h (p := p) (room := D.n - 2) hk (b := b) (by rw [cur_st a1.q, b5 p (by omega), if_pos rfl, cur_st hu.q]) hk2
/-- Open on a disk that may be armed. -/
theorem open_up {sm : Bytes → Bytes} (h : Dig sm) {D : DK} (hu : Up D) (hN : D.n ≤ 40) {c : Nat} {l : List Bytes} (ha : At sm D c l) :
    ∃ e jo E, openJ sm D = ((e, jo), E) ∧ E.n = D.n ∧ At sm E c l ∧ ((e = 0 ∧ jo = some ⟨D.n, c, l, false⟩ ∧ Up E) ∨ (e = 24 ∧ jo = none ∧ Down E)) := by
  have h3 := ha.n3
  obtain ⟨t, t1, t2⟩ := ha.fd
  unfold openJ
  rw [hu.off, if_neg (by decide), if_neg (by omega), ha.hd]
  simp only
  rw [t1, Option.bind_some, t2]
  simp only
  obtain ⟨e, A, e1, a1, a2, a3, a4⟩ := mend_up h hu hN ha (p := 0) (by decide) (D.cur 0) rfl
  rw [e1]
  rcases a4 with ⟨rfl, a4⟩ | ⟨rfl, a4⟩
  · rw [if_neg (fun h => h rfl)]
    obtain ⟨e, B, e2, b1, b2, b3, b4⟩ := mend_up h a4 (by omega) a2 (p := 1) (by decide) (D.cur 1) (a3 1 (by omega) (by decide)).symm
    simp only
    rw [e2]
    rcases b4 with ⟨rfl, b4⟩ | ⟨rfl, b4⟩
    · exact ⟨0, _, B, rfl, by omega, b2, .inl ⟨rfl, by simp, b4⟩⟩
    · exact ⟨24, _, B, rfl, by omega, b2, .inr ⟨rfl, by simp, b4⟩⟩
  · rw [if_pos (by show (24 : Int) ≠ 0; decide)]
    exact ⟨24, none, A, rfl, a1, a2, .inr ⟨rfl, rfl, a4⟩⟩
/-- The steps of an Append on a disk that may be armed. -/
theorem steps_up {sm : Bytes → Bytes} (h : Dig sm) {D : DK} (hu : Up D) (hN : D.n ≤ 40) {c : Nat} {l l2 : List Bytes} (ha : At sm D c l) (hn : Neat sm D c) {ps : List Bytes} (hc : 2 + c + ps.length ≤ D.n) (hp : ∀ x ∈ ps, 1 ≤ x.length ∧ x.length ≤ 46)
    (hl2 : ∀ t, found sm D c = some t → records (t ++ ps.flatten) = some l2) :
    ∃ e E, steps D (plan sm c ps) = (e, E) ∧ E.n = D.n ∧ ((e = 0 ∧ Up E ∧ At sm E (c + ps.length) l2) ∨ (e = 24 ∧ Down E ∧ (At sm E c l ∨ At sm E (c + ps.length) l2))) := by
  have h3 := ha.n3
  have h4 := ha.cn
  have hst := hu.ok.st
  obtain ⟨t, t1, t2⟩ := ha.fd
  -- where only free sectors change
  have hfree : ∀ E : DK, E.n = D.n → (∀ i, i < 2 + c → E.cur i = D.cur i) → At sm E c l := fun E hE hi => ha.move hE (fun i h => hi _ (by omega)) (by rw [hi 0 (by omega), hi 1 (by omega), hE]; exact ha.hd)
  unfold plan steps
  rcases hu.put (2 + c) (ps.map (fun _ => zero)) (by rw [List.length_map]; exact hc) (fun s hs => by obtain ⟨x, _, rfl⟩ := List.mem_map.1 hs; exact zero_len) with ⟨A, e1, a1, a2, a3, _⟩ | ⟨A, e1, a1, a2, k, b, hk, hb, _, a3⟩
  rotate_left
  · rw [e1, if_pos (by show (24 : Int) ≠ 0; decide)]
    exact ⟨24, A, rfl, a2, .inr ⟨rfl, a1, .inl (hfree A a2 (fun i hi => by rw [cur_st a1.q, cur_st hu.q, a3 i (by omega), if_neg (by omega), if_neg (by omega)]))⟩⟩
  rw [e1, if_neg (fun h => h rfl)]
  unfold steps
  have a4 : ∀ i, i < 2 + c → A.cur i = D.cur i := fun i hi => by rw [cur_st a1.q, cur_st hu.q, a3 i (by omega), if_neg (by omega)]
  rcases a1.put (2 + c) (sectors sm (2 + c) ps) (by rw [sectors_len, a2]; exact hc) (sectors_64 h.len _ _) with ⟨B, e2, b1, b2, b3, _⟩ | ⟨B, e2, b1, b2, k, b, hk, hb, _, b3⟩
  rotate_left
  · rw [e2, if_pos (by show (24 : Int) ≠ 0; decide)]
    exact ⟨24, B, rfl, by omega, .inr ⟨rfl, b1, .inl (hfree B (by omega) (fun i hi => by rw [cur_st b1.q, b3 i (by omega), if_neg (by omega), if_neg (by omega), ← cur_st a1.q, a4 i hi]))⟩⟩
  rw [e2, if_neg (fun h => h rfl)]
  unfold steps
  have b4 : ∀ i, i < 2 + c → B.cur i = D.cur i := fun i hi => by rw [cur_st b1.q, b3 i (by omega), if_neg (by omega), ← cur_st a1.q, a4 i hi]
  have b5 : ∀ i, i < ps.length → B.cur (2 + (c + i)) = sector sm (2 + (c + i)) (ps.getD i []) := fun i hi => by
    rw [cur_st b1.q, b3 _ (by omega), if_pos (by rw [sectors_len]; omega), show 2 + (c + i) - (2 + c) = i by omega, sectors_get sm _ _ _ hi, show 2 + c + i = 2 + (c + i) by omega]
  have haB : At sm B c l := hfree B (by omega) b4
  -- what is found once a head says so
  have hnew : ∀ E : DK, E.n = D.n → (∀ i, 2 ≤ i → i < 2 + c + ps.length → E.cur i = B.cur i) → maxC (cnt sm 0 (E.cur 0) (E.n - 2)) (cnt sm 1 (E.cur 1) (E.n - 2)) = some (c + ps.length) → At sm E (c + ps.length) l2 := fun E hE hi hm => by
    refine ⟨by omega, by omega, hm, t ++ ps.flatten, ?_, hl2 t t1⟩
    have h9 := found_more h.len (E := E) t1 (fun i h => by rw [hi _ (by omega) (by omega), b4 _ (by omega)]) hp (fun i h => by rw [hi _ (by omega) (by omega), b5 i h]) _ (Nat.le_refl _)
    rw [List.take_length] at h9
    exact h9
  have hg0 : Good sm 0 c (B.cur 0) := by rw [b4 0 (by omega)]; exact hn 0 (by decide)
  have hg1 : Good sm 1 c (B.cur 1) := by rw [b4 1 (by omega)]; exact hn 1 (by decide)
  have hl1 : (head sm 1 (c + ps.length)).length = 64 := sealed_len h.len _ _
  have hl0 : (head sm 0 (c + ps.length)).length = 64 := sealed_len h.len _ _
  rcases b1.put 1 [head sm 1 (c + ps.length)] (by rw [List.length_singleton]; omega) (fun x hx => by rw [List.mem_singleton.1 hx]; exact hl1) with ⟨C, e3, c1, c2, c3, _⟩ | ⟨C, e3, c1, c2, c3⟩
  rotate_left
  · rw [e3, if_pos (by show (24 : Int) ≠ 0; decide)]
    obtain ⟨b, hb, c5⟩ := c3.one hl1 b1.ok.st (by omega)
    have c6 : ∀ i, i < D.n → i ≠ 1 → C.cur i = B.cur i := fun i hi hne => by rw [cur_st c1.q, cur_st b1.q, c5 i (by omega), if_neg hne]
    refine ⟨24, C, rfl, by omega, .inr ⟨rfl, c1, ?_⟩⟩
    have htorn : ∀ k, cnt sm 1 (C.cur 1) (B.n - 2) = some k → k = c + ps.length ∨ k ≤ c := fun k hk => torn_head h (p := 1) (room := B.n - 2) (by decide) (by omega) (by omega) (by omega) (old := B.cur 1) hg1 hb (by rw [cur_st c1.q, c5 1 (by omega), if_pos rfl, cur_st b1.q]) hk
    cases hcn : cnt sm 1 (C.cur 1) (B.n - 2) with
    | none => exact .inl (haB.head h.len (by omega) c2 (p := 1) (by decide) hg0 (fun i hi hne => c6 i (by omega) hne) (fun k hk => by rw [hcn] at hk; cases hk))
    | some k =>
      rcases htorn k hcn with rfl | hle
      · refine .inr (hnew C (by omega) (fun i h1 h2 => c6 i (by omega) (by omega)) (maxC_iff.2 (.inr ⟨by rw [c2]; exact hcn, fun k2 hk2 => ?_⟩)))
        rw [c6 0 (by omega) (by decide), hg0.cnt h.len (by omega) (by omega)] at hk2
        injection hk2 with hk2
        omega
      · exact .inl (haB.head h.len (by omega) c2 (p := 1) (by decide) hg0 (fun i hi hne => c6 i (by omega) hne) (fun k2 hk => by rw [hcn] at hk; injection hk with hk; omega))
  rw [e3, if_neg (fun h => h rfl)]
  unfold steps
  have c4 : ∀ i, i < D.n → C.cur i = if i = 1 then head sm 1 (c + ps.length) else B.cur i := fun i hi => by
    rw [cur_st c1.q, cur_st b1.q, c3 i (by omega), List.length_singleton]
    by_cases e : i = 1
    · subst e
      rw [if_pos (by omega), if_pos rfl]
      rfl
    · rw [if_neg (by omega), if_neg e]
  have hg1C : Good sm 1 (c + ps.length) (C.cur 1) := .inl (by rw [c4 1 (by omega), if_pos rfl])
  have hg0C : Good sm 0 c (C.cur 0) := by rw [c4 0 (by omega), if_neg (by decide)]; exact hg0
  have haC : At sm C (c + ps.length) l2 := hnew C (by omega) (fun i h1 h2 => by rw [c4 i (by omega), if_neg (by omega)]) (max_good h.len (p := 0) (by decide) (by omega) (by omega) hg1C (fun k hk => by
    rw [hg0C.cnt h.len (by omega) (by omega)] at hk
    injection hk with hk
    omega))
  rcases c1.put 0 [head sm 0 (c + ps.length)] (by rw [List.length_singleton]; omega) (fun x hx => by rw [List.mem_singleton.1 hx]; exact hl0) with ⟨F, e4, d1, d2, d3, _⟩ | ⟨F, e4, d1, d2, d3⟩
  rotate_left
  · rw [e4, if_pos (by show (24 : Int) ≠ 0; decide)]
    obtain ⟨b, hb, d5⟩ := d3.one hl0 c1.ok.st (by omega)
    have d6 : ∀ i, i < C.n → i ≠ 0 → F.cur i = C.cur i := fun i hi hne => by rw [cur_st d1.q, cur_st c1.q, d5 i (by omega), if_neg hne]
    refine ⟨24, F, rfl, by omega, .inr ⟨rfl, d1, .inr (haC.head h.len (by omega) d2 (p := 0) (by decide) hg1C d6 (fun k hk => ?_))⟩⟩
    have := torn_head h (p := 0) (n := c + ps.length) (c := c) (room := C.n - 2) (by decide) (by omega) (by omega) (by omega) (old := C.cur 0) hg0C hb (by rw [cur_st d1.q, d5 0 (by omega), if_pos rfl, cur_st c1.q]) hk
    omega
  rw [e4, if_neg (fun h => h rfl)]
  have d4 : ∀ i, i < C.n → i ≠ 0 → F.cur i = C.cur i := fun i hi hne => by rw [cur_st d1.q, cur_st c1.q, d3 i hi, if_neg (by rw [List.length_singleton]; omega)]
  have d5 : F.cur 0 = head sm 0 (c + ps.length) := by rw [cur_st d1.q, d3 0 (by omega), if_pos (by rw [List.length_singleton]; omega)]; rfl
  refine ⟨0, F, rfl, by omega, .inl ⟨rfl, d1, haC.head h.len (by omega) d2 (p := 0) (by decide) hg1C d4 (fun k hk => ?_)⟩⟩
  rw [d5, cnt_head h.len (by omega) (by omega)] at hk
  injection hk with hk
  omega
/-- An Append on a disk that may be armed. -/
theorem append_up {sm : Bytes → Bytes} (h : Dig sm) {D : DK} (hu : Up D) (hN : D.n ≤ 40) {c : Nat} {l : List Bytes} (ha : At sm D c l) (hn : Neat sm D c) (rs : List Bytes) :
    ∃ f j E, append sm ⟨D.n, c, l, false⟩ D rs = ((f, j), E) ∧ E.n = D.n ∧ (Up E ∨ Down E) ∧ ((f = 0 ∧ ∃ c2, At sm E c2 (l ++ rs)) ∨ (f = 24 ∧ ∃ c2 l2, At sm E c2 l2 ∧ (l2 = l ∨ l2 = l ++ rs)) ∨ (f ≠ 0 ∧ f ≠ 24 ∧ At sm E c l)) := by
  unfold append
  rw [if_neg (by show ¬ false = true; decide)]
  by_cases h1 : rs.any (fun r => decide (2000 < r.length)) = true
  · rw [if_pos h1]
    exact ⟨3, _, D, rfl, rfl, .inl hu, .inr (.inr ⟨by decide, by decide, ha⟩)⟩
  rw [if_neg h1]
  by_cases h2 : room ⟨D.n, c, l, false⟩ < (pieces (text rs)).length
  · rw [if_pos h2]
    exact ⟨23, _, D, rfl, rfl, .inl hu, .inr (.inr ⟨by decide, by decide, ha⟩)⟩
  rw [if_neg h2]
  by_cases h3 : rs = []
  · rw [if_pos h3]
    exact ⟨0, _, D, rfl, rfl, .inl hu, .inl ⟨rfl, c, by rw [h3, List.append_nil]; exact ha⟩⟩
  rw [if_neg h3]
  have h4 := ha.cn
  obtain ⟨e, E, e1, e2, e3⟩ := steps_up h hu hN ha hn (ps := pieces (text rs)) (l2 := l ++ rs) (by have : ¬ D.n - 2 - c < _ := h2; omega) (split_len _ _) (fun t ht => by
    obtain ⟨t2, t3, t4⟩ := ha.fd
    rw [ht] at t3
    injection t3 with t3
    subst t3
    rw [show (pieces (text rs)).flatten = text rs from split_flat _ _ (Nat.le_refl _)]
    refine records_more t4 (fun x hx => ?_)
    have := List.any_eq_false.1 (by simpa using h1 : rs.any (fun r => decide (2000 < r.length)) = false) x hx
    have := of_decide_eq_false (by simpa using this : decide (2000 < x.length) = false)
    omega)
  simp only
  rw [e1]
  rcases e3 with ⟨rfl, e4, e5⟩ | ⟨rfl, e4, e5⟩
  · rw [if_neg (fun h => h rfl)]
    exact ⟨0, _, E, rfl, e2, .inl e4, .inl ⟨rfl, _, e5⟩⟩
  · rw [if_pos (by show (24 : Int) ≠ 0; decide)]
    exact ⟨24, _, E, rfl, e2, .inr e4, .inr (.inl ⟨rfl, e5.elim (fun h => ⟨_, _, h, .inl rfl⟩) (fun h => ⟨_, _, h, .inr rfl⟩)⟩)⟩
theorem rest_on {E : DK} (h : Up E ∨ Down E) : On (E.fail 0 0).start ∧ (E.fail 0 0).start.q = [] ∧ (E.fail 0 0).start.n = E.n ∧ ∀ i, (E.fail 0 0).start.cur i = E.cur i := by
  rcases h with h | h
  · have h1 := h.off
    have h2 := h.q
    have h3 := h.ok
    obtain ⟨n, st, el, q, off, arm⟩ := E
    simp only at h1 h2
    subst h1 h2
    have e : DK.start (DK.fail ⟨n, st, el, [], false, arm⟩ 0 0) = ⟨n, st, el, [], false, none⟩ := by
      unfold DK.fail
      rw [if_neg (by simp)]
      unfold DK.down DK.cut DK.start
      simp [DK.settle, DK.tear]
    rw [e]
    exact ⟨⟨rfl, rfl, ⟨h3.n1, h3.n2, h3.st, h3.el, h3.q, fun a w b ha => by cases ha⟩⟩, rfl, rfl, fun _ => rfl⟩
  · have h1 := h.off
    have h2 := h.q
    have h3 := h.ok
    obtain ⟨n, st, el, q, off, arm⟩ := E
    simp only at h1 h2
    subst h1 h2
    have e : DK.start (DK.fail ⟨n, st, el, [], true, arm⟩ 0 0) = ⟨n, st, el, [], false, none⟩ := by
      unfold DK.fail
      rw [if_pos (by simp)]
      rfl
    rw [e]
    exact ⟨⟨rfl, rfl, ⟨h3.n1, h3.n2, h3.st, h3.el, h3.q, fun a w b ha => by cases ha⟩⟩, rfl, rfl, fun _ => rfl⟩
theorem arm_up {D : DK} (h : Up D) {a : Int} (w b : Int) (ha : a ≤ 9223372036854775807) : Up (D.setArm a w b) ∧ (D.setArm a w b).n = D.n ∧ ∀ i, (D.setArm a w b).cur i = D.cur i := by
  have h1 := DK.setArm_ok h.ok a w b ha
  have e : D.setArm a w b = { D with arm := if 0 ≤ a then some (a, w, b) else none } := by
    unfold DK.setArm
    rw [h.off, if_neg (by decide)]
  rw [e] at h1 ⊢
  exact ⟨⟨h.off, h.q, h1⟩, rfl, fun _ => rfl⟩
theorem On.up {D : DK} (h : On D) (hq : D.q = []) : Up D := ⟨h.off, hq, h.ok⟩
theorem At.same {sm : Bytes → Bytes} {D E : DK} {c : Nat} {l : List Bytes} (h : At sm D c l) (hn : E.n = D.n) (hc : ∀ i, E.cur i = D.cur i) : At sm E c l :=
  h.move hn (fun i _ => hc _) (by rw [hc, hc, hn]; exact h.hd)
/-- A round: an Append, the power fails, Open, the power fails, Open. -/
structure Round (sm : Bytes → Bytes) (D : DK) (c : Nat) (l rs : List Bytes) (a1 w b a2 w2 b2 f : Int) (j : J) (E : DK) (g : Int) (jo : Option J) (F : DK) (c2 : Nat) (l2 : List Bytes) (G : DK) : Prop where
  e1 : append sm ⟨D.n, c, l, false⟩ (D.setArm a1 w b) rs = ((f, j), E)
  g1 : openJ sm ((E.fail 0 0).start.setArm a2 w2 b2) = ((g, jo), F)
  k1 : openJ sm (F.fail 0 0).start = ((0, some ⟨D.n, c2, l2, false⟩), G)
  n : G.n = D.n
  live : Live sm G c2 l2
  two : l2 = l ∨ l2 = l ++ rs
  f0 : f = 0 → l2 = l ++ rs
  f1 : f ≠ 0 → f ≠ 24 → l2 = l
  gg : (g = 0 ∧ jo = some ⟨D.n, c2, l2, false⟩) ∨ (g = 24 ∧ jo = none)
  q1 : (D.setArm a1 w b).q = []
  q2 : E.q = []
  q3 : ((E.fail 0 0).start.setArm a2 w2 b2).q = []
  q4 : F.q = []
  q5 : (F.fail 0 0).start.q = []
  n3 : ((E.fail 0 0).start.setArm a2 w2 b2).n = D.n
  n5 : (F.fail 0 0).start.n = D.n
theorem round44 {sm : Bytes → Bytes} (h : Dig sm) {D : DK} {c : Nat} {l : List Bytes} (hl : Live sm D c l) (hN : D.n ≤ 40) (rs : List Bytes) {a1 a2 : Int} (w b w2 b2 : Int) (h1 : a1 ≤ 9223372036854775807) (h2 : a2 ≤ 9223372036854775807) :
    ∃ f j E g jo F c2 l2 G, Round sm D c l rs a1 w b a2 w2 b2 f j E g jo F c2 l2 G := by
  obtain ⟨u1, u2, u3⟩ := arm_up (hl.on.up hl.q) w b h1
  obtain ⟨f, j, E, e1, e2, e3, e4⟩ := append_up h u1 (by omega) (hl.lies.same u2 u3) (fun p hp => by rw [u3]; exact hl.neat p hp) rs
  obtain ⟨o1, o2, o3, o4⟩ := rest_on e3
  obtain ⟨v1, v2, v3⟩ := arm_up (o1.up o2) w2 b2 h2
  obtain ⟨c2, l2, ha, hc1, hc2, hc3⟩ : ∃ c2 l2, At sm E c2 l2 ∧ (l2 = l ∨ l2 = l ++ rs) ∧ (f = 0 → l2 = l ++ rs) ∧ (f ≠ 0 → f ≠ 24 → l2 = l) := by
    rcases e4 with ⟨rfl, c2, e4⟩ | ⟨rfl, c2, l2, e4, e5⟩ | ⟨n1, n2, e4⟩
    · exact ⟨c2, _, e4, .inr rfl, fun _ => rfl, fun h9 => absurd rfl h9⟩
    · exact ⟨c2, l2, e4, e5, fun h9 => (by cases h9), fun _ h9 => absurd rfl h9⟩
    · exact ⟨c, l, e4, .inl rfl, fun h9 => absurd h9 n1, fun _ _ => rfl⟩
  have ha2 : At sm ((E.fail 0 0).start.setArm a2 w2 b2) c2 l2 := ha.same (by omega) (fun i => by rw [v3, o4])
  obtain ⟨g, jo, F, g1, g2, g3, g4⟩ := open_up h v1 (by omega) ha2
  have hd : Up F ∨ Down F := by
    rcases g4 with ⟨_, _, g4⟩ | ⟨_, _, g4⟩
    · exact .inl g4
    · exact .inr g4
  obtain ⟨p1, p2, p3, p4⟩ := rest_on hd
  obtain ⟨G, k1, k2, k3⟩ := open_live h.len p1 p2 (g3.same p3 p4)
  rw [u2] at e1
  have hn2 : ((E.fail 0 0).start.setArm a2 w2 b2).n = D.n := by omega
  have hn3 : (F.fail 0 0).start.n = D.n := by omega
  rw [hn3] at k1
  rw [hn2] at g4
  refine ⟨f, j, E, g, jo, F, c2, l2, G, e1, g1, k1, by omega, k3, hc1, hc2, hc3, ?_, u1.q, ?_, v1.q, ?_, p2, hn2, hn3⟩
  · rcases g4 with ⟨q1, q2, _⟩ | ⟨q1, q2, _⟩
    · exact .inl ⟨q1, q2⟩
    · exact .inr ⟨q1, q2⟩
  · rcases e3 with h | h
    · exact h.q
    · exact h.q
  · rcases hd with h | h
    · exact h.q
    · exact h.q
end Jn
end Go.Proofs.YtpmkgedlnanjiaaGreatDoor
