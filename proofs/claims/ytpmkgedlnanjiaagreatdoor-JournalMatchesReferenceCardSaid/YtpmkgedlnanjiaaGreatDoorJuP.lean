/-
  Journal, plain laws: what the reference's parts compute.
-/
import Derived.Test.YtpmkgedlnanjiaaGreatDoorJnE
namespace Go.Proofs.YtpmkgedlnanjiaaGreatDoor
set_option linter.unusedVariables false
set_option linter.unusedSimpArgs false
open Go
namespace Jn
/-- The number that digits are. -/
def numR (s : Bytes) : Option Nat := if s.all isD = true then some (val s) else none
def oi (o : Option Nat) : Int := match o with
  | none => -1
  | some n => (n : Int)
theorem oi_max (a b : Option Nat) : max (oi a) (oi b) = oi (maxC a b) := by
  cases a with
  | none =>
    cases b with
    | none => rfl
    | some y => show max (-1 : Int) (y : Int) = (y : Int); omega
  | some x =>
    cases b with
    | none => show max (x : Int) (-1 : Int) = (x : Int); omega
    | some y => show max (x : Int) (y : Int) = ((max x y : Nat) : Int); omega
theorem valA_lt : ∀ (s : Bytes) (a : Nat), (∀ c ∈ s, isD c = true) → valA a s < (a + 1) * 10 ^ s.length
  | [], a, _ => by show a < (a + 1) * 1; omega
  | c :: s, a, h => by
    have h2 := of_decide_eq_true (h c (List.mem_cons_self ..))
    have h1 := valA_lt s (10 * a + (c.toNat - 48)) (fun x hx => h x (List.mem_cons_of_mem _ hx))
    show valA (10 * a + (c.toNat - 48)) s < _
    refine Nat.lt_of_lt_of_le h1 ?_
    rw [List.length_cons, Nat.pow_succ, Nat.mul_comm (10 ^ s.length), ← Nat.mul_assoc]
    exact Nat.mul_le_mul_right _ (by omega)
theorem val_lt (s : Bytes) (h : ∀ c ∈ s, isD c = true) : val s < 10 ^ s.length := by
  have := valA_lt s 0 h
  rw [Nat.zero_add, Nat.one_mul] at this
  exact this
theorem numR_dgt (n w : Nat) : numR (dgt n w) = some n := by
  unfold numR
  rw [if_pos (List.all_eq_true.2 (dgt_isD n w)), dgt_val]
theorem numR_some {s : Bytes} {n : Nat} (h : numR s = some n) : (∀ c ∈ s, isD c = true) ∧ val s = n := by
  unfold numR at h
  by_cases hd : s.all isD = true
  · rw [if_pos hd] at h
    injection h with h
    exact ⟨List.all_eq_true.1 hd, h⟩
  · rw [if_neg hd] at h
    cases h
/-- The count of a head, as the reference finds it. -/
theorem cnt_ref {sm : Bytes → Bytes} (hs : ∀ s, (sm s).length = 16) {p room : Nat} (hr : room < 100000000) {s : Bytes} (hz : s ≠ zero) :
    cnt sm p s room = (match numR ((s.drop 16).take 8) with | none => none | some v => if v ≤ room ∧ head sm p v = s then some v else none) := by
  cases h : cnt sm p s room with
  | some n =>
    obtain ⟨h1, h2 | h2⟩ := cnt_some h
    · rw [h2, head_dig hs p (by omega), numR_dgt]
      show _ = if n ≤ room ∧ head sm p n = head sm p n then some n else none
      rw [if_pos ⟨h1, rfl⟩]
    · exact absurd h2.2 hz
  | none =>
    cases hv : numR ((s.drop 16).take 8) with
    | none => rfl
    | some v =>
      simp only
      by_cases hc : v ≤ room ∧ head sm p v = s
      · exfalso
        have h2 := cnt_head hs (p := p) (n := v) (room := room) hc.1 hr
        rw [hc.2, h] at h2
        cases h2
      · rw [if_neg hc]
/-- The piece of a sector, as the reference finds it. -/
theorem piece_ref {sm : Bytes → Bytes} (hs : ∀ s, (sm s).length = 16) {p : Nat} {s : Bytes} :
    piece sm p s = (match numR ((s.drop 16).take 2) with | none => none | some v => if 1 ≤ v ∧ v ≤ 46 ∧ sector sm p ((s.drop 18).take v) = s then some ((s.drop 18).take v) else none) := by
  cases h : piece sm p s with
  | some x =>
    obtain ⟨h1, h2, h3⟩ := piece_some hs h
    have h4 : (s.drop 18).take x.length = x := by
      rw [h1, sector_drop hs h3, List.take_append_of_le_length (Nat.le_refl _), List.take_length]
    have h5 : (s.drop 16).take 2 = dgt x.length 2 := by rw [h1]; exact sector_dig hs p h3
    rw [h5, numR_dgt]
    show _ = if 1 ≤ x.length ∧ x.length ≤ 46 ∧ sector sm p ((s.drop 18).take x.length) = s then some ((s.drop 18).take x.length) else none
    rw [h4, if_pos ⟨h2, h3, h1.symm⟩]
  | none =>
    cases hv : numR ((s.drop 16).take 2) with
    | none => rfl
    | some v =>
      simp only
      by_cases hc : 1 ≤ v ∧ v ≤ 46 ∧ sector sm p ((s.drop 18).take v) = s
      · exfalso
        have hl : s.length = 64 := by rw [← hc.2.2]; exact sealed_len hs _ _
        have h2 := piece_sector hs (p := p) (x := (s.drop 18).take v) (by rw [List.length_take, List.length_drop]; omega) (by rw [List.length_take, List.length_drop]; omega)
        rw [hc.2.2, h] at h2
        cases h2
      · rw [if_neg hc]
theorem piece_len {sm : Bytes → Bytes} (hs : ∀ s, (sm s).length = 16) {p : Nat} {s : Bytes} (h : s.length ≠ 64) : piece sm p s = none := by
  cases hp : piece sm p s with
  | none => rfl
  | some x =>
    exfalso
    obtain ⟨h1, _, _⟩ := piece_some hs hp
    exact h (by rw [h1]; exact sealed_len hs _ _)
/-! ### A seal, as the reference writes it -/
theorem fit_full {c : Bytes} {k : Nat} (h : c.length + k = 48) : fit c = c ++ List.replicate k 0 := by
  unfold fit
  rw [List.take_of_length_le (by omega), show 48 - c.length = k by omega]
theorem fit_all {c : Bytes} (h : c.length = 48) : fit c = c := by
  unfold fit
  rw [List.take_of_length_le (by omega), h]
  simp
theorem sealed_fit (sm : Bytes → Bytes) (p : Nat) (c : Bytes) : sm (dgt p 8 ++ fit c) ++ fit c = sealed sm p c := rfl
/-! ### Records, as the reference finds them -/
theorem lenOf_ref {a : Bytes} : lenOf a = (match numR a with | none => none | some v => if v ≤ 2000 ∧ Lib.itoa (v : Int) = a then some v else none) := by
  cases h : lenOf a with
  | some n =>
    have h1 := first_some (show first 2001 _ = some n from h)
    have h2 := of_decide_eq_true h1.2
    have h3 : numR a = some n := by
      unfold numR
      rw [← h2, itoa_dec, if_pos (List.all_eq_true.2 (dec_isD n)), dec_val]
    rw [h3]
    show _ = if n ≤ 2000 ∧ Lib.itoa (n : Int) = a then some n else none
    rw [if_pos ⟨by omega, h2⟩]
  | none =>
    cases hv : numR a with
    | none => rfl
    | some v =>
      simp only
      by_cases hc : v ≤ 2000 ∧ Lib.itoa (v : Int) = a
      · exfalso
        have h2 := len_of hc.1
        rw [hc.2, h] at h2
        cases h2
      · rw [if_neg hc]
theorem lenOf_long {a : Bytes} (h : 5 ≤ a.length) : lenOf a = none := by
  cases hl : lenOf a with
  | none => rfl
  | some n =>
    exfalso
    have h1 := first_some (show first 2001 _ = some n from hl)
    have h2 := of_decide_eq_true h1.2
    have h3 := dec_len 3 n (by omega)
    rw [← itoa_dec, h2] at h3
    omega
theorem cut_at : ∀ (k : Nat) (s : Bytes), (∀ i, i < k → s[i]? ≠ some 58) → s[k]? = some 58 → cutC s = some (s.take k, s.drop (k + 1))
  | _, [], _, h => by simp at h
  | 0, c :: s, _, h => by
    injection h with h
    have h : c = 58 := h
    unfold cutC
    rw [if_pos h]
    rfl
  | k + 1, c :: s, hn, h => by
    have h0 : c ≠ 58 := fun e => hn 0 (by omega) (by rw [e]; rfl)
    unfold cutC
    rw [if_neg h0, cut_at k s (fun i hi => hn (i + 1) (by omega)) h]
    rfl
theorem cut_long : ∀ (k : Nat) (s a r : Bytes), (∀ i, i < k → s[i]? ≠ some 58) → cutC s = some (a, r) → k ≤ a.length
  | 0, _, _, _, _, _ => Nat.zero_le _
  | k + 1, [], a, r, _, h => by cases h
  | k + 1, c :: s, a, r, hn, h => by
    have h0 : c ≠ 58 := fun e => hn 0 (by omega) (by rw [e]; rfl)
    unfold cutC at h
    rw [if_neg h0] at h
    obtain ⟨⟨a2, r2⟩, h2, h3⟩ := Option.map_eq_some_iff.1 h
    cases h3
    have := cut_long k s a2 r2 (fun i hi => hn (i + 1) (by omega)) h2
    show k + 1 ≤ a2.length + 1
    omega
theorem cut_none : ∀ (s : Bytes), (∀ i, i < s.length → s[i]? ≠ some 58) → cutC s = none
  | [], _ => rfl
  | c :: s, hn => by
    have h0 : c ≠ 58 := fun e => hn 0 (by simp) (by rw [e]; rfl)
    unfold cutC
    rw [if_neg h0, cut_none s (fun i hi => hn (i + 1) (by rw [List.length_cons]; omega))]
    rfl
/-- There is no record at the beginning. -/
theorem records_none {s : Bytes} (h0 : s ≠ []) {k : Nat} (hn : ∀ i, i < k → s[i]? ≠ some 58) (h : s.length ≤ k ∨ (k = 5 ∧ s[5]? ≠ some 58)) : records s = none := by
  rw [records_step h0]
  rcases h with h | ⟨h5, h6⟩
  · rw [cut_none s (fun i hi => hn i (by omega))]
  · cases hc : cutC s with
    | none => rfl
    | some x =>
      obtain ⟨a, r⟩ := x
      simp only
      have := cut_long 6 s a r (fun i hi => by by_cases h7 : i = 5; (rw [h7]; exact h6); exact hn i (by omega)) hc
      rw [lenOf_long (by omega)]
/-- There is one, or its length is none. -/
theorem records_colon {s : Bytes} {k : Nat} (hn : ∀ i, i < k → s[i]? ≠ some 58) (h : s[k]? = some 58) :
    records s = (match numR (s.take k) with | none => none | some v => if v ≤ 2000 ∧ Lib.itoa (v : Int) = s.take k ∧ k + 1 + v ≤ s.length then (records (s.drop (k + 1 + v))).map (fun l => (s.drop (k + 1)).take v :: l) else none) := by
  have hk := (List.getElem?_eq_some_iff.1 h).1
  have h0 : s ≠ [] := fun e => by rw [e] at hk; simp at hk
  rw [records_step h0, cut_at k s hn h]
  simp only
  rw [lenOf_ref]
  cases numR (s.take k) with
  | none => rfl
  | some v =>
    simp only
    by_cases h1 : v ≤ 2000 ∧ Lib.itoa (v : Int) = s.take k
    · rw [if_pos h1]
      simp only
      rw [List.length_drop, List.drop_drop]
      by_cases h2 : k + 1 + v ≤ s.length
      · rw [if_neg (by omega), if_pos ⟨h1.1, h1.2, h2⟩]
      · rw [if_pos (by omega), if_neg (fun h => h2 h.2.2)]
    · rw [if_neg h1, if_neg (fun h => h1 ⟨h.1, h.2.1⟩)]
end Jn
end Go.Proofs.YtpmkgedlnanjiaaGreatDoor
