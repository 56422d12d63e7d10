/-
  Journal, plain laws: numbers as the library reads them; texts cut at a colon; pieces and records step by step.
-/
import Derived.Test.YtpmkgedlnanjiaaGreatDoorJnA
import Derived.Lib.AtoiAllCases
import Derived.Lib.CutLaws
namespace Go.Proofs.YtpmkgedlnanjiaaGreatDoor
set_option linter.unusedVariables false
set_option linter.unusedSimpArgs false
open Go
/-- What the library reads, by cases. -/
theorem num_cases {α : Type} {P : Lib.NumEnd α → Prop} (x : Lib.NumEnd α) (ok : ∀ v, P (Lib.NumEnd.ok v)) (bad : P Lib.NumEnd.syntax) (range : P Lib.NumEnd.range) : P x := by
  cases x
  · exact ok _
  · exact bad
  · exact range
namespace Jn
def valA (a : Nat) (s : Bytes) : Nat := s.foldl (fun a c => 10 * a + (c.toNat - 48)) a
theorem valA_ge : ∀ (s : Bytes) (a : Nat), a ≤ valA a s
  | [], a => Nat.le_refl _
  | c :: r, a => by
    have := valA_ge r (10 * a + (c.toNat - 48))
    show a ≤ valA (10 * a + (c.toNat - 48)) r
    omega
theorem parse_dig : ∀ (s : Bytes) (a : Nat), (∀ c ∈ s, isD c = true) → valA a s < 1000000000000000000 → Lib.parseUint10 a s = .ok (valA a s)
  | [], a, _, _ => rfl
  | c :: r, a, hd, hv => by
    have hc := of_decide_eq_true (hd c (List.mem_cons_self ..))
    have h1 := valA_ge r (10 * a + (c.toNat - 48))
    have hv' : valA (10 * a + (c.toNat - 48)) r < 1000000000000000000 := hv
    have ih := parse_dig r (10 * a + (c.toNat - 48)) (fun x hx => hd x (List.mem_cons_of_mem _ hx)) hv'
    unfold Lib.parseUint10
    rw [if_pos hc, if_neg (by omega), if_neg (by omega), show a * 10 + (c.toNat - 48) = 10 * a + (c.toNat - 48) by omega, ih]
    rfl
/-- Digits are read as what they say. -/
theorem atoi_dig {s : Bytes} (h0 : s ≠ []) (hd : ∀ c ∈ s, isD c = true) (hv : val s < 1000000000000000000) : Lib.atoiAll s = .ok ((val s : Nat) : Int) := by
  cases s with
  | nil => exact absurd rfl h0
  | cons c r =>
    have hc := of_decide_eq_true (hd c (List.mem_cons_self ..))
    rw [Lib.atoiAll_plain c r (by omega) (by omega)]
    unfold Lib.parseMag
    rw [if_neg (by simp), parse_dig (c :: r) 0 hd hv]
    unfold Lib.signless
    simp only
    rw [if_neg (by have : valA 0 (c :: r) < 1000000000000000000 := hv; omega)]
    rfl
theorem atoi_itoa {n : Nat} (h : n < 1000000000000000000) : Lib.atoiAll (Lib.itoa (n : Int)) = .ok (n : Int) := by
  rw [itoa_dec]
  have h1 := atoi_dig (dec_ne n) (dec_isD n) (by rw [dec_val]; exact h)
  rw [dec_val] at h1
  exact h1
theorem atoi_dgt {n w : Nat} (h : n < 1000000000000000000) : Lib.atoiAll (dgt n w) = .ok (n : Int) := by
  have h1 := atoi_dig (s := dgt n w) (by unfold dgt; rw [itoa_dec]; intro e; exact dec_ne n (List.append_eq_nil_iff.1 e).2) (dgt_isD n w) (by rw [dgt_val]; exact h)
  rw [dgt_val] at h1
  exact h1
/-- The length of a record, by what the library reads. -/
theorem lenOf_iff {a : Bytes} : lenOf a = (match Lib.atoiAll a with | .ok v => if 0 ≤ v ∧ v ≤ 2000 ∧ Lib.itoa v = a then some v.toNat else none | _ => none) := by
  cases h : lenOf a with
  | some n =>
    have h1 := first_some (show first 2001 _ = some n from h)
    have h2 := of_decide_eq_true h1.2
    rw [← h2, atoi_itoa (by omega)]
    show _ = if 0 ≤ (n : Int) ∧ (n : Int) ≤ 2000 ∧ Lib.itoa (n : Int) = Lib.itoa (n : Int) then some (n : Int).toNat else none
    rw [if_pos ⟨by omega, by omega, rfl⟩, Int.toNat_natCast]
  | none =>
    cases hv : Lib.atoiAll a using num_cases with
    | bad => rfl
    | range => rfl
    | ok v =>
      simp only
      by_cases hc : 0 ≤ v ∧ v ≤ 2000 ∧ Lib.itoa v = a
      · exfalso
        have h2 := len_of (n := v.toNat) (by omega)
        rw [Int.toNat_of_nonneg hc.1, hc.2.2, h] at h2
        cases h2
      · rw [if_neg hc]
theorem cut_lib44 : ∀ s : Bytes, Lib.cut s [58] = (match cutC s with | some x => (x.1, x.2, true) | none => (s, [], false))
  | [] => rfl
  | c :: r => by
    have ih := cut_lib44 r
    have hge := Lib.index_ge r [58]
    have hp : List.isPrefixOf [58] (c :: r) = ((58 : UInt8) == c) := by simp [List.isPrefixOf]
    unfold Lib.cut at ih ⊢
    unfold Lib.index
    rw [hp]
    unfold cutC
    by_cases h : c = 58
    · subst h
      simp
    · have h' : ((58 : UInt8) == c) = false := by rw [beq_eq_false_iff_ne]; exact fun e => h e.symm
      rw [h', if_neg h]
      simp only [Bool.false_eq_true, if_false]
      by_cases hi : Lib.index r [58] = -1
      · rw [hi] at ih ⊢
        simp only [beq_self_eq_true, if_true]
        simp only [show ¬ ((0 : Int) ≤ -1) by omega, if_false] at ih ⊢
        cases hc : cutC r with
        | none => simp
        | some x => rw [hc] at ih; simp at ih
      · have hb : (Lib.index r [58] == -1) = false := by rw [beq_eq_false_iff_ne]; exact hi
        rw [hb]
        simp only [Bool.false_eq_true, if_false]
        rw [if_pos (by omega)] at ih ⊢
        cases hc : cutC r with
        | none => rw [hc] at ih; simp at ih
        | some x =>
          rw [hc] at ih
          simp only [Prod.mk.injEq, and_true] at ih
          simp only [Option.map_some, Prod.mk.injEq, and_true]
          have e : (Lib.index r [58] + 1).toNat = (Lib.index r [58]).toNat + 1 := by omega
          rw [e, ← ih.1, ← ih.2]
          constructor
          · rw [List.take_succ_cons]
          · rw [List.length_singleton, show (Lib.index r [58]).toNat + 1 + 1 = ((Lib.index r [58]).toNat + 1) + 1 from rfl, List.drop_succ_cons]
theorem split_more : ∀ (k : Nat) (s : Bytes), s.length ≤ k → ∀ j, s.length ≤ j → split k s = split j s
  | 0, s, h, j, hj => by
    have hs : s = [] := List.eq_nil_of_length_eq_zero (by omega)
    subst hs
    cases j with
    | zero => rfl
    | succ j => unfold split; rw [if_pos rfl]
  | k + 1, s, h, 0, hj => by
    have hs : s = [] := List.eq_nil_of_length_eq_zero (by omega)
    subst hs
    unfold split
    rw [if_pos rfl]
  | k + 1, s, h, j + 1, hj => by
    unfold split
    by_cases hs : s = []
    · rw [if_pos hs, if_pos hs]
    · have h0 : 0 < s.length := List.length_pos_iff.2 hs
      rw [if_neg hs, if_neg hs, split_more k _ (by rw [List.length_drop]; omega) j (by rw [List.length_drop]; omega)]
theorem pieces_nil : pieces [] = [] := rfl
theorem pieces_cons {s : Bytes} (h : s ≠ []) : pieces s = s.take 46 :: pieces (s.drop 46) := by
  have h0 : 0 < s.length := List.length_pos_iff.2 h
  unfold pieces
  obtain ⟨k, hk⟩ : ∃ k, s.length = k + 1 := ⟨s.length - 1, by omega⟩
  rw [hk]
  conv => lhs; unfold split
  rw [if_neg h]
  rw [split_more k (s.drop 46) (by rw [List.length_drop]; omega) (s.drop 46).length (Nat.le_refl _)]
theorem pieces_len : ∀ (k : Nat) (s : Bytes), s.length ≤ k → (pieces s).length ≤ s.length
  | 0, s, h => by
    have hs : s = [] := List.eq_nil_of_length_eq_zero (by omega)
    rw [hs]
    exact Nat.le_refl _
  | k + 1, s, h => by
    by_cases hs : s = []
    · rw [hs]
      exact Nat.le_refl _
    · have h0 : 0 < s.length := List.length_pos_iff.2 hs
      have := pieces_len k (s.drop 46) (by rw [List.length_drop]; omega)
      rw [pieces_cons hs, List.length_cons]
      rw [List.length_drop] at this
      omega
theorem cutC_len : ∀ (s a r : Bytes), cutC s = some (a, r) → s.length = a.length + 1 + r.length
  | [], a, r, h => by cases h
  | c :: s, a, r, h => by
    unfold cutC at h
    by_cases hc : c = 58
    · rw [if_pos hc] at h
      cases h
      simp only [List.length_cons, List.length_nil]
      omega
    · rw [if_neg hc] at h
      obtain ⟨⟨a2, r2⟩, h2, h3⟩ := Option.map_eq_some_iff.1 h
      cases h3
      have := cutC_len s a2 r2 h2
      simp only [List.length_cons]
      omega
theorem parse_fuel : ∀ (k : Nat) (s : Bytes), s.length ≤ k → ∀ j, s.length ≤ j → parse k s = parse j s
  | 0, s, h, j, hj => by
    have hs : s = [] := List.eq_nil_of_length_eq_zero (by omega)
    subst hs
    cases j with
    | zero => rfl
    | succ j => unfold parse; rw [if_pos rfl, if_pos rfl]
  | k + 1, s, h, 0, hj => by
    have hs : s = [] := List.eq_nil_of_length_eq_zero (by omega)
    subst hs
    unfold parse
    rw [if_pos rfl, if_pos rfl]
  | k + 1, s, h, j + 1, hj => by
    unfold parse
    by_cases hs : s = []
    · rw [if_pos hs, if_pos hs]
    · rw [if_neg hs, if_neg hs]
      cases hc : cutC s with
      | none => rfl
      | some x =>
        obtain ⟨a, r⟩ := x
        have hl := cutC_len s a r hc
        simp only
        cases hn : lenOf a with
        | none => rfl
        | some n =>
          simp only
          by_cases hr : r.length < n
          · rw [if_pos hr, if_pos hr]
          · rw [if_neg hr, if_neg hr, parse_fuel k _ (by rw [List.length_drop]; omega) j (by rw [List.length_drop]; omega)]
theorem records_nil : records [] = some [] := by decide
theorem records_step {s : Bytes} (h : s ≠ []) : records s = (match cutC s with | none => none | some x => match lenOf x.1 with | none => none | some n => if x.2.length < n then none else (records (x.2.drop n)).map (fun l => x.2.take n :: l)) := by
  have h0 : 0 < s.length := List.length_pos_iff.2 h
  unfold records
  obtain ⟨k, hk⟩ : ∃ k, s.length = k + 1 := ⟨s.length - 1, by omega⟩
  rw [hk]
  conv => lhs; unfold parse
  rw [if_neg h]
  cases hc : cutC s with
  | none => rfl
  | some x =>
    obtain ⟨a, r⟩ := x
    have hl := cutC_len s a r hc
    simp only
    cases hn : lenOf a with
    | none => rfl
    | some n =>
      simp only
      by_cases hr : r.length < n
      · rw [if_pos hr, if_pos hr]
      · rw [if_neg hr, if_neg hr, parse_fuel k (r.drop n) (by rw [List.length_drop]; omega) (r.drop n).length (Nat.le_refl _)]
end Jn
end Go.Proofs.YtpmkgedlnanjiaaGreatDoor
