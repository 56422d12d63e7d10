/-
  Layer 4: plain laws of trees: how long a path is, what it proves, and roots of two parts.
-/
import Derived.Test.YtpeehlflhnhhjaaDoorTrL
namespace Go.Proofs.YtpeehlflhnhhjaaDoor
set_option linter.unusedVariables false
set_option linter.unusedSimpArgs false
open Go Go.RowKit

namespace Tr
/-- How often n is halved, rounded up, until it is 1. -/
def halv : Nat → Nat → Nat
  | 0, _ => 0
  | f + 1, n => if n ≤ 1 then 0 else halv f ((n + 1) / 2) + 1
/-- Whether there is an element beside on each level. -/
def evens : Nat → Nat → Nat → Bool
  | 0, _, _ => true
  | f + 1, n, k => if n ≤ 1 then true else (decide (sib k < n)) && evens f ((n + 1) / 2) (k / 2)
/-- How many elements a path has. -/
def need : Nat → Nat → Nat → Nat
  | 0, _, _ => 0
  | f + 1, n, k => if n ≤ 1 then 0 else (if sib k < n then 1 else 0) + need f ((n + 1) / 2) (k / 2)
theorem halv_zero (n : Nat) : halv 0 n = 0 := rfl
theorem halv_end (f n : Nat) (h : n ≤ 1) : halv f n = 0 := by cases f <;> simp [halv, h]
theorem halv_go (f n : Nat) (h : ¬ n ≤ 1) : halv (f + 1) n = halv f ((n + 1) / 2) + 1 := by
  show (if n ≤ 1 then _ else _) = _
  rw [if_neg h]
theorem evens_end (f n k : Nat) (h : n ≤ 1) : evens f n k = true := by cases f <;> simp [evens, h]
theorem evens_go (f n k : Nat) (h : ¬ n ≤ 1) : evens (f + 1) n k = (decide (sib k < n) && evens f ((n + 1) / 2) (k / 2)) := by
  show (if n ≤ 1 then _ else _) = _
  rw [if_neg h]
theorem need_end (f n k : Nat) (h : n ≤ 1) : need f n k = 0 := by cases f <;> simp [need, h]
theorem need_go (f n k : Nat) (h : ¬ n ≤ 1) : need (f + 1) n k = (if sib k < n then 1 else 0) + need f ((n + 1) / 2) (k / 2) := by
  show (if n ≤ 1 then _ else _) = _
  rw [if_neg h]
theorem sib_lt {k n : Nat} (h : k < n) : sib k < n ↔ k % 2 = 1 ∨ k + 1 < n := by
  unfold sib
  split <;> omega
theorem need_le : ∀ (f n k : Nat), need f n k ≤ halv f n ∧ (need f n k = halv f n ↔ evens f n k = true)
  | 0, n, k => by simp [need, halv, evens]
  | f + 1, n, k => by
    by_cases h : n ≤ 1
    · rw [need_end _ _ _ h, halv_end _ _ h, evens_end _ _ _ h]
      simp
    · have ih := need_le f ((n + 1) / 2) (k / 2)
      rw [need_go _ _ _ h, halv_go _ _ h, evens_go _ _ _ h]
      by_cases hs : sib k < n
      · rw [if_pos hs]
        simp only [hs, decide_true, Bool.true_and]
        exact ⟨by omega, by rw [← ih.2]; omega⟩
      · rw [if_neg hs]
        simp only [hs, decide_false, Bool.false_and]
        exact ⟨by omega, by simp; omega⟩
theorem levs_end (f : Nat) (l : List Bytes) (h : l.length ≤ 1) : levs f l = [l] := by cases f <;> simp [levs, h]
theorem levs_go (f : Nat) (l : List Bytes) (h : ¬ l.length ≤ 1) : levs (f + 1) l = l :: levs f (up l) := by
  show (if l.length ≤ 1 then _ else _) = _
  rw [if_neg h]
theorem top_end (f : Nat) (l : List Bytes) (h : l.length ≤ 1) : top f l = l.headD [] := by cases f <;> simp [top, h]
theorem top_go (f : Nat) (l : List Bytes) (h : ¬ l.length ≤ 1) : top (f + 1) l = top f (up l) := by
  show (if l.length ≤ 1 then _ else _) = _
  rw [if_neg h]
theorem pathL_one (l : List Bytes) (i : Nat) (hi : i < l.length) (h : l.length ≤ 1) : pathL [l] i = [] := by
  have h0 : i = 0 := by omega
  subst h0
  simp [pathL, sib, h]
theorem pathL_need : ∀ (f : Nat) (l : List Bytes) (i : Nat), i < l.length → l.length ≤ f → (pathL (levs f l) i).length = need f l.length i
  | 0, l, i, hi, hf => by omega
  | f + 1, l, i, hi, hf => by
    by_cases h : l.length ≤ 1
    · rw [levs_end _ _ h, pathL_one l i hi h, need_end _ _ _ h]
      rfl
    · rw [levs_go _ _ h, pathL, List.length_append, pathL_need f (up l) (i / 2) (by rw [up_len]; omega) (by rw [up_len]; omega), need_go _ _ _ h, up_len]
      split <;> simp
theorem path_need (l : List Bytes) (i : Nat) (hi : i < l.length) : (path l i).length = need l.length l.length i := by
  unfold path
  rw [pathL_need l.length (l.map leaf) i (by simpa using hi) (by simp), List.length_map]
theorem climb_need : ∀ (f n i : Nat) (y : Bytes) (ps : List Bytes), n ≤ f → (climb f n i y ps = Option.none ∧ ps.length < need f n i) ∨ (∃ z, climb f n i y ps = some (z, ps.drop (need f n i)) ∧ need f n i ≤ ps.length)
  | 0, n, i, y, ps, h => .inr ⟨y, by simp [climb, need], by simp [need]⟩
  | f + 1, n, i, y, ps, h => by
    by_cases h1 : n ≤ 1
    · rw [climb_end _ _ _ _ _ h1, need_end _ _ _ h1]
      exact .inr ⟨y, by simp, by simp⟩
    · rw [need_go _ _ _ h1]
      by_cases h2 : n ≤ sib i
      · rw [climb_skip _ _ _ _ _ h1 h2, if_neg (by omega), Nat.zero_add, show n - n / 2 = (n + 1) / 2 by omega]
        exact climb_need f _ _ _ _ (by omega)
      · rw [if_pos (by omega)]
        cases ps with
        | nil => exact .inl ⟨climb_stop _ _ _ _ h1 h2, by rw [List.length_nil]; omega⟩
        | cons p ps =>
          rw [climb_go _ _ _ _ _ _ h1 h2, show n - n / 2 = (n + 1) / 2 by omega, show 1 + need f ((n + 1) / 2) (i / 2) = need f ((n + 1) / 2) (i / 2) + 1 by omega, List.drop_succ_cons, List.length_cons]
          rcases climb_need f ((n + 1) / 2) (i / 2) (if i % 2 = 0 then node y p else node p y) ps (by omega) with ⟨h3, h4⟩ | ⟨z, h3, h4⟩
          · exact .inl ⟨h3, by omega⟩
          · exact .inr ⟨z, h3, by omega⟩
theorem getD_up (l : List Bytes) (i : Nat) (hi : i < l.length) : (up l).getD (i / 2) [] = pairOf l (i / 2) := by
  rw [up_eq, List.getD_eq_getElem?_getD, List.getElem?_map, List.getElem?_range (by omega)]
  rfl
theorem climb_path : ∀ (f : Nat) (l : List Bytes) (i : Nat), i < l.length → l.length ≤ f → climb f l.length i (l.getD i []) (pathL (levs f l) i) = some (top f l, [])
  | 0, l, i, hi, hf => by omega
  | f + 1, l, i, hi, hf => by
    by_cases h : l.length ≤ 1
    · rw [levs_end _ _ h, pathL_one l i hi h, climb_end _ _ _ _ _ h, top_end _ _ h]
      have h0 : i = 0 := by omega
      subst h0
      cases l with
      | nil => simp at hi
      | cons a r => rfl
    · have ih := climb_path f (up l) (i / 2) (by rw [up_len]; omega) (by rw [up_len]; omega)
      rw [up_len, getD_up l i hi] at ih
      rw [levs_go _ _ h, top_go _ _ h, pathL]
      by_cases h2 : l.length ≤ sib i
      · rw [if_neg (by omega), List.nil_append, climb_skip _ _ _ _ _ h h2, show l.length - l.length / 2 = (l.length + 1) / 2 by omega]
        have he : pairOf l (i / 2) = l.getD i [] := by
          unfold sib at h2
          unfold pairOf
          split at h2
          · rw [if_neg (by omega), show 2 * (i / 2) = i by omega]
          · omega
        rw [← he]
        exact ih
      · rw [if_pos (by omega), List.cons_append, List.nil_append, climb_go _ _ _ _ _ _ h h2, show l.length - l.length / 2 = (l.length + 1) / 2 by omega]
        have he : (if i % 2 = 0 then node (l.getD i []) (l.getD (sib i) []) else node (l.getD (sib i) []) (l.getD i [])) = pairOf l (i / 2) := by
          unfold sib at h2 ⊢
          unfold pairOf
          by_cases h3 : i % 2 = 0
          · rw [if_pos h3] at h2
            rw [if_pos h3, if_pos h3, if_pos (by omega), show 2 * (i / 2) = i by omega]
          · rw [if_neg h3, if_neg h3, if_pos (by omega), show 2 * (i / 2) = i - 1 by omega, show i - 1 + 1 = i by omega]
        rw [he]
        exact ih
theorem check_path (l : List Bytes) (i : Nat) (hi : i < l.length) : check (root l) (l.length : Int) (i : Int) (l.getD i []) (path l i) = true := by
  unfold check
  rw [if_neg (by omega)]
  have h := climb_path l.length (l.map leaf) i (by simpa using hi) (by simp)
  have hg : (l.map leaf).getD i [] = leaf (l.getD i []) := by
    rw [List.getD_eq_getElem?_getD, List.getD_eq_getElem?_getD, List.getElem?_map, List.getElem?_eq_getElem hi]
    rfl
  rw [List.length_map, hg] at h
  unfold path
  simp only [Int.toNat_natCast]
  rw [h]
  simp only [true_and]
  unfold root
  rw [if_neg (by rintro rfl; simp at hi)]
  simp
/-- A path of another length proves nothing. -/
theorem check_length (r t : Bytes) (n i : Nat) (ps : List Bytes) (h : ps.length ≠ need n n i) : check r (n : Int) (i : Int) t ps = false := by
  unfold check
  split
  · rfl
  · simp only [Int.toNat_natCast]
    rcases climb_need n n i (leaf t) ps (Nat.le_refl _) with ⟨h1, _⟩ | ⟨z, h1, h2⟩
    · rw [h1]
    · rw [h1]
      simp only [decide_eq_false_iff_not, not_and]
      intro h3
      have := congrArg List.length h3
      simp at this
      omega
theorem up_append : ∀ (a b : List Bytes), a.length % 2 = 0 → up (a ++ b) = up a ++ up b
  | [], b, _ => rfl
  | [x], b, h => by simp at h
  | x :: y :: a, b, h => by
    have := up_append a b (by simp at h; omega)
    show node x y :: up (a ++ b) = _
    rw [this]
    rfl
theorem up_one (x : Bytes) : up [x] = [x] := rfl
theorem top_fuel : ∀ (f g : Nat) (l : List Bytes), l.length ≤ f → l.length ≤ g → top f l = top g l
  | 0, g, l, h, _ => by rw [top_end 0 l (by omega), top_end g l (by omega)]
  | f + 1, g, l, h, hg => by
    by_cases h1 : l.length ≤ 1
    · rw [top_end _ l h1, top_end _ l h1]
    · cases g with
      | zero => omega
      | succ g => rw [top_go _ l h1, top_go _ l h1, top_fuel f g (up l) (by rw [up_len]; omega) (by rw [up_len]; omega)]
theorem top_up (f : Nat) (l : List Bytes) (hf : l.length ≤ f) (h0 : l ≠ []) : top f (up l) = top f l := by
  by_cases h : l.length ≤ 1
  · cases l with
    | nil => exact absurd rfl h0
    | cons x r =>
      cases r with
      | nil => rfl
      | cons y r => simp at h
  · cases f with
    | zero => omega
    | succ f =>
      rw [top_go _ l h]
      exact top_fuel _ _ _ (by rw [up_len]; omega) (by rw [up_len]; omega)
theorem top_parts : ∀ (m f : Nat) (a b : List Bytes), a.length = 2 ^ m → 1 ≤ b.length → b.length ≤ 2 ^ m → a.length + b.length ≤ f → top f (a ++ b) = node (top f a) (top f b)
  | 0, f, a, b, ha, hb, hb2, hf => by
    obtain ⟨x, rfl⟩ := List.length_eq_one_iff.1 (by simpa using ha)
    obtain ⟨y, rfl⟩ := List.length_eq_one_iff.1 (show b.length = 1 by simp at hb2; omega)
    rw [top_end f [x] (by simp), top_end f [y] (by simp)]
    simp at hf
    obtain ⟨f', rfl⟩ : ∃ f', f = f' + 1 := ⟨f - 1, by omega⟩
    show top (f' + 1) [x, y] = node x y
    rw [top_go _ _ (by simp), top_end _ _ (by rw [up_len]; simp)]
    rfl
  | m + 1, f, a, b, ha, hb, hb2, hf => by
    have hp : 2 ^ (m + 1) = 2 * 2 ^ m := by rw [Nat.pow_succ]; omega
    have hp1 : 1 ≤ 2 ^ m := Nat.one_le_two_pow
    rw [← top_up f (a ++ b) (by rw [List.length_append]; exact hf) (by intro h; have := congrArg List.length h; simp at this; rw [this.2] at hb; simp at hb), up_append a b (by omega),
      top_parts m f (up a) (up b) (by rw [up_len]; omega) (by rw [up_len]; omega) (by rw [up_len]; omega) (by rw [up_len, up_len]; omega),
      top_up f a (by omega) (by rintro rfl; simp at ha; omega), top_up f b (by omega) (by rintro rfl; simp at hb)]
theorem root_parts (m : Nat) (a b : List Bytes) (ha : a.length = 2 ^ m) (hb : 1 ≤ b.length) (hb2 : b.length ≤ 2 ^ m) : root (a ++ b) = node (root a) (root b) := by
  have hp1 : 1 ≤ 2 ^ m := Nat.one_le_two_pow
  have h0 : a ≠ [] := by rintro rfl; simp at ha; omega
  have h1 : b ≠ [] := by rintro rfl; simp at hb
  unfold root
  rw [if_neg (by simp [h0]), if_neg h0, if_neg h1, List.map_append, List.length_append, top_parts m _ _ _ (by simpa using ha) (by simpa using hb) (by simpa using hb2) (by simp)]
  rw [top_fuel (a.length + b.length) a.length (a.map leaf) (by simp) (by simp), top_fuel (a.length + b.length) b.length (b.map leaf) (by simp) (by simp)]
end Tr
end Go.Proofs.YtpeehlflhnhhjaaDoor
