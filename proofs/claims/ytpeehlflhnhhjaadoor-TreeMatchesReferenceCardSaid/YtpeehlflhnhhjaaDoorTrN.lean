/-
  Layer 4: collide, and the plain law of found.
-/
import Derived.Test.YtpeehlflhnhhjaaDoorLwRefuses
namespace Go.Proofs.YtpeehlflhnhhjaaDoor
set_option linter.unusedVariables false
set_option linter.unusedSimpArgs false
open Go Go.RowKit Go.Shelf

namespace Tr
def clash (a b : List Bytes) : Bool := decide (a ≠ b ∧ Dg.list a = Dg.list b)
def nodeL (a b : Bytes) : List Bytes := [[110, 111, 100, 101], a, b]
def leafL (a : Bytes) : List Bytes := [[108, 101, 97, 102], a]
def oneL (i : Nat) (y p : Bytes) : List Bytes := if i % 2 = 1 then nodeL p y else nodeL y p
def twoL (i : Nat) (l : List Bytes) : List Bytes := if i % 2 = 1 then nodeL (l.getD (i - 1) []) (l.getD i []) else nodeL (l.getD i []) (l.getD (i + 1) [])
def fnd : Nat → List Bytes → Nat → Bytes → List Bytes → Bool
  | 0, _, _, _, _ => false
  | f + 1, l, i, y, ps =>
    if l.length ≤ 1 then false
    else if sib i < l.length then
      match ps with
      | [] => false
      | p :: ps => clash (oneL i y p) (twoL i l) || fnd f (up l) (i / 2) (Dg.list (oneL i y p)) ps
    else fnd f (up l) (i / 2) y ps
def found (l : List Bytes) (i : Nat) (t : Bytes) (ps : List Bytes) : Bool := clash (leafL t) (leafL (l.getD i [])) || fnd l.length (l.map leaf) i (leaf t) ps
theorem fnd_end (f : Nat) (l : List Bytes) (i : Nat) (y : Bytes) (ps : List Bytes) (h : l.length ≤ 1) : fnd f l i y ps = false := by cases f <;> simp [fnd, h]
theorem fnd_skip (f : Nat) (l : List Bytes) (i : Nat) (y : Bytes) (ps : List Bytes) (h : ¬ l.length ≤ 1) (h2 : ¬ sib i < l.length) : fnd (f + 1) l i y ps = fnd f (up l) (i / 2) y ps := by
  show (if l.length ≤ 1 then _ else if sib i < l.length then _ else _) = _
  rw [if_neg h, if_neg h2]
theorem fnd_stop (f : Nat) (l : List Bytes) (i : Nat) (y : Bytes) (h : ¬ l.length ≤ 1) (h2 : sib i < l.length) : fnd (f + 1) l i y [] = false := by
  show (if l.length ≤ 1 then _ else if sib i < l.length then _ else _) = _
  rw [if_neg h, if_pos h2]
theorem fnd_go (f : Nat) (l : List Bytes) (i : Nat) (y p : Bytes) (ps : List Bytes) (h : ¬ l.length ≤ 1) (h2 : sib i < l.length) : fnd (f + 1) l i y (p :: ps) = (clash (oneL i y p) (twoL i l) || fnd f (up l) (i / 2) (Dg.list (oneL i y p)) ps) := by
  show (if l.length ≤ 1 then _ else if sib i < l.length then _ else _) = _
  rw [if_neg h, if_pos h2]
theorem two_pair (i : Nat) (l : List Bytes) (h : i < l.length) (h2 : sib i < l.length) : Dg.list (twoL i l) = pairOf l (i / 2) := by
  unfold sib at h2
  unfold twoL pairOf nodeL node
  by_cases hi : i % 2 = 1
  · rw [if_pos hi, if_pos (by omega), show 2 * (i / 2) = i - 1 by omega, show i - 1 + 1 = i by omega]
  · rw [if_neg hi, if_pos (by rw [if_pos (by omega)] at h2; omega), show 2 * (i / 2) = i by omega]
theorem fnd_sound : ∀ (f : Nat) (l : List Bytes) (i : Nat) (y : Bytes) (ps : List Bytes), i < l.length → l.length ≤ f → climb f l.length i y ps = some (top f l, []) →
    fnd f l i y ps = true ∨ (y = l.getD i [] ∧ ps = pathL (levs f l) i)
  | 0, l, i, y, ps, hi, hf, _ => by omega
  | f + 1, l, i, y, ps, hi, hf, hc => by
    by_cases h : l.length ≤ 1
    · rw [climb_end _ _ _ _ _ h, top_end _ _ h] at hc
      simp only [Option.some.injEq, Prod.mk.injEq] at hc
      obtain ⟨rfl, rfl⟩ := hc
      refine .inr ⟨?_, ?_⟩
      · have h0 : i = 0 := by omega
        subst h0
        cases l with
        | nil => simp at hi
        | cons a r => rfl
      · rw [levs_end _ _ h, pathL_one l i hi h]
    · have hg := getD_up l i hi
      rw [levs_go _ _ h, pathL]
      rw [top_go _ _ h] at hc
      by_cases h2 : sib i < l.length
      · cases ps with
        | nil => rw [climb_stop _ _ _ _ h (by omega)] at hc; cases hc
        | cons p ps =>
          rw [climb_go _ _ _ _ _ _ h (by omega), show l.length - l.length / 2 = (up l).length by rw [up_len]; omega] at hc
          have he : (if i % 2 = 0 then node y p else node p y) = Dg.list (oneL i y p) := by
            unfold oneL nodeL node
            by_cases h3 : i % 2 = 0
            · rw [if_pos h3, if_neg (by omega)]
            · rw [if_neg h3, if_pos (by omega)]
          rw [he] at hc
          rw [fnd_go _ _ _ _ _ _ h h2]
          rcases fnd_sound f (up l) (i / 2) _ ps (by rw [up_len]; omega) (by rw [up_len]; omega) hc with h4 | ⟨h4, h5⟩
          · exact .inl (by rw [h4, Bool.or_true])
          · rw [hg, ← two_pair i l hi h2] at h4
            by_cases h6 : oneL i y p = twoL i l
            · refine .inr ?_
              rw [if_pos h2, h5]
              unfold oneL twoL nodeL at h6
              by_cases h7 : i % 2 = 1
              · rw [if_pos h7, if_pos h7] at h6
                simp only [List.cons.injEq, and_true, true_and] at h6
                refine ⟨h6.2, ?_⟩
                rw [h6.1]
                unfold sib
                rw [if_neg (by omega)]
                rfl
              · rw [if_neg h7, if_neg h7] at h6
                simp only [List.cons.injEq, and_true, true_and] at h6
                refine ⟨h6.1, ?_⟩
                rw [h6.2]
                unfold sib
                rw [if_pos (by omega)]
                rfl
            · refine .inl ?_
              have : clash (oneL i y p) (twoL i l) = true := decide_eq_true ⟨h6, h4⟩
              rw [this, Bool.true_or]
      · rw [climb_skip _ _ _ _ _ h (by omega), show l.length - l.length / 2 = (up l).length by rw [up_len]; omega] at hc
        rw [fnd_skip _ _ _ _ _ h h2]
        rcases fnd_sound f (up l) (i / 2) y ps (by rw [up_len]; omega) (by rw [up_len]; omega) hc with h4 | ⟨h4, h5⟩
        · exact .inl h4
        · refine .inr ⟨?_, by rw [if_neg h2, h5]; rfl⟩
          rw [h4, hg]
          unfold pairOf
          have h8 : sib i = i + 1 ∧ i % 2 = 0 := by
            unfold sib at h2 ⊢
            by_cases h7 : i % 2 = 0
            · rw [if_pos h7]; exact ⟨rfl, h7⟩
            · rw [if_neg h7] at h2; omega
          rw [h8.1] at h2
          rw [if_neg (by omega), show 2 * (i / 2) = i by omega]
theorem found_sound (l : List Bytes) (i : Nat) (t : Bytes) (ps : List Bytes) (hi : i < l.length) (hc : check (root l) (l.length : Int) (i : Int) t ps = true) : found l i t ps = true ∨ (t = l.getD i [] ∧ ps = path l i) := by
  unfold check at hc
  rw [if_neg (by omega)] at hc
  simp only [Int.toNat_natCast] at hc
  have h0 : l ≠ [] := by rintro rfl; simp at hi
  have hcl : climb l.length (l.map leaf).length i (leaf t) ps = some (top l.length (l.map leaf), []) := by
    rw [List.length_map]
    cases hh : climb l.length l.length i (leaf t) ps with
    | none => rw [hh] at hc; cases hc
    | some x =>
      obtain ⟨z, r⟩ := x
      rw [hh] at hc
      simp only [decide_eq_true_eq] at hc
      obtain ⟨rfl, rfl⟩ := hc
      unfold root
      rw [if_neg h0]
  have hg : (l.map leaf).getD i [] = leaf (l.getD i []) := by
    rw [List.getD_eq_getElem?_getD, List.getD_eq_getElem?_getD, List.getElem?_map, List.getElem?_eq_getElem hi]
    rfl
  rcases fnd_sound l.length (l.map leaf) i (leaf t) ps (by simpa using hi) (by simp) hcl with h | ⟨h, h2⟩
  · exact .inl (by unfold found; rw [h, Bool.or_true])
  · rw [hg] at h
    by_cases h3 : t = l.getD i []
    · exact .inr ⟨h3, h2⟩
    · refine .inl ?_
      have : clash (leafL t) (leafL (l.getD i [])) = true := decide_eq_true ⟨by unfold leafL; simpa using h3, h⟩
      unfold found
      rw [this, Bool.true_or]
end Tr
theorem collide_spec (w : World) (HL : Hid (Laid w)) (v u : Value) (a b : List Bytes) (HV : Hid (Strs w v a)) (HU : Hid (Strs w u b)) (ha : a.length ≤ 900) (hb : b.length ≤ 900) (HA : Hid (∀ x ∈ a, x.length ≤ 1000000)) (HB : Hid (∀ x ∈ b, x.length ≤ 1000000)) :
    Calls Tryd.prog 29 #[v, u] w fun e w' => e = .returned (.bool (Tr.clash a b)) ∧ Chg [] w w' := by
  have h1 := same_spec w v u a b HV HU (Lib.hid (by omega)) (Lib.hid (by omega))
  by_cases hab : a = b
  · have HF : Hid (Tr.clash a b = false) := Lib.hid (decide_eq_false (fun h => h.1 hab))
    rw [decide_eq_true hab] at h1
    clear hab
    go_enter Tryd.func29, Tryd.ntmps29
    go_wp2_with fail
    refine h1.mono ?_
    rintro e w2 ⟨rfl, hc⟩
    have HC := Lib.hid hc
    clear hc h1
    go_wp2_with fail
    go_ret
    exact ⟨by rw [HF.out]; rfl, HC.out⟩
  · rw [decide_eq_false hab] at h1
    have HAB := Lib.hid hab
    clear hab
    go_enter Tryd.func29, Tryd.ntmps29
    go_wp2_with fail
    refine h1.mono ?_
    rintro e w2 ⟨rfl, hc⟩
    have HC := Lib.hid hc
    clear hc h1
    go_wp2_with fail
    refine (list_spec _ (Lib.hid (HL.out.quiet HC.out)) v a (Lib.hid (HV.out.quiet HC.out)) ha HA).mono ?_
    rintro e w3 ⟨rfl, hc⟩
    have HC3 := Lib.hid (HC.out.trans hc (by simp))
    clear hc HC
    go_wp2_with fail
    refine (list_spec _ (Lib.hid (HL.out.quiet HC3.out)) u b (Lib.hid (HU.out.quiet HC3.out)) hb HB).mono ?_
    rintro e w4 ⟨rfl, hc⟩
    have HC4 := Lib.hid (HC3.out.trans hc (by simp))
    clear hc HC3
    by_cases hd : Dg.list a = Dg.list b
    · have HF : Hid (Tr.clash a b = true) := Lib.hid (decide_eq_true ⟨HAB.out, hd⟩)
      have hd2 : (Dg.list a == Dg.list b) = true := by rw [beq_iff_eq]; exact hd
      clear hd
      go_wp2_with fail
      go_ret
      exact ⟨by rw [HF.out]; rfl, HC4.out⟩
    · have HF : Hid (Tr.clash a b = false) := Lib.hid (decide_eq_false (fun h => hd h.2))
      have hd2 : (Dg.list a == Dg.list b) = false := by rw [beq_eq_false_iff_ne]; exact hd
      clear hd
      go_wp2_with fail
      go_ret
      exact ⟨by rw [HF.out]; rfl, HC4.out⟩
end Go.Proofs.YtpeehlflhnhhjaaDoor
