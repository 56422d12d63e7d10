/-
  Layer 9: the plain laws that the iterator's walk wants: how a scan goes on, how a run of bytes is counted, what Atoi makes of digits.
-/
import Derived.Test.YtocadlcglgpdcaaDoorLxE
import Derived.Test.YtocadlcglgpdcaaDoorShelf
namespace Go.Proofs.YtocadlcglgpdcaaDoor
set_option linter.unusedVariables false
set_option linter.unusedSimpArgs false
open Go Go.RowKit
namespace Lx
theorem at'_lt {s : Bytes} {i : Nat} (h : i < s.length) : at' s i = cls (s[i]) := by unfold at'; rw [List.getElem?_eq_getElem h]
theorem at'_past {s : Bytes} {i : Nat} (h : s.length ≤ i) : at' s i = 0 := by unfold at'; rw [List.getElem?_eq_none h]
theorem cls_le (c : UInt8) : cls c ≤ 8 := by unfold cls; repeat (split <;> try decide)
theorem at'_le (s : Bytes) (i : Nat) : at' s i ≤ 8 := by
  by_cases h : i < s.length
  · rw [at'_lt h]; exact cls_le _
  · rw [at'_past (by omega)]; decide
theorem wl_drop (p : UInt8 → Bool) (s : Bytes) (j : Nat) (h : j < s.length) : wl p (s.drop j) = if p s[j] then wl p (s.drop (j + 1)) + 1 else 0 := by
  rw [List.drop_eq_getElem_cons h]
  rfl
theorem wl_end (p : UInt8 → Bool) (s : Bytes) (j : Nat) (h : s.length ≤ j) : wl p (s.drop j) = 0 := by
  rw [List.drop_eq_nil_of_le h]
  rfl
/-- What is found from offset i on. -/
def from' (s : Bytes) (i : Nat) : List (Tk × Nat) := scan s.length i (s.drop i)
theorem from_end (s : Bytes) (i : Nat) (h : s.length ≤ i) : from' s i = [] := by
  unfold from'
  rw [List.drop_eq_nil_of_le h]
  cases s.length <;> rfl
theorem from_eq (s : Bytes) (i : Nat) (h : i < s.length) : from' s i =
    if cls s[i] = 1 then from' s (i + 1)
    else if cls s[i] = 2 then from' s (i + wl line (s.drop i))
    else if (tok (s.drop i)).2.2 ≠ 0 then [(mk i (s.drop i), (tok (s.drop i)).2.2)]
    else (mk i (s.drop i), 0) :: from' s (i + (tok (s.drop i)).2.1) := by
  have hd := List.drop_eq_getElem_cons h
  have hf := scan_fuel s.length (s.length - i - 1 + 1) i (s.drop i) (by rw [List.length_drop]; omega) (by rw [List.length_drop]; omega)
  unfold from'
  rw [hf]
  have hl : (s.drop i).length = s.length - i := List.length_drop
  have hg : ∀ k, 0 < k → scan (s.length - i - 1) (i + k) ((s.drop i).drop k) = scan s.length (i + k) (s.drop (i + k)) := fun k hk => by
    rw [List.drop_drop]
    exact scan_fuel _ _ _ _ (by rw [List.length_drop]; omega) (by rw [List.length_drop]; omega)
  have h1 := hg 1 (by decide)
  have h2 := hg (wl line (s.drop i))
  have h3 := hg (tok (s.drop i)).2.1
  have h4 : cls s[i] = 2 → 0 < wl line (s.drop i) := fun e => by
    rw [hd]
    exact wl_pos (by
      unfold line
      rw [decide_eq_true_iff]
      intro e'
      rw [e'] at e
      revert e
      decide)
  have h5 : (tok (s.drop i)).2.2 = 0 → 0 < (tok (s.drop i)).2.1 := fun e => by
    rw [hd] at e ⊢
    exact (tok_pos e).1
  rw [hd] at h1 h2 h3 h4 h5 ⊢
  rw [scan]
  split
  · exact h1
  · split
    · rename_i e1 e2
      exact h2 (h4 e2)
    · split
      · rfl
      · rename_i e1 e2 e3
        rw [h3 (h5 (by simpa using e3))]
/-- What the token's parts are, by the class of its first byte. -/
theorem tok_at (s : Bytes) (i : Nat) (h : i < s.length) : tok (s.drop i) =
    if cls s[i] = 3 then (1, wl word (s.drop i), if 24 < wl word (s.drop i) then 3 else 0)
    else if cls s[i] = 4 then (2, wl dig (s.drop i), if 10 < wl dig (s.drop i) ∨ at' s (i + wl dig (s.drop i)) = 3 ∨ at' s (i + wl dig (s.drop i)) = 5 then 6 else 0)
    else if cls s[i] = 6 ∨ cls s[i] = 7 ∨ cls s[i] = 8 then
      if cls s[i] ≠ 6 ∧ s[i + 1]? = some 61 then (3, 2, 0) else (3, 1, if cls s[i] = 8 then 5 else 0)
    else (0, 0, 5) := by
  have hst : ∀ k, (sticks ((s.drop i).drop k) = true) = (at' s (i + k) = 3 ∨ at' s (i + k) = 5) := fun k => by
    rw [List.drop_drop]
    by_cases hk : i + k < s.length
    · rw [List.drop_eq_getElem_cons hk, at'_lt hk]
      simp [sticks]
    · rw [List.drop_eq_nil_of_le (by omega), at'_past (by omega)]
      simp [sticks]
  have hd := List.drop_eq_getElem_cons h
  have hh : s[i + 1]? = (s.drop (i + 1)).head? := by rw [List.head?_drop]
  have hs := hst (wl dig (s.drop i))
  rw [hd] at hs ⊢
  rw [tok_cons, hh]
  simp only [hs]
end Lx
theorem dec_num : ∀ (l : Bytes) (a : Nat), (∀ c ∈ l, Lx.cls c = 4) → Lib.decFrom a l = some (l.foldl (fun a c => 10 * a + (c.toNat - 48)) a)
  | [], a, _ => rfl
  | c :: r, a, h => by
    have hc := h c (by simp)
    have hd : 48 ≤ c.toNat ∧ c.toNat ≤ 57 := by
      unfold Lx.cls at hc
      by_cases h1 : 48 ≤ c.toNat ∧ c.toNat ≤ 57
      · exact h1
      · rw [if_neg h1] at hc
        exfalso
        revert hc
        repeat (split <;> try decide)
    have hv : Lib.digitVal c = some (c.toNat - 48) := by unfold Lib.digitVal; rw [if_pos hd]
    rw [Lib.decFrom, hv]
    simp only
    rw [dec_num r _ (fun x hx => h x (by simp [hx])), List.foldl_cons, Nat.mul_comm]
theorem atoi_num (l : Bytes) (h0 : l ≠ []) (h : ∀ c ∈ l, Lx.cls c = 4) : Lib.atoi l = some ((Lx.num l : Nat) : Int) := by
  cases l with
  | nil => exact absurd rfl h0
  | cons c r =>
    have hc := h c (by simp)
    have e1 : (c == 45) = false := by
      rw [beq_eq_false_iff_ne]
      rintro rfl
      revert hc
      decide
    have e2 : (c == 43) = false := by
      rw [beq_eq_false_iff_ne]
      rintro rfl
      revert hc
      decide
    show (if (c == 45) = true then _ else if (c == 43) = true then _ else Option.map (fun (m : Nat) => (m : Int)) (Lib.decNat (c :: r))) = _
    rw [e1, e2]
    simp only [Bool.false_eq_true, if_false]
    unfold Lib.decNat
    rw [if_neg (by simp), dec_num _ _ h]
    rfl
theorem wl_take {p : UInt8 → Bool} : ∀ (s : Bytes) (c : UInt8), c ∈ s.take (Lx.wl p s) → p c = true
  | [], c, h => by simp at h
  | d :: r, c, h => by
    unfold Lx.wl at h
    split at h
    · rw [List.take_succ_cons] at h
      rcases List.mem_cons.1 h with h | h
      · rw [h]; assumption
      · exact wl_take r c h
    · simp at h
namespace Lx
theorem wl_at (p : UInt8 → Bool) (C : Nat → Bool) (hp : ∀ c, p c = C (cls c)) (h0 : C 0 = false) (s : Bytes) (j : Nat) :
    wl p (s.drop j) = (if C (at' s j) = true then wl p (s.drop (j + 1)) + 1 else 0) ∧ (C (at' s j) = true → j < s.length) := by
  by_cases h : j < s.length
  · rw [wl_drop p s j h, at'_lt h, hp]
    exact ⟨rfl, fun _ => h⟩
  · rw [wl_end p s j (by omega), at'_past (by omega), h0]
    exact ⟨rfl, fun e => by cases e⟩
theorem wl_word (s : Bytes) (j : Nat) : wl word (s.drop j) = (if at' s j = 3 ∨ at' s j = 4 ∨ at' s j = 5 then wl word (s.drop (j + 1)) + 1 else 0) ∧ ((at' s j = 3 ∨ at' s j = 4 ∨ at' s j = 5) → j < s.length) := by
  have h := wl_at word (fun n => decide (n = 3 ∨ n = 4 ∨ n = 5)) (fun c => rfl) (by decide) s j
  simpa using h
theorem wl_dig (s : Bytes) (j : Nat) : wl dig (s.drop j) = (if at' s j = 4 then wl dig (s.drop (j + 1)) + 1 else 0) ∧ (at' s j = 4 → j < s.length) := by
  have h := wl_at dig (fun n => decide (n = 4)) (fun c => rfl) (by decide) s j
  simpa using h
end Lx
attribute [local irreducible] Lx.tab Lx.tab0 Lx.cls
/-- at, over a list of bytes. -/
theorem at_list (w : World) (s : Bytes) (i : Int) (i' : Nat) (hi : i = (i' : Int)) (b c : Nat) (sb : ByteArray) (hsb : Hid (sb = ⟨s.toArray⟩)) (hb : w.cell? ⟨b, 0, none⟩ = some (.string sb)) (hc : Blk w c Lx.tab 96) :
    Calls Tryd.prog 43 #[.int .i64 i, .pointer (some ⟨b, 0, none⟩), .pointer (some ⟨c, 0, none⟩)] w fun e w' => e = .returned (.int .u8 (Lx.at' s i' : Nat)) ∧ w' = w := by
  subst hi
  rw [hsb.out] at hb
  by_cases h : i' < s.length
  · rw [Lx.at'_lt h]
    exact at_in w ⟨s.toArray⟩ i' b c hb hc h
  · rw [Lx.at'_past (by omega)]
    exact at_past w ⟨s.toArray⟩ i' b c hb (show s.length ≤ i' by omega)
theorem sb_get {s : Bytes} {sb : ByteArray} (hsb : Hid (sb = ⟨s.toArray⟩)) {m : Nat} (h : m < sb.size) (h' : m < s.length) : sb[m] = s[m] := by
  have := hsb.out
  subst this
  rfl
theorem sb_cut {s : Bytes} {sb : ByteArray} (hsb : Hid (sb = ⟨s.toArray⟩)) (a n : Nat) : sb.extract a (a + n) = ⟨((s.drop a).take n).toArray⟩ := by
  rw [hsb.out, ByteArray.extract_mk]
  simp
theorem line_yes {s : Bytes} {sb : ByteArray} (hsb : Hid (sb = ⟨s.toArray⟩)) {m : Nat} (h : m < sb.size) (h' : m < s.length) (hx : ((sb[m].toNat : Int) != 10) = true) : Lx.wl Lx.line (s.drop m) = Lx.wl Lx.line (s.drop (m + 1)) + 1 := by
  rw [sb_get hsb h h'] at hx
  rw [Lx.wl_drop _ _ _ h', if_pos]
  unfold Lx.line
  rw [decide_eq_true_iff]
  intro e
  rw [e] at hx
  revert hx
  decide
theorem line_no {s : Bytes} {sb : ByteArray} (hsb : Hid (sb = ⟨s.toArray⟩)) {m : Nat} (h : m < sb.size) (h' : m < s.length) (hx : ((sb[m].toNat : Int) != 10) = false) : Lx.wl Lx.line (s.drop m) = 0 := by
  rw [sb_get hsb h h'] at hx
  rw [Lx.wl_drop _ _ _ h', if_neg]
  unfold Lx.line
  rw [decide_eq_true_iff, Decidable.not_not]
  have h2 : (s[m].toNat : Int) = 10 := by simpa using hx
  have h3 : s[m].toNat = 10 := by omega
  exact UInt8.toNat.inj h3
theorem wl_more {p : UInt8 → Bool} {s : Bytes} {k j m : Nat} (h : Hid (Lx.wl p (s.drop k) = j + Lx.wl p (s.drop m))) (hm : Hid (m = k + j)) (h1 : Lx.wl p (s.drop m) = Lx.wl p (s.drop (m + 1)) + 1) : Hid (Lx.wl p (s.drop k) = j + 1 + Lx.wl p (s.drop (k + (j + 1)))) := by
  refine Lib.hid ?_
  rw [h.out, h1, hm.out, show k + j + 1 = k + (j + 1) by omega]
  omega
theorem eq61 {s : Bytes} {sb : ByteArray} (hsb : Hid (sb = ⟨s.toArray⟩)) {m : Nat} (h : m < sb.size) (b : Bool) (hx : ((sb[m].toNat : Int) == 61) = b) : (s[m]? = some 61) ↔ b = true := by
  have h' : m < s.length := by have := hsb.out; subst this; exact h
  rw [sb_get hsb h h'] at hx
  rw [List.getElem?_eq_getElem h', ← hx]
  constructor
  · intro e
    rw [Option.some.inj e]
    rfl
  · intro e
    have h2 : (s[m].toNat : Int) = 61 := by simpa using e
    have h3 : s[m].toNat = 61 := by omega
    exact congrArg some (UInt8.toNat.inj h3)
end Go.Proofs.YtocadlcglgpdcaaDoor
