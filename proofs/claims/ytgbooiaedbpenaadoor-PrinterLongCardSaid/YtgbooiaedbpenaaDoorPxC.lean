/-
  Plain facts for the reference lexer.
-/
import Derived.Test.YtgbooiaedbpenaaDoorPrJ
import Derived.Test.YtgbooiaedbpenaaDoorLxL
import Derived.Deep.AppendLies
namespace Go.Proofs.YtgbooiaedbpenaaDoor
set_option linter.unusedVariables false
set_option linter.unusedSimpArgs false
open Go Go.RowKit Go.Shelf

namespace Lx
def at' (l : List UInt8) (i : Nat) : Nat := match l[i]? with
  | some b => cls b
  | none => 0
end Lx
namespace Lx
theorem at'_lt {s : Bytes} {i : Nat} (h : i < s.length) : at' s i = cls (s[i]) := by unfold at'; rw [List.getElem?_eq_getElem h]
end Lx
namespace Lx
theorem at'_past {s : Bytes} {i : Nat} (h : s.length ≤ i) : at' s i = 0 := by unfold at'; rw [List.getElem?_eq_none h]
end Lx
namespace Lx
theorem cls_le (c : UInt8) : cls c ≤ 8 := by unfold cls; repeat (split <;> try decide)
end Lx
namespace Lx
theorem at'_le (s : Bytes) (i : Nat) : at' s i ≤ 8 := by
  by_cases h : i < s.length
  · rw [at'_lt h]; exact cls_le _
  · rw [at'_past (by omega)]; decide
end Lx
namespace Lx
theorem wl_drop (p : UInt8 → Bool) (s : Bytes) (j : Nat) (h : j < s.length) : wl p (s.drop j) = if p s[j] then wl p (s.drop (j + 1)) + 1 else 0 := by
  rw [List.drop_eq_getElem_cons h]
  rfl
end Lx
namespace Lx
theorem wl_end (p : UInt8 → Bool) (s : Bytes) (j : Nat) (h : s.length ≤ j) : wl p (s.drop j) = 0 := by
  rw [List.drop_eq_nil_of_le h]
  rfl
end Lx
namespace Lx
/-- What the token's parts are, by the class of its first byte. -/
theorem tok_at (s : Bytes) (i : Nat) (h : i < s.length) : tok (s.drop i) =
    if cls s[i] = 3 then (1, wl word (s.drop i), if 24 < wl word (s.drop i) then 3 else 0)
    else if cls s[i] = 4 then (2, wl dig (s.drop i), if 10 < wl dig (s.drop i) ∨ at' s (i + wl dig (s.drop i)) = 3 ∨ at' s (i + wl dig (s.drop i)) = 5 then 6 else 0)
    else if cls s[i] = 6 ∨ cls s[i] = 7 ∨ cls s[i] = 8 then
      if cls s[i] ≠ 6 ∧ s[i + 1]? = some 61 then (3, 2, 0) else (3, 1, if cls s[i] = 8 then 5 else 0)
    else (0, 0, 5) := by
  have hst : ∀ k, (sticks ((s.drop i).drop k) = true) = (at' s (i + k) = 3 ∨ at' s (i + k) = 5) := fun k => by
    rw [List.drop_drop]
    by_cases hk : i + k < s.length
    · rw [List.drop_eq_getElem_cons hk, at'_lt hk]
      simp [sticks]
    · rw [List.drop_eq_nil_of_le (by omega), at'_past (by omega)]
      simp [sticks]
  have hd := List.drop_eq_getElem_cons h
  have hh : s[i + 1]? = (s.drop (i + 1)).head? := by rw [List.head?_drop]
  have hs := hst (wl dig (s.drop i))
  rw [hd] at hs ⊢
  rw [tok_cons, hh]
  simp only [hs]
end Lx
theorem wl_take {p : UInt8 → Bool} : ∀ (s : Bytes) (c : UInt8), c ∈ s.take (Lx.wl p s) → p c = true
  | [], c, h => by simp at h
  | d :: r, c, h => by
    unfold Lx.wl at h
    split at h
    · rw [List.take_succ_cons] at h
      rcases List.mem_cons.1 h with h | h
      · rw [h]; assumption
      · exact wl_take r c h
    · simp at h
theorem sb_cut {s : Bytes} {sb : ByteArray} (hsb : Hid (sb = ⟨s.toArray⟩)) (a n : Nat) : sb.extract a (a + n) = ⟨((s.drop a).take n).toArray⟩ := by
  rw [hsb.out, ByteArray.extract_mk]
  simp
theorem line_yes {s : Bytes} {sb : ByteArray} (hsb : Hid (sb = ⟨s.toArray⟩)) {m : Nat} (h : m < sb.size) (h' : m < s.length) (hx : ((sb[m].toNat : Int) != 10) = true) : Lx.wl Lx.line (s.drop m) = Lx.wl Lx.line (s.drop (m + 1)) + 1 := by
  rw [sb_get hsb h h'] at hx
  rw [Lx.wl_drop _ _ _ h', if_pos]
  unfold Lx.line
  rw [decide_eq_true_iff]
  intro e
  rw [e] at hx
  revert hx
  decide
theorem line_no {s : Bytes} {sb : ByteArray} (hsb : Hid (sb = ⟨s.toArray⟩)) {m : Nat} (h : m < sb.size) (h' : m < s.length) (hx : ((sb[m].toNat : Int) != 10) = false) : Lx.wl Lx.line (s.drop m) = 0 := by
  rw [sb_get hsb h h'] at hx
  rw [Lx.wl_drop _ _ _ h', if_neg]
  unfold Lx.line
  rw [decide_eq_true_iff, Decidable.not_not]
  have h2 : (s[m].toNat : Int) = 10 := by simpa using hx
  have h3 : s[m].toNat = 10 := by omega
  exact UInt8.toNat.inj h3
theorem wl_more {p : UInt8 → Bool} {s : Bytes} {k j m : Nat} (h : Hid (Lx.wl p (s.drop k) = j + Lx.wl p (s.drop m))) (hm : Hid (m = k + j)) (h1 : Lx.wl p (s.drop m) = Lx.wl p (s.drop (m + 1)) + 1) : Hid (Lx.wl p (s.drop k) = j + 1 + Lx.wl p (s.drop (k + (j + 1)))) := by
  refine Lib.hid ?_
  rw [h.out, h1, hm.out, show k + j + 1 = k + (j + 1) by omega]
  omega
theorem eq61 {s : Bytes} {sb : ByteArray} (hsb : Hid (sb = ⟨s.toArray⟩)) {m : Nat} (h : m < sb.size) (b : Bool) (hx : ((sb[m].toNat : Int) == 61) = b) : (s[m]? = some 61) ↔ b = true := by
  have h' : m < s.length := by have := hsb.out; subst this; exact h
  rw [sb_get hsb h h'] at hx
  rw [List.getElem?_eq_getElem h', ← hx]
  constructor
  · intro e
    rw [Option.some.inj e]
    rfl
  · intro e
    have h2 : (s[m].toNat : Int) = 61 := by simpa using e
    have h3 : s[m].toNat = 61 := by omega
    exact congrArg some (UInt8.toNat.inj h3)
def tkv (t : Lx.Tk) : Value := .agg #[.int .i64 t.kind, .string ⟨t.text.toArray⟩, .int .i64 t.n, .int .i64 t.at_]
theorem mk_n {s : Bytes} {o kd ln er : Nat} (h : Lx.tok s = (kd, ln, er)) : (Lx.mk o s).n = if kd = 2 ∧ er = 0 then Lx.num (s.take ln) else 0 := by unfold Lx.mk; rw [h]
theorem line_pos2 {s : Bytes} {k : Nat} (h : k < s.length) (hc : Lx.at' s k = 2) : 0 < Lx.wl Lx.line (s.drop k) := by
 rw [Lx.at'_lt h] at hc
 rw [List.drop_eq_getElem_cons h]
 exact Lx.wl_pos (by
  unfold Lx.line
  rw [decide_eq_true_iff]
  intro e
  rw [e] at hc
  revert hc
  decide +kernel)
theorem row_keptB {w w' : World} {B : Nat} {e : TypeId} {size : Nat} {v : Value} {n : Nat} {xs : List Value} (h : w.ownsRow B e size v n xs) (hc : Chg [] w w') : w'.ownsRow B e size v n xs := by
  refine ⟨h.1, ?_⟩
  rcases h.2 with h0 | ⟨g, cap, cur, rfl, hb, hg, rest⟩
  · exact .inl h0
  · exact .inr ⟨g, cap, cur, rfl, hb, (hc.block g (Array.getElem?_eq_some_iff.1 hg).1 (by simp)).trans hg, rest⟩
theorem owns_form {w : World} {base : Nat} {e : TypeId} {size : Nat} {v : Value} {n : Nat} {xs : List Value} (h : w.ownsRow base e size v n xs) : ∃ ao cap, v = .slice ao n cap := by
  rcases h.2 with ⟨rfl, rfl⟩ | ⟨g, cap, cur, rfl, _⟩
  · exact ⟨_, _, rfl⟩
  · exact ⟨_, _, rfl⟩
theorem info_tok : (Tryd.prog.info? 137).map (fun i => (i.zero, i.size, i.bytes)) = some (some (.agg #[.int .i64 0, .string ⟨#[]⟩, .int .i64 0, .int .i64 0]), 4, 40) := by kernel_rfl
/-- A token's cells. -/
def tkc (t : Lx.Tk) : List Value := [.int .i64 t.kind, .string ⟨t.text.toArray⟩, .int .i64 t.n, .int .i64 t.at_]
/-- A list of tokens that can be read. -/
def TokS (w : World) (v : Value) (l : List Lx.Tk) : Prop := ∃ ao cap, v = .slice ao l.length cap ∧ l.length ≤ cap ∧ ∀ (i : Nat) (t : Lx.Tk), l[i]? = some t → ∃ g off, ao = some ⟨g, off, none⟩ ∧
  w.cell? ⟨g, off + 4 * i, none⟩ = some (.int .i64 t.kind) ∧ w.cell? ⟨g, off + 4 * i + 1, none⟩ = some (.string ⟨t.text.toArray⟩) ∧ w.cell? ⟨g, off + 4 * i + 2, none⟩ = some (.int .i64 t.n) ∧ w.cell? ⟨g, off + 4 * i + 3, none⟩ = some (.int .i64 t.at_)
theorem TokS.quiet {w w' : World} {v : Value} {l : List Lx.Tk} (h : TokS w v l) (hc : Chg [] w w') : TokS w' v l := by
  obtain ⟨ao, cap, h1, h2, h3⟩ := h
  refine ⟨ao, cap, h1, h2, fun i t ht => ?_⟩
  obtain ⟨g, off, h4, h5, h6, h7, h8⟩ := h3 i t ht
  have hg := hc.block g (World.block_lt_of_cell? _ _ h5) (by simp)
  exact ⟨g, off, h4, (World.cell?_of_block (a := ⟨g, off + 4 * i, none⟩) hg).trans h5, (World.cell?_of_block (a := ⟨g, off + 4 * i + 1, none⟩) hg).trans h6, (World.cell?_of_block (a := ⟨g, off + 4 * i + 2, none⟩) hg).trans h7, (World.cell?_of_block (a := ⟨g, off + 4 * i + 3, none⟩) hg).trans h8⟩
theorem flat4 (l : List Lx.Tk) (i j : Nat) (hj : j < 4) (t : Lx.Tk) (h : l[i]? = some t) : (l.flatMap tkc)[4 * i + j]? = (tkc t)[j]? := by
  induction l generalizing i with
  | nil => simp at h
  | cons a r ih =>
    rw [List.flatMap_cons]
    cases i with
    | zero =>
      simp only [List.getElem?_cons_zero, Option.some.injEq] at h
      subst h
      rw [Nat.mul_zero, Nat.zero_add, List.getElem?_append_left (by show j < 4; exact hj)]
    | succ i =>
      rw [List.getElem?_append_right (by show 4 ≤ _; omega), show 4 * (i + 1) + j - (tkc a).length = 4 * i + j by show 4 * (i + 1) + j - 4 = _; omega]
      exact ih i (by simpa using h)
theorem flat_len (l : List Lx.Tk) : (l.flatMap tkc).length = l.length * 4 := by
  induction l with
  | nil => rfl
  | cons a r ih => rw [List.flatMap_cons, List.length_append, ih, List.length_cons]; show 4 + _ = _; omega
theorem toks_of_owns {w : World} {base : Nat} {e : TypeId} {v : Value} {l : List Lx.Tk} (h : w.ownsRow base e 4 v l.length (l.flatMap tkc)) : TokS w v l := by
  rcases h.2 with ⟨rfl, h0⟩ | ⟨g, cap, cur, rfl, _, hg, hle, _, hsz, ht⟩
  · have : l = [] := List.eq_nil_of_length_eq_zero h0
    subst this
    exact ⟨none, 0, rfl, Nat.le_refl _, fun i t h => by simp at h⟩
  · refine ⟨some ⟨g, 0, none⟩, cap, rfl, hle, fun i t hi => ⟨g, 0, rfl, ?_⟩⟩
    have hlt := (List.getElem?_eq_some_iff.1 hi).1
    have key : ∀ j, j < 4 → w.cell? ⟨g, 0 + 4 * i + j, none⟩ = (tkc t)[j]? := fun j hj => by
      have h1 := flat4 l i j hj t hi
      rw [← ht, List.getElem?_take_of_lt (by omega)] at h1
      rw [Nat.zero_add, cell_of_row w g _ _ e (0, 0) hg, ← h1]
      simp
    exact ⟨key 0 (by decide), key 1 (by decide), key 2 (by decide), key 3 (by decide)⟩
namespace Lx
theorem fin_all : ∀ (l : List (Tk × Nat)) (k : Nat) (out : List Tk), (∀ x ∈ l, x.2 = 0) → k + l.length ≤ 5000 → fin k out l = (out ++ l.map Prod.fst, 0, 0)
 | [], k, out, _, _ => by simp [fin]
 | (t, e) :: r, k, out, h, hk => by
  have he : e = 0 := h (t, e) (by simp)
  simp only [List.length_cons] at hk
  unfold fin
  rw [if_neg (by simpa using he), if_neg (by omega), fin_all r (k + 1) _ (fun x hx => h x (by simp [hx])) (by omega)]
  simp
end Lx
namespace Lx
theorem fin_stop : ∀ (p : List (Tk × Nat)) (x : Tk × Nat) (post : List (Tk × Nat)) (k : Nat) (out : List Tk), (∀ y ∈ p, y.2 = 0) → k + p.length ≤ 5000 →
 fin k out (p ++ x :: post) = if x.2 ≠ 0 then (([] : List Tk), x.2, (x.1.at_ : Int)) else if k + p.length = 5000 then (([] : List Tk), 3, (x.1.at_ : Int)) else fin (k + p.length + 1) (out ++ p.map Prod.fst ++ [x.1]) post
 | [], (t, e), post, k, out, _, _ => by simp [fin]
 | (t, e) :: r, x, post, k, out, h, hk => by
  have he : e = 0 := h (t, e) (by simp)
  simp only [List.length_cons] at hk ⊢
  rw [List.cons_append, fin, if_neg (by simpa using he), if_neg (by omega), fin_stop r x post (k + 1) _ (fun y hy => h y (by simp [hy])) (by omega)]
  simp only [show k + 1 + r.length = k + (r.length + 1) by omega, List.map_cons, List.append_assoc, List.singleton_append, List.cons_append, List.nil_append]
end Lx
end Go.Proofs.YtgbooiaedbpenaaDoor
