/-
  Journal, plain laws: writes on a disk that may be armed: all is done, or the power goes and a part is done.
-/
import Derived.Test.YtpmkgedlnanjiaaGreatDoorJnC
namespace Go.Proofs.YtpmkgedlnanjiaaGreatDoor
set_option linter.unusedVariables false
set_option linter.unusedSimpArgs false
open Go
namespace Jn
/-- Sectors with their places. -/
def items : Nat → List Bytes → List (Nat × Bytes)
  | _, [] => []
  | p, s :: r => (p, s) :: items (p + 1) r
theorem items_take : ∀ (l : List Bytes) (p k : Nat), (items p l).take k = items p (l.take k)
  | [], p, k => by simp [items]
  | s :: r, p, 0 => rfl
  | s :: r, p, k + 1 => by
    show (p, s) :: (items (p + 1) r).take k = (p, s) :: items (p + 1) (r.take k)
    rw [items_take r (p + 1) k]
theorem items_len : ∀ (l : List Bytes) (p : Nat), (items p l).length = l.length
  | [], p => rfl
  | s :: r, p => by
    show (items (p + 1) r).length + 1 = r.length + 1
    rw [items_len r (p + 1)]
theorem items_drop : ∀ (l : List Bytes) (p k : Nat), k < l.length → ∃ r, (items p l).drop k = (p + k, l.getD k []) :: r
  | [], p, k, h => by simp at h
  | s :: r, p, 0, h => ⟨_, rfl⟩
  | s :: r, p, k + 1, h => by
    obtain ⟨x, hx⟩ := items_drop r (p + 1) k (by simpa using h)
    refine ⟨x, ?_⟩
    show (items (p + 1) r).drop k = _
    rw [hx, show p + 1 + k = p + (k + 1) by omega]
    rfl
theorem items_64 : ∀ (l : List Bytes) (p : Nat), (∀ s ∈ l, s.length = 64) → ∀ x ∈ items p l, x.2.length = 64
  | [], p, h, x, hx => by simp [items] at hx
  | s :: r, p, h, x, hx => by
    rcases List.mem_cons.1 (show x ∈ (p, s) :: items (p + 1) r from hx) with rfl | hx
    · exact h s (List.mem_cons_self ..)
    · exact items_64 r (p + 1) (fun y hy => h y (List.mem_cons_of_mem _ hy)) x hx
theorem items_last : ∀ (l : List Bytes) (p i : Nat) (d : Bytes), DK.last (items p l) i d = if p ≤ i ∧ i < p + l.length then l.getD (i - p) [] else d
  | [], p, i, d => by
    rw [if_neg (by rw [List.length_nil]; omega)]
    rfl
  | s :: r, p, i, d => by
    show DK.last (items (p + 1) r) i (if p = i then s else d) = _
    rw [items_last r (p + 1) i, List.length_cons]
    by_cases h4 : p = i
    · subst h4
      rw [if_neg (by omega), if_pos rfl, if_pos (by omega), Nat.sub_self]
      rfl
    · by_cases h5 : p + 1 ≤ i ∧ i < p + 1 + r.length
      · rw [if_pos h5, if_pos (by omega), show i - p = (i - (p + 1)) + 1 by omega]
        rfl
      · rw [if_neg h5, if_neg h4, if_neg (by omega)]
theorem put_st (D : DK) (s : Nat) (t : Bytes) (i : Nat) : (D.put s t).st i = if i = s then t ++ (D.st s).drop t.length else D.st i := rfl
theorem put_el (D : DK) (s : Nat) (t : Bytes) (i : Nat) : (D.put s t).el i = if i = s then D.st s else D.el i := rfl
theorem settle_el : ∀ (l : List Bytes) (p : Nat) (D : DK) (i : Nat), (D.settle (items p l)).el i = if p ≤ i ∧ i < p + l.length then D.st i else D.el i
  | [], p, D, i => by
    rw [if_neg (by rw [List.length_nil]; omega)]
    rfl
  | s :: r, p, D, i => by
    show ((D.put p s).settle (items (p + 1) r)).el i = _
    rw [settle_el r (p + 1), put_st, put_el, List.length_cons]
    by_cases h4 : p = i
    · subst h4
      rw [if_neg (by omega), if_pos rfl, if_pos (by omega)]
    · have h6 : ¬ i = p := fun h => h4 h.symm
      rw [if_neg h6, if_neg h6]
      by_cases h5 : p + 1 ≤ i ∧ i < p + 1 + r.length
      · rw [if_pos h5, if_pos (by omega)]
      · rw [if_neg h5, if_neg (by omega)]
theorem count_up {D : DK} (h : D.off = false) : (∃ a, D.count = (0, { D with arm := a })) ∨ ∃ w b, D.count = (24, D.down w b) := by
  unfold DK.count
  cases ha : D.arm with
  | none => exact .inl ⟨none, by simp only; rw [← ha]⟩
  | some x =>
    obtain ⟨a, w, b⟩ := x
    simp only
    by_cases h0 : 0 < a
    · rw [if_pos h0]
      exact .inl ⟨_, rfl⟩
    · rw [if_neg h0]
      refine .inr ⟨w, b, ?_⟩
      unfold DK.fail
      rw [h, if_neg (by decide)]
theorem write_up {D : DK} (h : D.off = false) {p : Nat} {s : Bytes} (hp : p < D.n) (hs : s.length = 64) : (∃ a, D.write (p : Int) s = (0, { D with q := D.q ++ [(p, s)], arm := a })) ∨ ∃ w b, D.write (p : Int) s = (24, DK.down { D with q := D.q ++ [(p, s)] } w b) := by
  have hv : D.valid (p : Int) = true := by unfold DK.valid; exact decide_eq_true ⟨by omega, by omega⟩
  have e : D.write (p : Int) s = (DK.count { D with q := D.q ++ [(p, s)] }) := by
    unfold DK.write
    rw [if_neg (by rw [h]; decide), hv, if_neg (by decide), if_neg (fun hn => hn hs)]
    rfl
  rw [e]
  rcases count_up (D := { D with q := D.q ++ [(p, s)] }) h with ⟨a, ha⟩ | ⟨w, b, hb⟩
  · exact .inl ⟨a, ha⟩
  · exact .inr ⟨w, b, hb⟩
theorem writes_cons (D : DK) (p : Nat) (s : Bytes) (r : List Bytes) : writes D p (s :: r) = if (D.write (p : Int) s).1 ≠ 0 then D.write (p : Int) s else writes (D.write (p : Int) s).2 (p + 1) r := rfl
theorem writes_up : ∀ (l : List Bytes) (p : Nat) {D : DK}, D.off = false → p + l.length ≤ D.n → (∀ s ∈ l, s.length = 64) →
    (∃ a, writes D p l = (0, { D with q := D.q ++ items p l, arm := a })) ∨ ∃ m w b a, m ≤ l.length ∧ writes D p l = (24, DK.down { D with q := D.q ++ items p (l.take m), arm := a } w b)
  | [], p, D, h, hp, hl => .inl ⟨D.arm, by rw [show items p [] = [] from rfl, List.append_nil]; rfl⟩
  | s :: r, p, D, h, hp, hl => by
    rw [List.length_cons] at hp
    rw [writes_cons]
    rcases write_up h (p := p) (by omega) (hl s (List.mem_cons_self ..)) with ⟨a, e⟩ | ⟨w, b, e⟩
    · rw [e, if_neg (fun h => h rfl)]
      rcases writes_up r (p + 1) (D := { D with q := D.q ++ [(p, s)], arm := a }) h (by show p + 1 + r.length ≤ D.n; omega) (fun x hx => hl x (List.mem_cons_of_mem _ hx)) with ⟨a2, e2⟩ | ⟨m, w, b, a2, hm, e2⟩
      · refine .inl ⟨a2, ?_⟩
        rw [e2]
        simp only [List.append_assoc]
        rfl
      · refine .inr ⟨m + 1, w, b, a2, by rw [List.length_cons]; omega, ?_⟩
        rw [e2]
        simp only [List.append_assoc]
        rfl
    · rw [e, if_pos (by show (24 : Int) ≠ 0; decide)]
      exact .inr ⟨1, w, b, D.arm, by rw [List.length_cons]; omega, rfl⟩
theorem writes_ok : ∀ (l : List Bytes) (p : Nat) {D : DK}, D.Ok → (writes D p l).2.Ok ∧ (writes D p l).2.n = D.n
  | [], p, D, h => ⟨h, rfl⟩
  | s :: r, p, D, h => by
    rw [writes_cons]
    split
    · exact ⟨DK.write_ok h _ _, DK.write_n _ _ _⟩
    · obtain ⟨h1, h2⟩ := writes_ok r (p + 1) (DK.write_ok h (p : Int) s)
      exact ⟨h1, h2.trans (DK.write_n _ _ _)⟩
theorem put_ok (l : List Bytes) (p : Nat) {D : DK} (h : D.Ok) : (put D p l).2.Ok ∧ (put D p l).2.n = D.n := by
  obtain ⟨h1, h2⟩ := writes_ok l p h
  unfold put
  split
  · exact ⟨h1, h2⟩
  · exact ⟨DK.sync_ok h1, (DK.sync_n _).trans h2⟩
/-- The first sectors are written, and the first bytes of the next one. -/
def Cut (D : DK) (p : Nat) (l : List Bytes) (E : DK) : Prop :=
  ∃ k b, k ≤ l.length ∧ b ≤ 64 ∧ (k = l.length → b = 0) ∧ ∀ i, i < D.n → E.st i = if p ≤ i ∧ i < p + k then l.getD (i - p) [] else if i = p + k then (l.getD k []).take b ++ (D.st i).drop b else D.st i
theorem down_cut {D : DK} (h : ∀ i, i < D.n → (D.st i).length = 64) {p m : Nat} {l : List Bytes} (hm : m ≤ l.length) (hl : ∀ s ∈ l, s.length = 64) (hp : p + l.length ≤ D.n) (a : Option (Int × Int × Int)) (w b : Int) :
    Cut D p l (DK.down { D with q := items p (l.take m), arm := a } w b) := by
  obtain ⟨F, hF⟩ : ∃ F : DK, F = { D with q := items p (l.take m), arm := a } := ⟨_, rfl⟩
  rw [← hF]
  have hq : F.q = items p (l.take m) := by rw [hF]
  have hst : F.st = D.st := by rw [hF]
  have hc := DK.cut_le F w
  have hlm : (l.take m).length = m := by rw [List.length_take]; omega
  rw [hq, items_len, hlm] at hc
  obtain ⟨k, hk⟩ : ∃ k, k = F.cut w := ⟨_, rfl⟩
  rw [← hk] at hc
  have e1 : F.q.take k = items p (l.take k) := by rw [hq, items_take, List.take_take, Nat.min_eq_left hc]
  have hlk : (l.take k).length = k := by rw [List.length_take]; omega
  have hs1 : ∀ i, i < D.n → (F.settle (F.q.take k)).st i = if p ≤ i ∧ i < p + k then l.getD (i - p) [] else D.st i := fun i hi => by
    rw [e1, DK.settle_cur i _ _ (by rw [hst]; exact h i hi) (items_64 _ _ (fun s hs => hl s (List.mem_of_mem_take hs))), items_last, hst, hlk]
    by_cases hr : p ≤ i ∧ i < p + k
    · rw [if_pos hr, if_pos hr, List.getD_eq_getElem?_getD, List.getD_eq_getElem?_getD, List.getElem?_take, if_pos (by omega)]
    · rw [if_neg hr, if_neg hr]
  have hd : ∀ i, (F.down w b).st i = ((F.settle (F.q.take k)).tear (F.q.drop k) b).st i := fun i => by rw [hk]; rfl
  by_cases hkm : k < m
  · obtain ⟨r, hr⟩ := items_drop (l.take m) p k (by rw [hlm]; exact hkm)
    have hg : (l.take m).getD k [] = l.getD k [] := by rw [List.getD_eq_getElem?_getD, List.getD_eq_getElem?_getD, List.getElem?_take, if_pos hkm]
    have hgl : (l.getD k []).length = 64 := by rw [List.getD_eq_getElem?_getD, List.getElem?_eq_getElem (by omega)]; exact hl _ (List.getElem_mem _)
    have ht := DK.torn_le b
    refine ⟨k, DK.torn b, by omega, ht, fun he => by omega, fun i hi => ?_⟩
    rw [hd, hq, hr]
    unfold DK.tear
    simp only
    rw [← hq, hg]
    by_cases hb : 0 < DK.torn b
    · rw [if_pos hb, put_st, hs1 i hi, hs1 (p + k) (by omega), List.length_take, hgl, Nat.min_eq_left ht]
      by_cases hi2 : i = p + k
      · subst hi2
        rw [if_pos rfl, if_neg (by omega), if_neg (by omega), if_pos rfl]
      · rw [if_neg hi2, if_neg hi2]
    · rw [if_neg hb, hs1 i hi, show DK.torn b = 0 by omega, List.take_zero, List.drop_zero, List.nil_append]
      by_cases hi2 : p ≤ i ∧ i < p + k
      · rw [if_pos hi2, if_pos hi2]
      · rw [if_neg hi2, if_neg hi2, ite_self]
  · have hr : F.q.drop k = [] := List.drop_eq_nil_of_le (by rw [hq, items_len, hlm]; omega)
    refine ⟨k, 0, by omega, by omega, fun _ => rfl, fun i hi => ?_⟩
    rw [hd, hr]
    unfold DK.tear
    simp only
    rw [hs1 i hi, List.take_zero, List.drop_zero, List.nil_append]
    by_cases hi2 : p ≤ i ∧ i < p + k
    · rw [if_pos hi2, if_pos hi2]
    · rw [if_neg hi2, if_neg hi2, ite_self]
/-- A disk that is on, with nothing pending; it may be armed. -/
structure Up (D : DK) : Prop where
  off : D.off = false
  q : D.q = []
  ok : D.Ok
/-- A disk that is off. -/
structure Down (D : DK) : Prop where
  off : D.off = true
  arm : D.arm = none
  q : D.q = []
  ok : D.Ok
theorem cur_st {D : DK} (h : D.q = []) (i : Nat) : D.cur i = D.st i := by
  unfold DK.cur
  rw [h]
  rfl
theorem Up.put {D : DK} (h : Up D) (p : Nat) (l : List Bytes) (hp : p + l.length ≤ D.n) (hl : ∀ s ∈ l, s.length = 64) :
    (∃ E, Jn.put D p l = (0, E) ∧ Up E ∧ E.n = D.n ∧ (∀ i, i < D.n → E.st i = if p ≤ i ∧ i < p + l.length then l.getD (i - p) [] else D.st i) ∧ ∀ i, E.el i = if p ≤ i ∧ i < p + l.length then D.st i else D.el i) ∨
      ∃ E, Jn.put D p l = (24, E) ∧ Down E ∧ E.n = D.n ∧ Cut D p l E := by
  obtain ⟨hok, hn⟩ := Jn.put_ok l p h.ok
  have hq0 : ∀ x, D.q ++ x = x := fun x => by rw [h.q]; rfl
  rcases writes_up l p h.off hp hl with ⟨a, e⟩ | ⟨m, w, b, a, hm, e⟩
  · rw [hq0] at e
    obtain ⟨F, hF⟩ : ∃ F : DK, F = { D with q := items p l, arm := a } := ⟨_, rfl⟩
    rw [← hF] at e
    have hFo : F.off = false := by rw [hF]; exact h.off
    have ep : Jn.put D p l = F.sync := by unfold Jn.put; rw [e, if_neg (fun h => h rfl)]
    rw [ep] at hok hn ⊢
    rcases count_up hFo with ⟨a2, e2⟩ | ⟨w, b, e2⟩
    · have e3 : F.sync = (0, DK.flush { F with arm := a2 }) := by unfold DK.sync; rw [if_neg (by rw [hFo]; decide), e2, if_neg (fun h => h rfl)]
      rw [e3] at hok hn ⊢
      refine .inl ⟨_, rfl, ⟨(DK.settle_off _ _).trans hFo, rfl, hok⟩, hn, fun i hi => ?_, fun i => ?_⟩
      · have hx : ∀ X : DK, X.q = items p l → X.st = D.st → (X.flush).st i = if p ≤ i ∧ i < p + l.length then l.getD (i - p) [] else D.st i := fun X h1 h2 => by
          show (X.settle X.q).st i = _
          rw [h1, DK.settle_cur i _ _ (by rw [h2]; exact h.ok.st i hi) (items_64 _ _ hl), items_last, h2]
        exact hx _ (by rw [hF]) (by rw [hF])
      · have hx : ∀ X : DK, X.q = items p l → X.st = D.st → X.el = D.el → (X.flush).el i = if p ≤ i ∧ i < p + l.length then D.st i else D.el i := fun X h1 h2 h3 => by
          show (X.settle X.q).el i = _
          rw [h1, settle_el, h2, h3]
        exact hx _ (by rw [hF]) (by rw [hF]) (by rw [hF])
    · have e3 : F.sync = (24, F.down w b) := by unfold DK.sync; rw [if_neg (by rw [hFo]; decide), e2, if_pos (by show (24 : Int) ≠ 0; decide)]
      rw [e3] at hok hn ⊢
      refine .inr ⟨_, rfl, ⟨rfl, rfl, rfl, hok⟩, hn, ?_⟩
      have := down_cut h.ok.st (Nat.le_refl l.length) hl hp a w b
      rw [List.take_length] at this
      rw [hF]
      exact this
  · rw [hq0] at e
    have ep : Jn.put D p l = (24, DK.down { D with q := items p (l.take m), arm := a } w b) := by unfold Jn.put; rw [e, if_pos (by show (24 : Int) ≠ 0; decide)]
    rw [ep] at hok hn ⊢
    exact .inr ⟨_, rfl, ⟨rfl, rfl, rfl, hok⟩, hn, down_cut h.ok.st hm hl hp a w b⟩
theorem Cut.one {D E : DK} {p : Nat} {s : Bytes} (h : Cut D p [s] E) (hs : s.length = 64) (hd : ∀ i, i < D.n → (D.st i).length = 64) (hp : p < D.n) : ∃ b, b ≤ 64 ∧ ∀ i, i < D.n → E.st i = if i = p then s.take b ++ (D.st p).drop b else D.st i := by
  obtain ⟨k, b, hk, hb, hz, he⟩ := h
  rw [List.length_singleton] at hk
  rcases (by omega : k = 0 ∨ k = 1) with rfl | rfl
  · refine ⟨b, hb, fun i hi => ?_⟩
    rw [he i hi, if_neg (by omega), Nat.add_zero]
    by_cases e : i = p
    · subst e
      rw [if_pos rfl, if_pos rfl]
      rfl
    · rw [if_neg e, if_neg e]
  · refine ⟨64, Nat.le_refl _, fun i hi => ?_⟩
    have hf : s.take 64 ++ (D.st p).drop 64 = s := by rw [List.take_of_length_le (by omega), List.drop_of_length_le (by rw [hd p hp]; omega), List.append_nil]
    rw [he i hi, hf]
    by_cases e : i = p
    · subst e
      rw [if_pos (by omega), if_pos rfl, Nat.sub_self]
      rfl
    · rw [if_neg (by omega), if_neg e]
      by_cases e2 : i = p + 1
      · subst e2
        rw [if_pos rfl, hz rfl, List.take_zero, List.nil_append, List.drop_zero]
      · rw [if_neg e2]
end Jn
end Go.Proofs.YtpmkgedlnanjiaaGreatDoor
