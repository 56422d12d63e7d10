/-
  Plan: the plain law of PlanSorts, on texts.
-/
import Derived.Test.YtocadlcglgpdcaaDoorPoI
namespace Go.Proofs.YtocadlcglgpdcaaDoor
set_option linter.unusedVariables false
open Lx (Tk)
namespace Lx
theorem fin_big : ∀ (l : List (Tk × Nat)) (k : Nat) (out : List Tk), good l = true → k ≤ 5000 → 5000 < k + l.length → (fin k out l).2.1 = 3
  | [], k, out, _, h1, h2 => by simp at h2; omega
  | (t, e) :: r, k, out, hg, h1, h2 => by
    have he : e = 0 := good_iff.1 hg (t, e) (by simp)
    unfold fin
    rw [if_neg (by simpa using he)]
    by_cases hk : k = 5000
    · rw [if_pos hk]
    · rw [if_neg hk]
      exact fin_big r (k + 1) _ (good_iff.2 fun x hx => good_iff.1 hg x (by simp [hx])) (by omega) (by simp only [List.length_cons] at h2; omega)
theorem lex_big {s : Bytes} (hs : s.length ≤ 20000) (hg : good (sc 0 s) = true) (hl : 5000 < (sc 0 s).length) : (lex s).2.1 = 3 := by
  unfold lex
  rw [if_neg (by omega)]
  exact fin_big _ 0 [] hg (by omega) (by rw [Nat.zero_add]; exact hl)
def z0 (x : Tk × Nat) : Tk := Rl.renT (fun _ => 0) x.1
/-- What is found, with no offsets. -/
def T0 (o : Nat) (s : Bytes) : List Tk := (sc o s).map z0
theorem T0_off (o : Nat) (s : Bytes) : T0 o s = T0 0 s := by
  unfold T0
  rw [sc_off0, List.map_map]
  congr 1
theorem T0_join {o : Nat} {s r : Bytes} (h : good (sc 0 s) = true) : T0 o (s ++ 10 :: r) = T0 0 s ++ T0 0 r := by
  have hg : good (sc o s) = true := by rw [good_off]; exact h
  unfold T0
  rw [sc_join, if_pos hg, List.map_append]
  have h1 := T0_off o s
  have h2 := T0_off (o + s.length + 1) r
  unfold T0 at h1 h2
  rw [h1, h2]
theorem good_join {o : Nat} {s r : Bytes} (h : good (sc 0 s) = true) (h' : good (sc 0 r) = true) : good (sc o (s ++ 10 :: r)) = true := by
  have hg : good (sc o s) = true := by rw [good_off]; exact h
  rw [sc_join, if_pos hg]
  refine good_iff.2 fun x hx => ?_
  rcases List.mem_append.1 hx with hx | hx
  · exact good_iff.1 hg x hx
  · exact good_iff.1 (by rw [good_off]; exact h') x hx
end Lx
namespace Pn
open Lx (T0 sc good)
def H1 : Bytes := [104, 97, 108, 108, 32, 104, 32, 115, 116, 97, 103, 101, 32, 48, 32, 48, 32, 123, 32, 108, 101, 118, 101, 108, 32, 97, 32, 104, 101, 105, 103, 104, 116, 32, 48, 32, 123]
def rt : List Bytes → Bytes
  | [] => [125, 32, 125]
  | x :: xs => x ++ 10 :: rt xs
/-- The hall of one level with these items. -/
def txt (xs : List Bytes) : Bytes := H1 ++ 10 :: rt xs
theorem txt_eq (xs : List Bytes) : H1 ++ xs.flatMap (fun x => 10 :: x) ++ [10, 125, 32, 125] = txt xs := by
  have h : ∀ xs : List Bytes, xs.flatMap (fun x => 10 :: x) ++ [10, 125, 32, 125] = 10 :: rt xs := fun xs => by
    induction xs with
    | nil => rfl
    | cons x xs ih =>
      rw [List.flatMap_cons, List.append_assoc, ih]
      simp [rt]
  rw [List.append_assoc, h]
  rfl
def tok0 (x : Bytes) : List Tk := (Lx.lex x).1.map (Rl.renT (fun _ => 0))
theorem tok0_of {x : Bytes} (h : (Lx.lex x).2.1 = 0) : good (sc 0 x) = true ∧ T0 0 x = tok0 x := by
  obtain ⟨_, g1, _, e1⟩ := Lx.lex_of_zero h
  refine ⟨g1, ?_⟩
  unfold tok0 T0
  rw [e1, List.map_map]
  rfl
theorem rt_toks : ∀ xs : List Bytes, (∀ x ∈ xs, (Lx.lex x).2.1 = 0) → good (sc 0 (rt xs)) = true ∧ T0 0 (rt xs) = (xs.map tok0).flatten ++ [cb0, cb0]
  | [], _ => by decide +kernel
  | x :: xs, h => by
    obtain ⟨h1, h2⟩ := tok0_of (h x (by simp))
    obtain ⟨h3, h4⟩ := rt_toks xs (fun y hy => h y (by simp [hy]))
    show good (sc 0 (x ++ 10 :: rt xs)) = true ∧ T0 0 (x ++ 10 :: rt xs) = _
    rw [Lx.T0_join h1, h2, h4]
    refine ⟨Lx.good_join h1 h3, by simp⟩
theorem h1_toks : good (sc 0 H1) = true ∧ T0 0 H1 = hd0 ++ lv5 := by decide +kernel
theorem txt_toks (xs : List Bytes) (h : ∀ x ∈ xs, (Lx.lex x).2.1 = 0) : good (sc 0 (txt xs)) = true ∧ T0 0 (txt xs) = hd0 ++ (lv5 ++ ((xs.map tok0).flatten ++ [cb0, cb0])) := by
  obtain ⟨h1, h2⟩ := h1_toks
  obtain ⟨h3, h4⟩ := rt_toks xs h
  unfold txt
  rw [Lx.T0_join h1, h2, h4]
  exact ⟨Lx.good_join h1 h3, by simp⟩
theorem rt_len : ∀ xs : List Bytes, (∀ x ∈ xs, x.length ≤ 200) → (rt xs).length ≤ 3 + 201 * xs.length
  | [], _ => by simp [rt]
  | x :: xs, h => by
    have h1 := h x (by simp)
    have h2 := rt_len xs (fun y hy => h y (by simp [hy]))
    simp only [rt, List.length_append, List.length_cons]
    omega
theorem txt_len {xs : List Bytes} (h : ∀ x ∈ xs, x.length ≤ 200) (hl : xs.length ≤ 30) : (txt xs).length ≤ 6100 := by
  have := rt_len xs h
  simp only [txt, List.length_append, List.length_cons, H1]
  simp
  omega
theorem ren_ren (l : List Tk) : (l.map (Rl.renT (fun _ => 0))).map (Rl.renT (fun _ => 0)) = l.map (Rl.renT (fun _ => 0)) := by
  rw [List.map_map]
  congr 1
theorem cp_ren {l : List Tk} (f : Nat → Nat) (h : CP l) : CP (l.map (Rl.renT f)) := by
  intro i t ht
  rw [List.getElem?_map] at ht
  obtain ⟨u, hu, rfl⟩ := Option.map_eq_some_iff.1 ht
  have hd : ∀ k, dep ((l.map (Rl.renT f)).take k) = dep (l.take k) := fun k => by
    rw [← List.map_take]
    unfold dep
    rw [List.map_map]
    rfl
  rw [hd, List.length_map]
  exact h i u hu
theorem wf_lex {x : Bytes} (h : (Lx.lex x).2.1 = 0) : ∀ t ∈ tok0 x, Wf t := fun t ht => by
  obtain ⟨u, hu, rfl⟩ := List.mem_map.1 ht
  obtain ⟨_, g1, _, e1⟩ := Lx.lex_of_zero h
  rw [e1] at hu
  obtain ⟨y, hy, rfl⟩ := List.mem_map.1 hu
  have h1 := Lx.sc_ones _ 0 x rfl y hy (Lx.good_iff.1 g1 y hy)
  have key : ∀ b : UInt8, (Lx.tok [b]).1 = 3 → y.1.text = [b] → y.1.kind = 3 := fun b hb he => by
    have h2 := h1.tok [] (fun c r h => by cases h)
    rw [List.append_nil, he] at h2
    rw [h2] at hb
    exact hb
  intro hk
  have hk : y.1.kind = 1 ∨ y.1.kind = 2 := hk
  refine ⟨fun he => ?_, fun he => ?_, fun he => ?_⟩
  · have := key 123 (by decide) he
    omega
  · have := key 125 (by decide) he
    omega
  · have := key 59 (by decide) he
    omega
/-- What the statement asks of an item. -/
structure Okx (x : Bytes) : Prop where
  len : x.length ≤ 200
  lex : (Lx.lex x).2.1 = 0
  hall : (parse (txt [x])).2.1 = 0
  some : (Lx.lex x).1 ≠ []
  one : CP (Lx.lex x).1
theorem tok0_ne {x : Bytes} (h : (Lx.lex x).1 ≠ []) : tok0 x ≠ [] := by
  unfold tok0
  simpa using h
theorem item_of {x : Bytes} (h : Okx x) : ∃ it, item (tok0 x) = .ok it [] := by
  obtain ⟨l0, r, h1, -⟩ := parse_zero h.hall
  obtain ⟨g1, g2⟩ := txt_toks [x] (fun y hy => by simp at hy; rw [hy]; exact h.lex)
  obtain ⟨_, _, _, e1⟩ := Lx.lex_of_zero l0
  have hm : (Lx.lex (txt [x])).1.map (Rl.renT (fun _ => 0)) = (hd0 ++ (lv5 ++ (tok0 x ++ [cb0, cb0]))).map (Rl.renT (fun _ => 0)) := by
    have h2 : (Lx.lex (txt [x])).1.map (Rl.renT (fun _ => 0)) = T0 0 (txt [x]) := by
      unfold Lx.T0
      rw [e1, List.map_map]
      rfl
    rw [← ren_ren, h2, g2]
    simp
  rcases hall_alike hm with ⟨a, b, r1, r2, k1, k2, -⟩ | ⟨k, k1, -, -⟩
  · exact one_item (tok0_ne h.some) (cp_ren _ h.one) (wf_lex h.lex) k2
  · rw [h1] at k1
    cases k1
def itf (x : Bytes) : It := match item (tok0 x) with
  | .ok a _ => a
  | .bad _ _ => .door (0, 0)
theorem itf_ok {x : Bytes} (h : Okx x) : item (tok0 x) = .ok (itf x) [] ∧ (itf x).word = headText (Lx.lex x).1 := by
  obtain ⟨it, hi⟩ := item_of h
  have h1 : itf x = it := by
    unfold itf
    rw [hi]
  rw [h1]
  refine ⟨hi, ?_⟩
  have hs := h.some
  unfold tok0 at hi
  cases hl : (Lx.lex x).1 with
  | nil => exact absurd hl hs
  | cons t c =>
    rw [hl] at hi
    exact item_word (t := Rl.renT (fun _ => 0) t) hi
theorem word_close (it : It) : it.word ≠ cClose := by
  cases it with
  | block _ => exact (by decide : wBlock ≠ cClose)
  | area _ => exact (by decide : wArea ≠ cClose)
  | aisle _ => exact (by decide : wAisle ≠ cClose)
  | pillar _ => exact (by decide : wPillar ≠ cClose)
  | door _ => exact (by decide : wDoor ≠ cClose)
theorem sg_items : ∀ xs : List Bytes, (∀ x ∈ xs, Okx x) → Sg item (xs.map tok0) (xs.map itf)
  | [], _ => .nil
  | x :: xs, h => by
    obtain ⟨h1, h2⟩ := itf_ok (h x (by simp))
    refine .cons h1 ?_ (sg_items xs fun y hy => h y (by simp [hy]))
    have hs := tok0_ne (h x (by simp)).some
    cases hl : tok0 x with
    | nil => exact absurd hl hs
    | cons t c =>
      rw [hl] at h1
      have h3 := item_word h1
      have h4 := word_close (itf x)
      rw [h3] at h4
      simp [isw, h4]
theorem len_split (f : Bytes → Bool) : ∀ xs : List Bytes, (((xs.filter f ++ xs.filter (fun x => !f x)).map tok0).flatten).length = ((xs.map tok0).flatten).length
  | [] => rfl
  | x :: xs => by
    have ih := len_split f xs
    simp only [List.map_append, List.flatten_append, List.length_append] at ih ⊢
    by_cases hf : f x = true
    · rw [List.filter_cons_of_pos hf, List.filter_cons_of_neg (by simp [hf])]
      simp only [List.map_cons, List.flatten_cons, List.length_append]
      omega
    · rw [List.filter_cons_of_neg hf, List.filter_cons_of_pos (by simpa using hf)]
      simp only [List.map_cons, List.flatten_cons, List.length_append]
      omega
theorem lev_split {xs : List Bytes} (hx : ∀ x ∈ xs, Okx x) {word : Bytes} :
    lev [97] 0 ((xs.filter (fun x => decide (headText (Lx.lex x).1 = word)) ++ xs.filter (fun x => !decide (headText (Lx.lex x).1 = word))).map itf) 0 = lev [97] 0 (xs.map itf) 0 := by
  have key : ∀ {β : Type} (g : It → Option β) (wd : Bytes), (∀ it, it.word ≠ wd → g it = none) → ((xs.filter (fun x => decide (headText (Lx.lex x).1 = word)) ++ xs.filter (fun x => !decide (headText (Lx.lex x).1 = word))).map itf).filterMap g = (xs.map itf).filterMap g := fun g wd hg => by
    rw [List.filterMap_map, List.filterMap_map]
    refine fm_split _ _ xs ?_
    by_cases hw : wd = word
    · right
      intro x hxm hfx
      refine hg _ ?_
      rw [(itf_ok (hx x hxm)).2, hw]
      simpa using hfx
    · left
      intro x hxm hfx
      refine hg _ ?_
      rw [(itf_ok (hx x hxm)).2]
      have : headText (Lx.lex x).1 = word := by simpa using hfx
      rw [this]
      exact fun h => hw h.symm
  unfold lev
  rw [key It.block? wBlock (fun it h => by cases it <;> first | rfl | exact absurd rfl h), key It.area? wArea (fun it h => by cases it <;> first | rfl | exact absurd rfl h), key It.aisle? wAisle (fun it h => by cases it <;> first | rfl | exact absurd rfl h),
    key It.pillar? wPillar (fun it h => by cases it <;> first | rfl | exact absurd rfl h), key It.door? wDoor (fun it h => by cases it <;> first | rfl | exact absurd rfl h)]
/-- What Parse makes of items. -/
theorem parse_items {xs : List Bytes} (hx : ∀ x ∈ xs, Okx x) (hl : xs.length ≤ 30) :
    (((xs.map tok0).flatten.length ≤ 4987 ∧ ∃ a, parse (txt xs) = (a, 0, 0) ∧ renH (fun _ => 0) a = renH (fun _ => 0) ⟨[104], 0, 0, [lev [97] 0 (xs.map itf) 0]⟩)) ∨ (4987 < (xs.map tok0).flatten.length ∧ (parse (txt xs)).2.1 = 3 ∧ (parse (txt xs)).1 = hl0) := by
  obtain ⟨g1, g2⟩ := txt_toks xs (fun x hxm => (hx x hxm).lex)
  have ht := txt_len (fun x hxm => (hx x hxm).len) hl
  have hn : (sc 0 (txt xs)).length = (xs.map tok0).flatten.length + 13 := by
    have := congrArg List.length g2
    unfold Lx.T0 at this
    rw [List.length_map] at this
    rw [this]
    simp only [List.length_append, hd0, lv5, List.length_cons, List.length_nil]
    omega
  by_cases hs : (xs.map tok0).flatten.length ≤ 4987
  · left
    refine ⟨hs, ?_⟩
    have hlx := Lx.lex_zero' (by omega) g1 (by omega)
    have hm : (Lx.lex (txt xs)).1.map (Rl.renT (fun _ => 0)) = (hd0 ++ (lv5 ++ ((xs.map tok0).flatten ++ [cb0, cb0]))).map (Rl.renT (fun _ => 0)) := by
      have h2 : (Lx.lex (txt xs)).1.map (Rl.renT (fun _ => 0)) = T0 0 (txt xs) := by
        unfold Lx.T0
        rw [hlx, List.map_map]
        rfl
      rw [← ren_ren, h2, g2]
    have hh := sorts_hall (sg_items xs hx)
    rcases hall_alike hm with ⟨a, b, r1, r2, k1, k2, k3⟩ | ⟨k, -, k2, -⟩
    · rw [hh] at k2
      cases k2
      exact ⟨a, by rw [parse_of_lex (by rw [hlx]), k1]; rfl, k3⟩
    · rw [hh] at k2
      cases k2
  · right
    have h3 := Lx.lex_big (by omega) g1 (by omega)
    have hp : parse (txt xs) = (hl0, (Lx.lex (txt xs)).2.1, (Lx.lex (txt xs)).2.2) := by
      unfold parse
      rw [if_pos (by rw [h3]; decide)]
    rw [hp]
    exact ⟨by omega, h3, rfl⟩
theorem sorts_law {xs : List Bytes} (hx : ∀ x ∈ xs, Okx x) (hl : xs.length ≤ 30) {word : Bytes} {ys : List Bytes} (hy : ys = xs.filter (fun x => decide (headText (Lx.lex x).1 = word)) ++ xs.filter (fun x => !decide (headText (Lx.lex x).1 = word))) :
    (parse (txt xs)).2.1 = (parse (txt ys)).2.1 ∧ SimH false (parse (txt xs)).1 (parse (txt ys)).1 := by
  have hyx : ∀ x ∈ ys, Okx x := fun x hxm => by
    rw [hy] at hxm
    rcases List.mem_append.1 hxm with h | h <;> exact hx x (List.mem_filter.1 h).1
  have hyl : ys.length ≤ 30 := by
    have h1 : ys.length = xs.length := by
      rw [hy, List.length_append]
      clear hy hyx hx hl
      induction xs with
      | nil => rfl
      | cons x xs ih =>
        by_cases hf : headText (Lx.lex x).1 = word
        · rw [List.filter_cons_of_pos (by simp [hf]), List.filter_cons_of_neg (by simp [hf])]
          simp only [List.length_cons]
          omega
        · rw [List.filter_cons_of_neg (by simp [hf]), List.filter_cons_of_pos (by simp [hf])]
          simp only [List.length_cons]
          omega
    omega
  have hlen : (ys.map tok0).flatten.length = (xs.map tok0).flatten.length := by rw [hy]; exact len_split _ xs
  have hlev : lev [97] 0 (ys.map itf) 0 = lev [97] 0 (xs.map itf) 0 := by rw [hy]; exact lev_split hx
  rcases parse_items hx hl with ⟨h1, a, h2, h3⟩ | ⟨h1, h2, h3⟩
  · rcases parse_items hyx hyl with ⟨k1, b, k2, k3⟩ | ⟨k1, k2, k3⟩
    · rw [h2, k2]
      refine ⟨rfl, simH_ren _ _ ?_⟩
      rw [h3, k3, hlev]
    · omega
  · rcases parse_items hyx hyl with ⟨k1, b, k2, k3⟩ | ⟨k1, k2, k3⟩
    · omega
    · rw [h2, k2, h3, k3]
      exact ⟨rfl, simH_refl _ _⟩
end Pn
end Go.Proofs.YtocadlcglgpdcaaDoor
