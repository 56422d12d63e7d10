/-
  Plan: the plain law of PlanSorts.
-/
import Derived.Test.YtocadlcglgpdcaaDoorPoH
namespace Go.Proofs.YtocadlcglgpdcaaDoor
set_option linter.unusedVariables false
open Lx (Tk)
namespace Pn
open Rl (Nice)
def braceT (t : Tk) : Int := if t.text = cOpen then 1 else if t.text = cClose then -1 else 0
/-- How deep braces are open behind these tokens. -/
def dep (l : List Tk) : Int := (l.map braceT).sum
def isEnd (t : Tk) : Bool := decide (t.text = cClose) || decide (t.text = cSemi)
/-- These are the tokens of one item, as far as braces and semicolons show. -/
def CP (l : List Tk) : Prop := ∀ (i : Nat) (t : Tk), l[i]? = some t → 0 ≤ dep (l.take (i + 1)) ∧ ((dep (l.take (i + 1)) = 0 ∧ isEnd t = true) ↔ i + 1 = l.length)
def pl (t : Tk) : Prop := t.text ≠ cOpen ∧ t.text ≠ cClose ∧ t.text ≠ cSemi
def fl (t : Tk) : Prop := t.text ≠ cOpen ∧ t.text ≠ cClose
def Wf (t : Tk) : Prop := t.kind = 1 ∨ t.kind = 2 → pl t
theorem dep_append (a b : List Tk) : dep (a ++ b) = dep a + dep b := by simp [dep]
theorem dep_fl {l : List Tk} (h : ∀ t ∈ l, fl t) : dep l = 0 := by
  induction l with
  | nil => rfl
  | cons t r ih =>
    have h1 := h t (by simp)
    have h2 := ih (fun u hu => h u (by simp [hu]))
    show braceT t + dep r = 0
    rw [h2]
    unfold braceT
    rw [if_neg h1.1, if_neg h1.2]
    rfl
theorem fl_of {t : Tk} (h : pl t) : fl t := ⟨h.1, h.2.1⟩
theorem end_pl {t : Tk} (h : pl t) : isEnd t = false := by simp [isEnd, h.2.1, h.2.2]
theorem cp_flat {w : List Tk} {u : Tk} (hw : ∀ t ∈ w, pl t) (hu : u.text = cSemi) : CP (w ++ [u]) := by
  have hfu : fl u := by rw [fl, hu]; decide
  have hd : ∀ k, dep ((w ++ [u]).take k) = 0 := fun k => dep_fl fun t ht => by
    rcases List.mem_append.1 (List.mem_of_mem_take ht) with h | h
    · exact fl_of (hw t h)
    · simp at h
      rw [h]
      exact hfu
  intro i t ht
  refine ⟨by rw [hd]; exact Int.le_refl _, ?_⟩
  rw [hd]
  by_cases hi : i < w.length
  · rw [List.getElem?_append_left hi] at ht
    have := end_pl (hw t (List.mem_of_getElem? ht))
    simp [this]
    omega
  · have hlt := (List.getElem?_eq_some_iff.1 ht).1
    simp at hlt
    have hiw : i = w.length := by omega
    rw [List.getElem?_append_right (by omega), hiw, Nat.sub_self] at ht
    simp at ht
    rw [← ht]
    simp [isEnd, hu, hiw]
theorem cp_block {w R : List Tk} {ob cb : Tk} (hw : ∀ t ∈ w, pl t) (hR : ∀ t ∈ R, fl t) (ho : ob.text = cOpen) (hc : cb.text = cClose) : CP (w ++ ob :: (R ++ [cb])) := by
  have hbo : braceT ob = 1 := by unfold braceT; rw [if_pos ho]
  have hbc : braceT cb = -1 := by unfold braceT; rw [hc]; rfl
  have d1 : ∀ k, k ≤ w.length → dep ((w ++ ob :: (R ++ [cb])).take k) = 0 := fun k hk => by
    rw [List.take_append_of_le_length hk]
    exact dep_fl fun t ht => fl_of (hw t (List.mem_of_mem_take ht))
  have d2 : ∀ k, k ≤ R.length → dep ((w ++ ob :: (R ++ [cb])).take (w.length + 1 + k)) = 1 := fun k hk => by
    rw [List.take_append, List.take_of_length_le (by omega), dep_append, dep_fl (fun t ht => fl_of (hw t ht)), show w.length + 1 + k - w.length = k + 1 by omega, List.take_succ_cons, List.take_append_of_le_length hk]
    show 0 + (braceT ob + dep (R.take k)) = 1
    rw [hbo, dep_fl (fun t ht => hR t (List.mem_of_mem_take ht))]
    rfl
  intro i t ht
  have hlt := (List.getElem?_eq_some_iff.1 ht).1
  simp only [List.length_append, List.length_cons, List.length_nil] at hlt
  have hln : (w ++ ob :: (R ++ [cb])).length = w.length + (R.length + 2) := by simp
  rw [hln]
  by_cases hi : i < w.length
  · rw [d1 _ (by omega)]
    rw [List.getElem?_append_left hi] at ht
    have := end_pl (hw t (List.mem_of_getElem? ht))
    refine ⟨Int.le_refl _, ?_⟩
    simp [this]
    omega
  · by_cases hj : i ≤ w.length + R.length
    · obtain ⟨k, hk⟩ : ∃ k, i = w.length + k := ⟨i - w.length, by omega⟩
      rw [show i + 1 = w.length + 1 + k by omega, d2 k (by omega)]
      refine ⟨by decide, ?_⟩
      simp
      omega
    · have hie : i = w.length + 1 + R.length := by omega
      rw [hie] at ht
      have htc : t = cb := by
        rw [List.getElem?_append_right (by omega), show w.length + 1 + R.length - w.length = R.length + 1 by omega, List.getElem?_cons_succ, List.getElem?_append_right (by omega), Nat.sub_self] at ht
        simpa using ht.symm
      have hd : dep ((w ++ ob :: (R ++ [cb])).take (i + 1)) = 0 := by
        rw [List.take_of_length_le (by rw [hln]; omega), dep_append, dep_fl (fun t ht => fl_of (hw t ht))]
        show 0 + (braceT ob + dep (R ++ [cb])) = 0
        rw [dep_append, dep_fl hR, hbo]
        show 0 + (1 + (0 + (braceT cb + 0))) = (0 : Int)
        rw [hbc]
        rfl
      rw [hd, htc]
      refine ⟨Int.le_refl _, ?_⟩
      simp [isEnd, hc]
      omega
theorem cp_unique {c d r q : List Tk} (h : c ++ r = d ++ q) (hc : CP c) (hd : CP d) (hc0 : c ≠ []) (hd0 : d ≠ []) : c = d := by
  have key : ∀ {c d r q : List Tk}, c ++ r = d ++ q → CP c → CP d → c ≠ [] → c.length < d.length → False := fun {c d r q} h hc hd hc0 hlt => by
    have hcl : 0 < c.length := List.length_pos_iff.2 hc0
    obtain ⟨t, ht⟩ : ∃ t, c[c.length - 1]? = some t := ⟨c[c.length - 1], by simp⟩
    have hdt : d[c.length - 1]? = some t := by
      have h1 : (c ++ r)[c.length - 1]? = some t := by rw [List.getElem?_append_left (by omega)]; exact ht
      rw [h, List.getElem?_append_left (by omega)] at h1
      exact h1
    have hk : c.take (c.length - 1 + 1) = d.take (c.length - 1 + 1) := by
      have h1 : (c ++ r).take (c.length - 1 + 1) = (d ++ q).take (c.length - 1 + 1) := by rw [h]
      rwa [List.take_append_of_le_length (by omega), List.take_append_of_le_length (by omega)] at h1
    have h2 := (hc _ t ht).2.2 (by omega)
    rw [hk] at h2
    have h3 := (hd _ t hdt).2.1 h2
    omega
  have hl : c.length = d.length := by
    rcases Nat.lt_trichotomy c.length d.length with h1 | h1 | h1
    · exact (key h hc hd hc0 h1).elim
    · exact h1
    · exact (key h.symm hd hc hd0 h1).elim
  exact (List.append_inj h hl).1
/-- What a part takes has a property. -/
def Pr {α : Type} (P : Tk → Prop) (f : List Tk → Rl.Out α) : Prop := ∀ l a r, (∀ t ∈ l, Wf t) → f l = .ok a r → ∃ c, l = c ++ r ∧ ∀ t ∈ c, P t
theorem Pr.pure {α : Type} (P : Tk → Prop) (a : α) : Pr P (fun l => Rl.Out.ok a l) := fun l b r _ h => by
  cases h
  exact ⟨[], rfl, by simp⟩
theorem Pr.bind {α β : Type} {P : Tk → Prop} {f : List Tk → Rl.Out α} {g : α → List Tk → Rl.Out β} (hf : Pr P f) (hg : ∀ a, Pr P (g a)) : Pr P (fun l => (f l).bind (g · ·)) := fun l b r hw h => by
  obtain ⟨a, q, h1, h2⟩ := Rl.bind_ok h
  obtain ⟨c, rfl, hc⟩ := hf l a q hw h1
  obtain ⟨d, rfl, hd⟩ := hg a q b r (fun t ht => hw t (by simp [ht])) h2
  refine ⟨c ++ d, by simp, fun t ht => ?_⟩
  rcases List.mem_append.1 ht with ht | ht
  · exact hc t ht
  · exact hd t ht
theorem Pr.mono {α : Type} {P Q : Tk → Prop} {f : List Tk → Rl.Out α} (hf : Pr P f) (h : ∀ t, P t → Q t) : Pr Q f := fun l a r hw h1 => by
  obtain ⟨c, h2, h3⟩ := hf l a r hw h1
  exact ⟨c, h2, fun t ht => h t (h3 t ht)⟩
theorem pr_must (x : Bytes) {P : Tk → Prop} (hx : ∀ t : Tk, t.text = x → P t) : Pr P (must x) := fun l a r hw h => by
  obtain ⟨t, h1, h2, h3⟩ := must_ok h
  exact ⟨[t], h1, fun u hu => by
    simp at hu
    rw [hu]
    exact hx t h2⟩
theorem pr_word {x : Bytes} (h : x ≠ cOpen ∧ x ≠ cClose ∧ x ≠ cSemi) : Pr pl (must x) := pr_must x fun t ht => by rw [pl, ht]; exact h
theorem pr_nxt (k : Nat) (hk : k = 1 ∨ k = 2) : Pr pl (Rl.nxt k none) := fun l a r hw h => by
  obtain ⟨h1, h2⟩ := Rl.nxt_ok h
  rw [h1] at h2
  have h3 := Rl.is_kind h2
  refine ⟨[a], h1, fun u hu => ?_⟩
  simp at hu
  rw [hu]
  exact hw a (by rw [h1]; simp) (by rw [h3]; exact hk)
theorem pr_num : Pr pl num := (pr_nxt 2 (.inr rfl)).bind fun t => Pr.pure _ _
theorem pr_name : Pr pl name := (pr_nxt 1 (.inl rfl)).bind fun t => Pr.pure _ _
theorem pr_num2 : Pr pl num2 := pr_num.bind fun x => pr_num.bind fun y => Pr.pure _ _
theorem pr_box : Pr pl box := pr_num.bind fun x => pr_num.bind fun y => pr_num.bind fun z => pr_num.bind fun u => Pr.pure _ _
theorem pr_atO (P : Tk → Prop) : Pr P atO := fun l a r hw h => by
  obtain ⟨t, q, rfl, -, rfl⟩ := atO_ok h
  exact ⟨[], rfl, by simp⟩
theorem marks_text : ∀ l : List Tk, mkc l ≠ 0 → ∃ t q, l = t :: q ∧ t.kind = 1 := fun l h => by
  unfold mkc at h
  by_cases h0 : Rl.is 1 none l = true
  · cases l with
    | nil => simp [Rl.is] at h0
    | cons t q => exact ⟨t, q, rfl, Rl.is_kind h0⟩
  · rw [if_neg h0] at h
    exact absurd rfl h
theorem pr_marks : Pr fl marks := fun l ms r hw h => by
  have hm := many_loop (stop := fun l => decide (mkc l = 0)) eat_mark h
  clear h
  induction hm with
  | nil h => exact ⟨[], rfl, by simp⟩
  | @cons l a q us r h0 h1 h2 ih =>
    obtain ⟨t, p, rfl, hk⟩ := marks_text l (by simpa using h0)
    have hpt : pl t := hw t (by simp) (.inl hk)
    have h3 : Pr pl (fun l1 => (num l1).bind fun n l2 => if mkc (t :: p) = 4 then (must wOf l2).bind fun _ l3 => (num l3).bind fun w l4 => Rl.Out.ok (⟨mkc (t :: p), n, w⟩ : Mk) l4 else .ok ⟨mkc (t :: p), n, 0⟩ l2) := pr_num.bind fun n => by
      by_cases h4 : mkc (t :: p) = 4
      · simp only [h4, if_true]
        exact (pr_word (by decide)).bind fun _ => pr_num.bind fun w => Pr.pure _ _
      · simp only [h4, if_false]
        exact Pr.pure _ _
    obtain ⟨c, hc1, hc2⟩ := h3 p a q (fun u hu => hw u (by simp [hu])) h1
    obtain ⟨d, hd1, hd2⟩ := ih (fun u hu => hw u (by rw [hc1]; simp [hu]))
    refine ⟨t :: (c ++ d), by rw [hc1, hd1]; simp, fun u hu => ?_⟩
    rcases List.mem_cons.1 hu with rfl | hu
    · exact fl_of hpt
    · rcases List.mem_append.1 hu with hu | hu
      · exact fl_of (hc2 u hu)
      · exact hd2 u hu
theorem flP {α : Type} {f : List Tk → Rl.Out α} (h : Pr pl f) : Pr fl f := h.mono fun _ => fl_of
theorem pr_row : Pr fl row := (pr_atO fl).bind fun at_ => (flP (pr_word (by decide))).bind fun _ => (flP pr_name).bind fun nm => (flP (pr_word (by decide))).bind fun _ => (flP pr_num2).bind fun xy => (flP (pr_word (by decide))).bind fun _ => (flP pr_num).bind fun f => (flP (pr_word (by decide))).bind fun _ => (flP pr_num).bind fun t => (flP (pr_word (by decide))).bind fun _ => (flP pr_num).bind fun st => pr_marks.bind fun ms => (pr_must cSemi (fun t ht => by rw [fl, ht]; decide)).bind fun _ => Pr.pure _ _
theorem many_fl {l : List Tk} {rs : List Rw} {r : List Tk} (h : Many (isw cClose) row l rs r) (hw : ∀ t ∈ l, Wf t) : ∃ R, l = R ++ r ∧ (∀ t ∈ R, fl t) ∧ isw cClose r = true := by
  induction h with
  | nil h => exact ⟨[], rfl, by simp, h⟩
  | @cons l a q us r h0 h1 h2 ih =>
    obtain ⟨c, rfl, hc⟩ := pr_row l a q hw h1
    obtain ⟨R, rfl, hR, hs⟩ := ih (fun u hu => hw u (by simp [hu]))
    refine ⟨c ++ R, by simp, fun t ht => ?_, hs⟩
    rcases List.mem_append.1 ht with ht | ht
    · exact hc t ht
    · exact hR t ht
/-- A part that ends with a semicolon. -/
theorem cp_semi {α β : Type} {f : List Tk → Rl.Out α} (hf : Pr pl f) {t : Tk} {c : List Tk} {g : α → β} {x : β} (ht : pl t) (hw : ∀ u ∈ c, Wf u) (h : ((f c).bind fun a l => (must cSemi l).bind fun _ r => .ok (g a) r) = .ok x []) : CP (t :: c) := by
  obtain ⟨a, q, h1, h2⟩ := Rl.bind_ok h
  obtain ⟨u, p, h3, h4⟩ := Rl.bind_ok h2
  cases h4
  obtain ⟨v, e1, e2, -⟩ := must_ok h3
  obtain ⟨w, rfl, hw2⟩ := hf c a q hw h1
  rw [e1]
  exact cp_flat (w := t :: w) (fun u hu => by
    rcases List.mem_cons.1 hu with rfl | hu
    · exact ht
    · exact hw2 u hu) e2
theorem cp_item {c : List Tk} {x : It} (hw : ∀ t ∈ c, Wf t) (h : item c = .ok x []) : c ≠ [] ∧ CP c := by
  cases c with
  | nil => cases h
  | cons t c =>
    refine ⟨by simp, ?_⟩
    have hwc : ∀ u ∈ c, Wf u := fun u hu => hw u (by simp [hu])
    rw [item_cons] at h
    by_cases h0 : Rl.codeIn sortsL 1 t.text = 0
    · rw [if_pos h0] at h
      cases h
    · rw [if_neg h0] at h
      obtain ⟨j, j1, j2⟩ := codeIn_at sortsL 1 t.text h0
      rw [j1] at h
      have hj5 : j < 5 := (List.getElem?_eq_some_iff.1 j2).1
      match j, hj5, j2, h with
      | 0, _, j2, h =>
        have ht : pl t := by rw [pl, ← Option.some.inj j2]; decide
        obtain ⟨b, q1, h3, h4⟩ := Rl.bind_ok h
        cases h4
        obtain ⟨nm, q2, h5, h6⟩ := Rl.bind_ok h3
        obtain ⟨u, q3, h7, h8⟩ := Rl.bind_ok h6
        obtain ⟨rs, q4, h9, h10⟩ := Rl.bind_ok h8
        cases h10
        obtain ⟨w, hw1, hw2⟩ := pr_name c nm q2 hwc h5
        obtain ⟨ob, o1, o2, -⟩ := must_ok h7
        obtain ⟨q5, g1, g2⟩ := many_braced eat_row h9
        obtain ⟨R, R1, R2, R3⟩ := many_fl g1 (fun u hu => hwc u (by rw [hw1, o1]; simp [hu]))
        cases q5 with
        | nil => simp [isw] at R3
        | cons cb z =>
          have hz : z = [] := g2.symm
          subst hz
          simp [isw] at R3
          rw [hw1, o1, R1]
          exact cp_block (w := t :: w) (fun v hv => by
            rcases List.mem_cons.1 hv with rfl | hv
            · exact ht
            · exact hw2 v hv) R2 o2 R3.2
      | 1, _, j2, h =>
        have ht : pl t := by rw [pl, ← Option.some.inj j2]; decide
        obtain ⟨b, q1, h3, h4⟩ := Rl.bind_ok h
        cases h4
        have hf : Pr pl (fun l => (name l).bind fun nm l1 => (box l1).bind fun b l2 => (must wHolds l2).bind fun _ l3 => (num l3).bind fun h l4 => Rl.Out.ok (nm, b, h) l4) := pr_name.bind fun nm => pr_box.bind fun b => (pr_word (by decide)).bind fun _ => pr_num.bind fun h => Pr.pure _ _
        refine cp_semi (g := fun z : Bytes × Bx × Nat => (⟨z.1, z.2.1, z.2.2, t.at_⟩ : Ar)) (x := b) hf ht hwc ?_
        rw [← h3]
        unfold area
        cases name c with
        | bad e r => rfl
        | ok nm l1 =>
          show (((box l1).bind _).bind _) = (box l1).bind _
          cases box l1 with
          | bad e r => rfl
          | ok bx l2 =>
            show (((must wHolds l2).bind _).bind _) = (must wHolds l2).bind _
            cases must wHolds l2 with
            | bad e r => rfl
            | ok _ l3 =>
              show (((num l3).bind _).bind _) = (num l3).bind _
              cases num l3 with
              | bad e r => rfl
              | ok _ l4 => rfl
      | 2, _, j2, h =>
        have ht : pl t := by rw [pl, ← Option.some.inj j2]; decide
        obtain ⟨b, q1, h3, h4⟩ := Rl.bind_ok h
        cases h4
        exact cp_semi (g := id) pr_box ht hwc h3
      | 3, _, j2, h =>
        have ht : pl t := by rw [pl, ← Option.some.inj j2]; decide
        obtain ⟨b, q1, h3, h4⟩ := Rl.bind_ok h
        cases h4
        exact cp_semi (g := id) pr_box ht hwc h3
      | 4, _, j2, h =>
        have ht : pl t := by rw [pl, ← Option.some.inj j2]; decide
        obtain ⟨b, q1, h3, h4⟩ := Rl.bind_ok h
        cases h4
        exact cp_semi (g := id) pr_num2 ht hwc h3
def tk (k : Nat) (x : Bytes) : Tk := ⟨k, x, 0, 0⟩
def lv5 : List Tk := [tk 1 wLevel, tk 1 [97], tk 1 wHeight, tk 2 [48], tk 3 cOpen]
def hd0 : List Tk := [tk 1 wHall, tk 1 [104], tk 1 wStage, tk 2 [48], tk 2 [48], tk 3 cOpen]
def cb0 : Tk := tk 3 cClose
theorem must_cons {x : Bytes} {t : Tk} (r : List Tk) (h1 : t.kind ≠ 2) (h2 : t.text = x) : must x (t :: r) = .ok () r := by
  unfold must
  rw [if_pos (by simp [isw, h1, h2])]
  rfl
theorem name_cons {t : Tk} (r : List Tk) (h : t.kind = 1) : name (t :: r) = .ok t.text r := by
  unfold name
  rw [Rl.nxt_cons, if_pos (by simp [Rl.is, h])]
  rfl
theorem num_cons {t : Tk} (r : List Tk) (h : t.kind = 2) : num (t :: r) = .ok t.n r := by
  unfold num
  rw [Rl.nxt_cons, if_pos (by simp [Rl.is, h])]
  rfl
theorem ok_bind {α β : Type} (a : α) (r : List Tk) (k : α → List Tk → Rl.Out β) : (Rl.Out.ok a r).bind k = k a r := rfl
theorem level_hd (b : List Tk) : level (lv5 ++ b) = (braced item b).bind fun its l6 => .ok (lev [97] 0 its 0) l6 := by
  show level (tk 1 wLevel :: tk 1 [97] :: tk 1 wHeight :: tk 2 [48] :: tk 3 cOpen :: b) = _
  unfold level
  rw [show atO (tk 1 wLevel :: tk 1 [97] :: tk 1 wHeight :: tk 2 [48] :: tk 3 cOpen :: b) = .ok 0 (tk 1 wLevel :: tk 1 [97] :: tk 1 wHeight :: tk 2 [48] :: tk 3 cOpen :: b) from rfl, ok_bind,
    must_cons (x := wLevel) _ (by decide) rfl, ok_bind, name_cons _ rfl, ok_bind, must_cons (x := wHeight) _ (by decide) rfl, ok_bind, num_cons _ rfl, ok_bind, must_cons (x := cOpen) _ (by decide) rfl, ok_bind]
  rfl
theorem hall_hd (b : List Tk) : hall (hd0 ++ b) = (braced level b).bind fun ls l6 => if l6 = [] then .ok ⟨[104], 0, 0, ls⟩ l6 else .bad 4 l6 := by
  show hall (tk 1 wHall :: tk 1 [104] :: tk 1 wStage :: tk 2 [48] :: tk 2 [48] :: tk 3 cOpen :: b) = _
  unfold hall
  rw [must_cons (x := wHall) _ (by decide) rfl, ok_bind, name_cons _ rfl, ok_bind, must_cons (x := wStage) _ (by decide) rfl, ok_bind]
  unfold num2
  rw [num_cons _ rfl, ok_bind, num_cons _ rfl, ok_bind, ok_bind, must_cons (x := cOpen) _ (by decide) rfl, ok_bind]
  rfl
/-- One item by itself, out of a hall with it. -/
theorem one_item {x : List Tk} {a : Hl} {r : List Tk} (hx : x ≠ []) (hcp : CP x) (hw : ∀ t ∈ x, Wf t) (h : hall (hd0 ++ (lv5 ++ (x ++ [cb0, cb0]))) = .ok a r) : ∃ it, item x = .ok it [] := by
  rw [hall_hd] at h
  obtain ⟨ls, q, h1, -⟩ := Rl.bind_ok h
  obtain ⟨q', h2, -⟩ := many_braced eat_level h1
  cases h2 with
  | nil h3 => exact absurd (show isw cClose lv5 = true from h3) (by decide)
  | cons h3 h4 h5 =>
    rw [level_hd] at h4
    obtain ⟨its, q2, h6, -⟩ := Rl.bind_ok h4
    obtain ⟨q3, h7, -⟩ := many_braced eat_item h6
    cases h7 with
    | nil h8 =>
      rw [isw_head _ _ _ hx] at h8
      cases x with
      | nil => exact absurd rfl hx
      | cons t x =>
        simp [isw] at h8
        have h9 := (hcp 0 t rfl).1
        have h10 : braceT t = -1 := by unfold braceT; rw [h8.2]; rfl
        have h11 : dep ((t :: x).take (0 + 1)) = -1 := by
          show braceT t + 0 = -1
          rw [h10]
          rfl
        rw [h11] at h9
        exact absurd h9 (by decide)
    | cons h8 h9 h10 =>
      obtain ⟨c, hc⟩ := nice_item.cut h9
      rw [hc] at h9
      obtain ⟨hc0, hci⟩ := shut_item.cut _ _ _ h9
      have hwc : ∀ t ∈ c, Wf t := fun t ht => by
        have hm : t ∈ x ++ [cb0, cb0] := by rw [hc]; simp [ht]
        rcases List.mem_append.1 hm with hm | hm
        · exact hw t hm
        · simp at hm
          rw [hm]
          intro hk
          rcases hk with hk | hk <;> cases hk
      have hcx : c = x := cp_unique hc.symm (cp_item hwc hci).2 hcp hc0 hx
      exact ⟨_, hcx ▸ hci⟩
theorem sorts_hall {cs : List (List Tk)} {its : List It} (h : Sg item cs its) : hall (hd0 ++ (lv5 ++ (cs.flatten ++ [cb0, cb0]))) = .ok ⟨[104], 0, 0, [lev [97] 0 its 0]⟩ [] := by
  have h1 : level (lv5 ++ (cs.flatten ++ [cb0, cb0])) = .ok (lev [97] 0 its 0) [cb0] := by
    rw [level_hd, show cs.flatten ++ [cb0, cb0] = cs.flatten ++ cb0 :: [cb0] from rfl, braced_sg eat_item shut_item h (by rfl) [cb0]]
    rfl
  have h2 : Many (isw cClose) level (lv5 ++ (cs.flatten ++ [cb0, cb0])) [lev [97] 0 its 0] [cb0] := .cons rfl h1 (.nil rfl)
  rw [hall_hd]
  unfold braced
  rw [loop_many eat_level h2]
  rfl
def It.word : It → Bytes
  | .block _ => wBlock
  | .area _ => wArea
  | .aisle _ => wAisle
  | .pillar _ => wPillar
  | .door _ => wDoor
theorem item_word {t : Tk} {c : List Tk} {x : It} {r : List Tk} (h : item (t :: c) = .ok x r) : x.word = t.text := by
  rw [item_cons] at h
  by_cases h0 : Rl.codeIn sortsL 1 t.text = 0
  · rw [if_pos h0] at h
    cases h
  · rw [if_neg h0] at h
    obtain ⟨j, j1, j2⟩ := codeIn_at sortsL 1 t.text h0
    rw [j1] at h
    have hj5 : j < 5 := (List.getElem?_eq_some_iff.1 j2).1
    match j, hj5, j2, h with
    | 0, _, j2, h =>
      obtain ⟨b, q1, h3, h4⟩ := Rl.bind_ok h
      cases h4
      exact Option.some.inj j2
    | 1, _, j2, h =>
      obtain ⟨b, q1, h3, h4⟩ := Rl.bind_ok h
      cases h4
      exact Option.some.inj j2
    | 2, _, j2, h =>
      obtain ⟨b, q1, h3, h4⟩ := Rl.bind_ok h
      cases h4
      exact Option.some.inj j2
    | 3, _, j2, h =>
      obtain ⟨b, q1, h3, h4⟩ := Rl.bind_ok h
      cases h4
      exact Option.some.inj j2
    | 4, _, j2, h =>
      obtain ⟨b, q1, h3, h4⟩ := Rl.bind_ok h
      cases h4
      exact Option.some.inj j2
theorem fm_split {α β : Type} (f : α → Bool) (g : α → Option β) : ∀ xs : List α, ((∀ x ∈ xs, f x = true → g x = none) ∨ (∀ x ∈ xs, f x = false → g x = none)) → (xs.filter f ++ xs.filter (fun x => !f x)).filterMap g = xs.filterMap g
  | [], _ => rfl
  | x :: xs, h => by
    have ih := fm_split f g xs (h.imp (fun k y hy => k y (by simp [hy])) (fun k y hy => k y (by simp [hy])))
    rw [List.filterMap_append] at ih ⊢
    by_cases hf : f x = true
    · rw [List.filter_cons_of_pos hf, List.filter_cons_of_neg (by simp [hf])]
      rcases h with h | h
      · rw [List.filterMap_cons_none (h x (by simp) hf), List.filterMap_cons_none (h x (by simp) hf)]
        exact ih
      · cases hg : g x with
        | none =>
          rw [List.filterMap_cons_none hg, List.filterMap_cons_none hg]
          exact ih
        | some y =>
          rw [List.filterMap_cons_some hg, List.filterMap_cons_some hg, List.cons_append, ih]
    · have hf' : f x = false := by simpa using hf
      rw [List.filter_cons_of_neg hf, List.filter_cons_of_pos (by simp [hf'])]
      rcases h with h | h
      · cases hg : g x with
        | none =>
          rw [List.filterMap_cons_none hg, List.filterMap_cons_none hg]
          exact ih
        | some y =>
          have he : (xs.filter f).filterMap g = [] := by
            rw [List.filterMap_eq_nil_iff]
            intro z hz
            exact h z (by simp [(List.mem_filter.1 hz).1]) (List.mem_filter.1 hz).2
          rw [he] at ih ⊢
          rw [List.filterMap_cons_some hg, List.filterMap_cons_some hg, List.nil_append]
          rw [List.nil_append] at ih
          rw [ih]
      · rw [List.filterMap_cons_none (h x (by simp) hf'), List.filterMap_cons_none (h x (by simp) hf')]
        exact ih
end Pn
end Go.Proofs.YtocadlcglgpdcaaDoor
