/-
  Plan, plain laws: closed parts; things, each out of tokens of its own.
-/
import Derived.Test.YtocadlcglgpdcaaDoorPoF
namespace Go.Proofs.YtocadlcglgpdcaaDoor
set_option linter.unusedVariables false
open Lx (Tk)
namespace Pn
open Rl (Nice)
theorem shut_must (x : Bytes) : Rl.Shut (must x) := by
  refine ⟨fun c r y h => ?_, fun c y h => ?_⟩
  · obtain ⟨t, h1, h2, h3⟩ := must_ok h
    cases c with
    | nil =>
      have := congrArg List.length h1
      simp at this
    | cons u c =>
      rw [List.cons_append, List.cons.injEq] at h1
      have hc : c = [] := by simpa using h1.2
      subst hc
      refine ⟨by simp, ?_⟩
      unfold must
      rw [if_pos (by simp [isw, h1.1, h2, h3])]
      rfl
  · obtain ⟨t, h1, h2, h3⟩ := must_ok h
    subst h1
    refine ⟨by simp, fun r => ?_⟩
    unfold must
    rw [if_pos (by simp [isw, h2, h3])]
    rfl
theorem isw_head (x : Bytes) (c r : List Tk) (h : c ≠ []) : isw x (c ++ r) = isw x c := by
  cases c with
  | nil => exact absurd rfl h
  | cons t c => rfl
theorem shut_braced {α : Type} {one : List Tk → Rl.Out α} (he : Eat one) (hn : Nice one) : Rl.Shut (braced one) := by
  have hl := nice_loopC he hn
  have key : ∀ (l : List Tk) (x : List α) (q : List Tk), loop (isw cClose) one l = .ok x q → ∃ c t r, l = c ++ t :: r ∧ q = t :: r := fun l x q h => by
    have hm := many_loop he h
    have hs := hl.suf l
    rw [h] at hs
    have hst : isw cClose q = true := by
      clear hs h
      induction hm with
      | nil h => exact h
      | cons _ _ _ ih => exact ih
    cases q with
    | nil => simp [isw] at hst
    | cons t r =>
      obtain ⟨c, hc⟩ := hs
      exact ⟨c, t, r, hc.symm, rfl⟩
  refine ⟨fun c r x h => ?_, fun c x h => ?_⟩
  · obtain ⟨a, q, h1, h2⟩ := Rl.bind_ok h
    cases h2
    obtain ⟨c1, t, r1, e1, rfl⟩ := key _ _ _ h1
    have hc : c = c1 ++ [t] := by
      have : c ++ r1 = (c1 ++ [t]) ++ r1 := by simpa using e1
      exact List.append_cancel_right this
    subst hc
    refine ⟨by simp, ?_⟩
    have h3 : loop (isw cClose) one (c1 ++ t :: r1) = .ok x (t :: r1) := by simpa using h1
    have h4 := hl.swap h3 []
    unfold braced
    rw [h4]
    rfl
  · obtain ⟨a, q, h1, h2⟩ := Rl.bind_ok h
    obtain ⟨c1, t, r1, e1, rfl⟩ := key _ _ _ h1
    have hr : r1 = [] := by
      simp only [Rl.Out.ok.injEq] at h2
      exact h2.2
    have ha : a = x := by
      simp only [Rl.Out.ok.injEq] at h2
      exact h2.1
    subst hr
    subst ha
    subst e1
    refine ⟨by simp, fun r => ?_⟩
    have h4 := hl.swap h1 r
    unfold braced
    rw [show c1 ++ [t] ++ r = c1 ++ t :: r by simp, h4]
    rfl
theorem shut_semi {α : Type} (a : α) : Rl.Shut (fun l => (must cSemi l).bind fun _ r => Rl.Out.ok a r) := Rl.shut_map (shut_must cSemi) (fun _ => a)
theorem shut_block (k : Nat) : Rl.Shut (block k) :=
  Rl.shut_bind nice_name (fun nm => (nice_must cOpen).bind fun _ => (nice_braced eat_row nice_row).bind fun rs => Nice.pure _) fun nm =>
    Rl.shut_bind (nice_must cOpen) (fun _ => (nice_braced eat_row nice_row).bind fun rs => Nice.pure _) fun _ => Rl.shut_map (shut_braced eat_row nice_row) _
theorem shut_area (k : Nat) : Rl.Shut (area k) :=
  Rl.shut_bind nice_name (fun nm => nice_box.bind fun b => (nice_must wHolds).bind fun _ => nice_num.bind fun h => (nice_must cSemi).bind fun _ => Nice.pure _) fun nm =>
    Rl.shut_bind nice_box (fun b => (nice_must wHolds).bind fun _ => nice_num.bind fun h => (nice_must cSemi).bind fun _ => Nice.pure _) fun b =>
      Rl.shut_bind (nice_must wHolds) (fun _ => nice_num.bind fun h => (nice_must cSemi).bind fun _ => Nice.pure _) fun _ =>
        Rl.shut_bind nice_num (fun h => (nice_must cSemi).bind fun _ => Nice.pure _) fun h => shut_semi _
theorem shut_boxS : Rl.Shut boxS := Rl.shut_bind nice_box (fun b => (nice_must cSemi).bind fun _ => Nice.pure _) fun b => shut_semi _
theorem shut_door : Rl.Shut door := Rl.shut_bind nice_num2 (fun b => (nice_must cSemi).bind fun _ => Nice.pure _) fun b => shut_semi _
theorem shut_itemK (k a : Nat) : Rl.Shut (itemK k a) := by
  unfold itemK
  by_cases h1 : k = 1
  · simp only [h1, if_true]
    exact Rl.shut_map (shut_block a) _
  · simp only [h1, if_false]
    by_cases h2 : k = 2
    · simp only [h2, if_true]
      exact Rl.shut_map (shut_area a) _
    · simp only [h2, if_false]
      by_cases h3 : k = 3
      · simp only [h3, if_true]
        exact Rl.shut_map shut_boxS _
      · simp only [h3, if_false]
        by_cases h4 : k = 4
        · simp only [h4, if_true]
          exact Rl.shut_map shut_boxS _
        · simp only [h4, if_false]
          exact Rl.shut_map shut_door _
theorem shut_item : Rl.Shut item := by
  refine ⟨fun c r x h => ?_, fun c x h => ?_⟩
  · cases c with
    | nil =>
      have := eat_item _ _ _ h
      simp only [List.nil_append] at this
      omega
    | cons t c =>
      refine ⟨by simp, ?_⟩
      rw [List.cons_append, item_cons] at h
      rw [item_cons]
      by_cases h0 : Rl.codeIn sortsL 1 t.text = 0
      · rw [if_pos h0] at h
        cases h
      · rw [if_neg h0] at h ⊢
        exact ((shut_itemK _ _).cut c r x h).2
  · cases c with
    | nil => cases h
    | cons t c =>
      refine ⟨by simp, fun r => ?_⟩
      rw [item_cons] at h
      rw [List.cons_append, item_cons]
      by_cases h0 : Rl.codeIn sortsL 1 t.text = 0
      · rw [if_pos h0] at h
        cases h
      · rw [if_neg h0] at h ⊢
        exact ((shut_itemK _ _).ext c x h).2 r
theorem nice_lev0 (nm : Bytes) (at_ : Nat) : Nice (fun l => (num l).bind fun h l4 => (must cOpen l4).bind fun _ l5 => (braced item l5).bind fun its l6 => .ok (lev nm h its at_) l6) := nice_num.bind fun h => (nice_must cOpen).bind fun _ => (nice_braced eat_item nice_item).bind fun its => Nice.pure _
theorem shut_level : Rl.Shut level :=
  Rl.shut_bind nice_atO (fun at_ => (nice_must wLevel).bind fun _ => nice_name.bind fun nm => (nice_must wHeight).bind fun _ => nice_lev0 nm at_) fun at_ =>
    Rl.shut_bind (nice_must wLevel) (fun _ => nice_name.bind fun nm => (nice_must wHeight).bind fun _ => nice_lev0 nm at_) fun _ =>
      Rl.shut_bind nice_name (fun nm => (nice_must wHeight).bind fun _ => nice_lev0 nm at_) fun nm =>
        Rl.shut_bind (nice_must wHeight) (fun _ => nice_lev0 nm at_) fun _ =>
          Rl.shut_bind nice_num (fun h => (nice_must cOpen).bind fun _ => (nice_braced eat_item nice_item).bind fun its => Nice.pure _) fun h =>
            Rl.shut_bind (nice_must cOpen) (fun _ => (nice_braced eat_item nice_item).bind fun its => Nice.pure _) fun _ => Rl.shut_map (shut_braced eat_item nice_item) _
/-- Things, each out of tokens of its own. -/
inductive Sg {α : Type} (one : List Tk → Rl.Out α) : List (List Tk) → List α → Prop
  | nil : Sg one [] []
  | cons {c : List Tk} {a : α} {cs : List (List Tk)} {as1 : List α} (h : one c = .ok a []) (hs : isw cClose c = false) (h' : Sg one cs as1) : Sg one (c :: cs) (a :: as1)
theorem Sg.append {α : Type} {one : List Tk → Rl.Out α} {cs ds : List (List Tk)} {xs ys : List α} (h : Sg one cs xs) (h' : Sg one ds ys) : Sg one (cs ++ ds) (xs ++ ys) := by
  induction h with
  | nil => exact h'
  | cons h1 h2 _ ih => exact .cons h1 h2 ih
theorem many_sg {α : Type} {one : List Tk → Rl.Out α} (hn : Nice one) (hs : Rl.Shut one) {l : List Tk} {xs : List α} {r : List Tk} (h : Many (isw cClose) one l xs r) : ∃ cs, Sg one cs xs ∧ l = cs.flatten ++ r ∧ isw cClose r = true := by
  induction h with
  | nil h => exact ⟨[], .nil, rfl, h⟩
  | @cons l a q us r h0 h1 h2 ih =>
    obtain ⟨cs, h3, rfl, h5⟩ := ih
    obtain ⟨c, rfl⟩ := hn.cut h1
    obtain ⟨h6, h7⟩ := hs.cut c _ _ h1
    rw [isw_head _ _ _ h6] at h0
    exact ⟨c :: cs, .cons h7 h0 h3, by simp, h5⟩
theorem sg_many {α : Type} {one : List Tk → Rl.Out α} (hs : Rl.Shut one) {cs : List (List Tk)} {xs : List α} (h : Sg one cs xs) : ∀ (r : List Tk), isw cClose r = true → Many (isw cClose) one (cs.flatten ++ r) xs r := by
  induction h with
  | nil => exact fun r hr => .nil hr
  | @cons c a cs xs h1 h2 h3 ih =>
    intro r hr
    obtain ⟨h4, h5⟩ := hs.ext c a h1
    refine .cons (q := cs.flatten ++ r) ?_ ?_ (ih r hr)
    · rw [List.flatten_cons, List.append_assoc, isw_head _ _ _ h4]
      exact h2
    · rw [List.flatten_cons, List.append_assoc]
      exact h5 _
theorem braced_sg {α : Type} {one : List Tk → Rl.Out α} (he : Eat one) (hs : Rl.Shut one) {cs : List (List Tk)} {xs : List α} (h : Sg one cs xs) {t : Tk} (ht : isw cClose [t] = true) (r : List Tk) : braced one (cs.flatten ++ t :: r) = .ok xs r := by
  have h1 := loop_many he (sg_many hs h (t :: r) ht)
  unfold braced
  rw [h1]
  rfl
theorem Sg.ren {α : Type} {one : List Tk → Rl.Out α} {f : Nat → Nat} {v : α → α} (hv : Rl.Eqv f v one one) {cs : List (List Tk)} {xs : List α} (h : Sg one cs xs) : Sg one (cs.map (List.map (Rl.renT f))) (xs.map v) := by
  induction h with
  | nil => exact .nil
  | @cons c a cs xs h1 h2 h3 ih =>
    refine .cons ?_ ?_ ih
    · rw [hv c, h1]
      rfl
    · rw [isw_ren]
      exact h2
/-- A hall: its first six tokens, its levels, its last token. -/
theorem hall_split {l : List Tk} {x : Hl} {r : List Tk} (h : hall l = .ok x r) : r = [] ∧ ∃ hd cs cl, hd.length = 6 ∧ (hd[5]?.map (fun t => t.text)) = some cOpen ∧ l = hd ++ (cs.flatten ++ [cl]) ∧ isw cClose [cl] = true ∧ Sg level cs x.levels ∧
    ∀ b, hall (hd ++ b) = (braced level b).bind fun ls l6 => if l6 = [] then .ok ⟨x.name, x.sx, x.sy, ls⟩ l6 else .bad 4 l6 := by
  obtain ⟨a1, q1, h1, h⟩ := Rl.bind_ok h
  obtain ⟨t1, e1, f1, g1⟩ := must_ok h1
  obtain ⟨a2, q2, h2, h⟩ := Rl.bind_ok h
  obtain ⟨t2, p2, h2', h2⟩ := Rl.bind_ok h2
  obtain ⟨e2, k2⟩ := Rl.nxt_ok h2'
  cases h2
  obtain ⟨a3, q3, h3, h⟩ := Rl.bind_ok h
  obtain ⟨t3, e3, f3, g3⟩ := must_ok h3
  obtain ⟨a4, q4, h4, h⟩ := Rl.bind_ok h
  obtain ⟨a5, q5, h5, h⟩ := Rl.bind_ok h
  obtain ⟨t6, e6, f6, g6⟩ := must_ok h5
  obtain ⟨ls, q6, h6, h⟩ := Rl.bind_ok h
  obtain ⟨n1, p4, h41, h4⟩ := Rl.bind_ok h4
  obtain ⟨t4, p4', h41', h41⟩ := Rl.bind_ok h41
  obtain ⟨e4, k4⟩ := Rl.nxt_ok h41'
  cases h41
  obtain ⟨n2, p5, h42, h4⟩ := Rl.bind_ok h4
  obtain ⟨t5, p5', h42', h42⟩ := Rl.bind_ok h42
  obtain ⟨e5, k5⟩ := Rl.nxt_ok h42'
  cases h42
  cases h4
  obtain ⟨q7, m1, m2⟩ := many_braced eat_level h6
  by_cases hq : q6 = []
  · subst hq
    cases h
    obtain ⟨cs, s1, s2, s3⟩ := many_sg nice_level shut_level m1
    cases q7 with
    | nil => simp [isw] at s3
    | cons cl z =>
      have hz : z = [] := m2.symm
      subst hz
      subst e1 e2 e3 e4 e5 e6 s2
      refine ⟨rfl, [t1, t2, t3, t4, t5, t6], cs, cl, rfl, by simp [f6], by simp, s3, s1, fun b => ?_⟩
      have r1 : must wHall (t1 :: t2 :: t3 :: t4 :: t5 :: t6 :: b) = .ok () (t2 :: t3 :: t4 :: t5 :: t6 :: b) := by
        unfold must
        rw [if_pos (by simp [isw, f1, g1])]
        rfl
      have r2 : name (t2 :: t3 :: t4 :: t5 :: t6 :: b) = .ok t2.text (t3 :: t4 :: t5 :: t6 :: b) := by
        unfold name
        rw [Rl.nxt_cons, if_pos (show Rl.is 1 none (t2 :: t3 :: t4 :: t5 :: t6 :: b) = true from k2)]
        rfl
      have r3 : must wStage (t3 :: t4 :: t5 :: t6 :: b) = .ok () (t4 :: t5 :: t6 :: b) := by
        unfold must
        rw [if_pos (by simp [isw, f3, g3])]
        rfl
      have r4 : num2 (t4 :: t5 :: t6 :: b) = .ok (t4.n, t5.n) (t6 :: b) := by
        unfold num2 num
        rw [Rl.nxt_cons, if_pos (show Rl.is 2 none (t4 :: t5 :: t6 :: b) = true from k4)]
        show (((Rl.nxt 2 none (t5 :: t6 :: b)).bind fun t r => Rl.Out.ok t.n r).bind fun y l2 => .ok (t4.n, y) l2) = _
        rw [Rl.nxt_cons, if_pos (show Rl.is 2 none (t5 :: t6 :: b) = true from k5)]
        rfl
      have r5 : must cOpen (t6 :: b) = .ok () b := by
        unfold must
        rw [if_pos (by simp [isw, f6, g6])]
        rfl
      show hall (t1 :: t2 :: t3 :: t4 :: t5 :: t6 :: b) = _
      unfold hall
      rw [r1]
      show (name _).bind _ = _
      rw [r2]
      show (must wStage _).bind _ = _
      rw [r3]
      show (num2 _).bind _ = _
      rw [r4]
      show (must cOpen _).bind _ = _
      rw [r5]
      rfl
  · simp only [hq, if_false] at h
    cases h
end Pn
end Go.Proofs.YtocadlcglgpdcaaDoor
