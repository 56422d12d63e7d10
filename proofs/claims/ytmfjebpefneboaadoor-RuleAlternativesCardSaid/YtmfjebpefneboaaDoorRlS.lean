/-
  Rule, plain laws 6: an alternative at the end of a rule.
-/
import Derived.Test.YtmfjebpefneboaaDoorRlR
namespace Go.Proofs.YtmfjebpefneboaaDoor
set_option linter.unusedVariables false
set_option linter.unusedSimpArgs false
namespace Rl
open Lx (Tk)
def Semi (t : Tk) : Prop := t.kind = 3 ∧ t.text = [59]
def Cont (t : Tk) : Prop := t.kind = 1 ∧ (t.text = wWhen ∨ t.text = wOr)
/-- A part that ends before a semicolon ends just so before 'when' or 'or'. -/
def Neu {α : Type} (f : List Tk → Out α) : Prop := ∀ p t r t' r' a, Semi t → Cont t' → f (p ++ t :: r) = .ok a (t :: r) → f (p ++ t' :: r') = .ok a (t' :: r')
/-- A test that neither passes. -/
structure HeadNeu (c : List Tk → Prop) : Prop where
  head : HeadP c
  semi : ∀ t r, Semi t → ¬ c (t :: r)
  cont : ∀ t r, Cont t → ¬ c (t :: r)
theorem Neu.pure {α : Type} (a : α) : Neu (fun l => Out.ok a l) := by
  intro p t r t' r' b hs hc h
  simp only [Out.ok.injEq] at h ⊢
  obtain ⟨rfl, h⟩ := h
  have hp : p = [] := by
    have := congrArg List.length h
    simp at this
    exact this
  subst hp
  exact ⟨rfl, rfl⟩
theorem Neu.fail {α : Type} (e : Nat) : Neu (fun l => (Out.bad e l : Out α)) := by
  intro p t r t' r' b hs hc h
  cases h
theorem neu_nxt (k : Nat) (x : Option Bytes) : Neu (nxt k x) := by
  intro p t r t' r' b hs hc h
  obtain ⟨h1, h2⟩ := nxt_ok h
  cases p with
  | nil =>
    have := congrArg List.length h1
    simp at this
  | cons u p =>
    rw [List.cons_append, List.cons.injEq] at h1
    have hp : p = [] := by
      have := congrArg List.length h1.2
      simp at this
      exact this
    subst hp
    rw [← h1.1]
    show nxt k x (u :: t' :: r') = _
    rw [nxt_cons, if_pos (show is k x (u :: t' :: r') = true from h2)]
theorem Neu.bind {α β : Type} {f : List Tk → Out α} {g : α → List Tk → Out β} (hf : Nice f) (nf : Neu f) (hg : ∀ a, Nice (g a)) (ng : ∀ a, Neu (g a)) : Neu (fun l => (f l).bind (g · ·)) := by
  intro p t r t' r' b hs hc h
  obtain ⟨a, q, h1, h2⟩ := bind_ok h
  obtain ⟨c, hc1⟩ := hf.cut h1
  obtain ⟨p2, hp2⟩ := (hg a).cut h2
  subst hp2
  have hp : p = c ++ p2 := by
    rw [← List.append_assoc] at hc1
    exact List.append_cancel_right hc1
  subst hp
  show (f (c ++ p2 ++ t' :: r')).bind (g · ·) = _
  cases p2 with
  | nil =>
    rw [List.append_nil] at h1 ⊢
    rw [nf c t r t' r' a hs hc h1]
    exact ng a [] t r t' r' b hs hc h2
  | cons v p3 =>
    rw [List.append_assoc, List.cons_append] at h1 ⊢
    rw [hf.swap h1 (p3 ++ t' :: r')]
    exact ng a (v :: p3) t r t' r' b hs hc h2
theorem Neu.ite {α : Type} {c : List Tk → Prop} [DecidablePred c] {f g : List Tk → Out α} (hc : HeadNeu c) (nf : Neu f) (ng : Neu g) : Neu (fun l => if c l then f l else g l) := by
  intro p t r t' r' b hs hk h
  have h : (if c (p ++ t :: r) then f (p ++ t :: r) else g (p ++ t :: r)) = .ok b (t :: r) := h
  show (if c (p ++ t' :: r') then f (p ++ t' :: r') else g (p ++ t' :: r')) = _
  cases p with
  | nil =>
    rw [List.nil_append, if_neg (hc.semi t r hs)] at h
    rw [List.nil_append, if_neg (hc.cont t' r' hk)]
    exact ng [] t r t' r' b hs hk h
  | cons v p =>
    by_cases hb : c (v :: (p ++ t :: r))
    · rw [List.cons_append, if_pos hb] at h
      rw [List.cons_append, if_pos (hc.head.cons v _ _ hb)]
      exact nf (v :: p) t r t' r' b hs hk h
    · rw [List.cons_append, if_neg hb] at h
      rw [List.cons_append, if_neg (fun h9 => hb (hc.head.cons v _ _ h9))]
      exact ng (v :: p) t r t' r' b hs hk h
theorem Neu.iteTail {α : Type} {c : List Tk → Prop} [DecidablePred c] {f g : List Tk → Out α} (hc : HeadNeu c) (nf : Neu f) (ng : Neu g) : Neu (fun l => if c l then f l.tail else g l) := by
  intro p t r t' r' b hs hk h
  have h : (if c (p ++ t :: r) then f (p ++ t :: r).tail else g (p ++ t :: r)) = .ok b (t :: r) := h
  show (if c (p ++ t' :: r') then f (p ++ t' :: r').tail else g (p ++ t' :: r')) = _
  cases p with
  | nil =>
    rw [List.nil_append, if_neg (hc.semi t r hs)] at h
    rw [List.nil_append, if_neg (hc.cont t' r' hk)]
    exact ng [] t r t' r' b hs hk h
  | cons v p =>
    by_cases hb : c (v :: (p ++ t :: r))
    · rw [List.cons_append, if_pos hb] at h
      rw [List.cons_append, if_pos (hc.head.cons v _ _ hb)]
      exact nf p t r t' r' b hs hk h
    · rw [List.cons_append, if_neg hb] at h
      rw [List.cons_append, if_neg (fun h9 => hb (hc.head.cons v _ _ h9))]
      exact ng (v :: p) t r t' r' b hs hk h
theorem hn_is {k : Nat} {x : Option Bytes} (h3 : k ≠ 3 ∨ ∃ b, x = some b ∧ b ≠ [59]) (h1 : k ≠ 1 ∨ ∃ b, x = some b ∧ b ≠ wWhen ∧ b ≠ wOr) : HeadNeu (fun l => is k x l = true) := by
  refine ⟨headP_is k x, fun t r hs h => ?_, fun t r hc h => ?_⟩
  · have hk := is_kind h
    rcases h3 with h3 | ⟨b, rfl, hb⟩
    · exact h3 (hk.symm.trans hs.1)
    · exact hb ((is_text h).symm.trans hs.2)
  · have hk := is_kind h
    rcases h1 with h1 | ⟨b, rfl, hb1, hb2⟩
    · exact h1 (hk.symm.trans hc.1)
    · have ht := is_text h
      rcases hc.2 with h9 | h9
      · exact hb1 (ht.symm.trans h9)
      · exact hb2 (ht.symm.trans h9)
theorem hn_op : HeadNeu (fun l => is 3 none l = true ∧ opc (headText l) ≠ 0) := by
  refine ⟨headP_and (f := fun t => opc t ≠ 0) (headP_is 3 none), fun t r hs h => ?_, fun t r hc h => ?_⟩
  · have h2 : opc t.text ≠ 0 := h.2
    rw [hs.2] at h2
    exact h2 (by decide)
  · have hk := is_kind h.1
    rw [hc.1] at hk
    cases hk
theorem neu_test : Neu test := by
  have n5 : ∀ (a : Tk) (o : Tk) (b : Tk), Nice (fun l5 => Out.ok (Tst.mk a.text (opc o.text) b.text 0 a.at_) l5) := fun _ _ _ => Nice.pure _
  have nb : ∀ (a o b : Tk), Nice (fun l3 => if is 3 (some [46]) l3 = true then (nxt 3 none l3).bind fun _ l4 => (nxt 1 none l4).bind fun c l5 => Out.ok (Tst.mk a.text (opc o.text) (b.text ++ ([46] ++ c.text)) 0 a.at_) l5 else .ok ⟨a.text, opc o.text, b.text, 0, a.at_⟩ l3) :=
    fun a o b => Nice.ite (headP_is 3 (some [46])) ((nice_nxt 3 none).bind fun _ => (nice_nxt 1 none).bind fun c => Nice.pure _) (Nice.pure _)
  have no : ∀ (a o : Tk), Nice (fun l2 => if is 2 none l2 = true then (nxt 2 none l2).bind fun n l3 => Out.ok (Tst.mk a.text (opc o.text) [] n.n a.at_) l3
        else (nxt 1 none l2).bind fun b l3 => if is 3 (some [46]) l3 = true then (nxt 3 none l3).bind fun _ l4 => (nxt 1 none l4).bind fun c l5 => .ok ⟨a.text, opc o.text, b.text ++ ([46] ++ c.text), 0, a.at_⟩ l5 else .ok ⟨a.text, opc o.text, b.text, 0, a.at_⟩ l3) :=
    fun a o => Nice.ite (headP_is 2 none) ((nice_nxt 2 none).bind fun n => Nice.pure _) ((nice_nxt 1 none).bind fun b => nb a o b)
  have na : ∀ a : Tk, Nice (fun l1 => if is 3 none l1 = true ∧ opc (headText l1) ≠ 0 then (nxt 3 none l1).bind fun o l2 => if is 2 none l2 = true then (nxt 2 none l2).bind fun n l3 => Out.ok (Tst.mk a.text (opc o.text) [] n.n a.at_) l3
        else (nxt 1 none l2).bind fun b l3 => if is 3 (some [46]) l3 = true then (nxt 3 none l3).bind fun _ l4 => (nxt 1 none l4).bind fun c l5 => .ok ⟨a.text, opc o.text, b.text ++ ([46] ++ c.text), 0, a.at_⟩ l5 else .ok ⟨a.text, opc o.text, b.text, 0, a.at_⟩ l3 else .bad 4 l1) :=
    fun a => Nice.ite (headP_and (f := fun t => opc t ≠ 0) (headP_is 3 none)) ((nice_nxt 3 none).bind fun o => no a o) (Nice.fail 4)
  exact Neu.bind (nice_nxt 1 none) (neu_nxt 1 none) na fun a => Neu.ite hn_op
    (Neu.bind (nice_nxt 3 none) (neu_nxt 3 none) (no a) fun o => Neu.ite (hn_is (.inl (by decide)) (.inl (by decide)))
      (Neu.bind (nice_nxt 2 none) (neu_nxt 2 none) (fun n => Nice.pure _) fun n => Neu.pure _)
      (Neu.bind (nice_nxt 1 none) (neu_nxt 1 none) (nb a o) fun b => Neu.ite (hn_is (.inr ⟨_, rfl, by decide⟩) (.inl (by decide)))
        (Neu.bind (nice_nxt 3 none) (neu_nxt 3 none) (fun _ => (nice_nxt 1 none).bind fun c => Nice.pure _) fun _ => Neu.bind (nice_nxt 1 none) (neu_nxt 1 none) (fun c => Nice.pure _) fun c => Neu.pure _)
        (Neu.pure _)))
    (Neu.fail 4)
theorem neu_sevG {α : Type} {one : List Tk → Out α} (hn : Nice one) (h : Neu one) : ∀ (k : Nat) (acc : List α), Neu (sevG one wAnd k acc)
  | 0, acc => Neu.iteTail (hn_is (.inl (by decide)) (.inr ⟨_, rfl, by decide, by decide⟩)) (Neu.fail 3) (Neu.pure acc)
  | k + 1, acc => Neu.iteTail (f := fun l => (one l).bind fun a r => sevG one wAnd k (acc ++ [a]) r) (hn_is (.inl (by decide)) (.inr ⟨_, rfl, by decide, by decide⟩)) (Neu.bind hn h (fun a => nice_sevG hn wAnd k _) fun a => neu_sevG hn h k (acc ++ [a])) (Neu.pure acc)
theorem neu_tests : Neu tests := Neu.bind nice_test neu_test (fun a => nice_sevG nice_test wAnd 11 [a]) fun a => neu_sevG nice_test neu_test 11 [a]
theorem neu_ratio : Neu ratio := Neu.bind (nice_nxt 2 none) (neu_nxt 2 none) (fun a => (nice_nxt 3 (some [47])).bind fun _ => (nice_nxt 2 none).bind fun b => Nice.pure _) fun a =>
  Neu.bind (nice_nxt 3 (some [47])) (neu_nxt 3 (some [47])) (fun _ => (nice_nxt 2 none).bind fun b => Nice.pure _) fun _ => Neu.bind (nice_nxt 2 none) (neu_nxt 2 none) (fun b => Nice.pure _) fun b => Neu.pure _
theorem neu_after (x : Bytes) : Neu (after x) := Neu.bind (nice_nxt 1 (some x)) (neu_nxt 1 (some x)) (fun _ => nice_ratio) fun _ => neu_ratio
theorem neu_opt {x : Bytes} (h1 : x ≠ wWhen) (h2 : x ≠ wOr) : Neu (opt x) := Neu.iteTail (hn_is (.inl (by decide)) (.inr ⟨_, rfl, h1, h2⟩)) neu_ratio (Neu.pure _)
theorem neu_rest (k : Nat) : Neu (rest k) := by
  unfold rest
  by_cases h1 : k = 1
  · simp only [if_pos h1]
    exact Neu.iteTail (f := fun l => (nxt 2 none l).bind fun n r => .ok (n.n, (0, 0), (0, 0)) r) (hn_is (.inl (by decide)) (.inr ⟨_, rfl, by decide, by decide⟩)) (Neu.bind (nice_nxt 2 none) (neu_nxt 2 none) (fun n => Nice.pure _) fun n => Neu.pure _) (Neu.pure _)
  · simp only [if_neg h1]
    by_cases h3 : k = 3
    · simp only [if_pos h3]
      exact Neu.bind (nice_nxt 2 none) (neu_nxt 2 none) (fun n => (nice_opt wFee).bind fun r => (nice_opt wTax).bind fun s => Nice.pure _) fun n =>
        Neu.bind (nice_opt wFee) (neu_opt (by decide) (by decide)) (fun r => (nice_opt wTax).bind fun s => Nice.pure _) fun r => Neu.bind (nice_opt wTax) (neu_opt (by decide) (by decide)) (fun s => Nice.pure _) fun s => Neu.pure _
    · simp only [if_neg h3]
      by_cases h4 : k = 4
      · simp only [if_pos h4]
        exact Neu.bind (nice_after wCap) (neu_after wCap) (fun r => (nice_after wShare).bind fun s => Nice.pure _) fun r => Neu.bind (nice_after wShare) (neu_after wShare) (fun s => Nice.pure _) fun s => Neu.pure _
      · simp only [if_neg h4]
        by_cases h5 : k = 5
        · simp only [if_pos h5]
          exact Neu.bind nice_ratio neu_ratio (fun r => Nice.pure _) fun r => Neu.pure _
        · simp only [if_neg h5]; exact Neu.pure _
theorem sevG_zero {α : Type} {one : List Tk → Out α} {x : Bytes} {k : Nat} {acc : List α} {l : List Tk} (h : is 1 (some x) l = false) : sevG one x k acc l = .ok acc l := by
  cases k with
  | zero =>
    show (if is 1 (some x) l = true then _ else _) = _
    rw [if_neg (by rw [h]; simp)]
  | succ k =>
    show (if is 1 (some x) l = true then _ else _) = _
    rw [if_neg (by rw [h]; simp)]
theorem sevG_succ {α : Type} {one : List Tk → Out α} {x : Bytes} {k : Nat} {acc : List α} {l : List Tk} (h : is 1 (some x) l = true) : sevG one x (k + 1) acc l = (one l.tail).bind fun a r => sevG one x k (acc ++ [a]) r := by
  show (if is 1 (some x) l = true then _ else _) = _
  rw [if_pos h]
/-- One more list behind the others. -/
theorem sev_or {α : Type} {one : List Tk → Out α} (hn : Nice one) (nu : Neu one) {u c0 : Tk} {w : List Tk} {a0 : α} {s : List Tk} (hu : Semi u) (hc : c0.kind = 1 ∧ c0.text = wOr) (hw : one w = .ok a0 s) (hs : is 1 (some wOr) s = false) :
    ∀ (k : Nat) (acc : List α) (q : List Tk) (z : List α), sevG one wOr k acc (q ++ [u]) = .ok z [u] → z.length < acc.length + k → sevG one wOr k acc (q ++ c0 :: w) = .ok (z ++ [a0]) s
  | 0, acc, q, z, h, hk => by
    by_cases hb : is 1 (some wOr) (q ++ [u]) = true
    · have h : (if is 1 (some wOr) (q ++ [u]) = true then Out.bad 3 (q ++ [u]).tail else Out.ok acc (q ++ [u])) = .ok z [u] := h
      rw [if_pos hb] at h
      cases h
    · rw [sevG_zero (by simpa using hb), Out.ok.injEq] at h
      rw [h.1] at hk
      omega
  | k + 1, acc, q, z, h, hk => by
    have hcc : Cont c0 := ⟨hc.1, .inr hc.2⟩
    have hisu : is 1 (some wOr) [u] = false := by
      show (decide (u.kind = 1) && decide (u.text = wOr)) = false
      rw [hu.1]
      rfl
    have hisc : ∀ z, is 1 (some wOr) (c0 :: z) = true := fun z => by
      show (decide (c0.kind = 1) && decide (c0.text = wOr)) = true
      rw [hc.1, hc.2]
      rfl
    cases q with
    | nil =>
      rw [List.nil_append, sevG_zero hisu, Out.ok.injEq] at h
      rw [List.nil_append, sevG_succ (hisc w), List.tail_cons, hw]
      show sevG one wOr k (acc ++ [a0]) s = _
      rw [sevG_zero hs, h.1]
    | cons v q =>
      by_cases hb : is 1 (some wOr) (v :: (q ++ [u])) = true
      · rw [List.cons_append, sevG_succ hb, List.tail_cons] at h
        rw [List.cons_append, sevG_succ (show is 1 (some wOr) (v :: (q ++ c0 :: w)) = true from hb), List.tail_cons]
        obtain ⟨a, r, h1, h2⟩ := bind_ok h
        obtain ⟨p1, hp1⟩ := hn.cut h1
        obtain ⟨p2, hp2⟩ := (nice_sevG hn wOr k (acc ++ [a])).cut h2
        subst hp2
        have hq : q = p1 ++ p2 := by
          rw [← List.append_assoc] at hp1
          exact List.append_cancel_right hp1
        subst hq
        have ih := sev_or hn nu hu hc hw hs k (acc ++ [a]) p2 z h2 (by rw [List.length_append]; simp; omega)
        cases p2 with
        | nil =>
          rw [List.append_nil] at h1 ⊢
          rw [nu p1 u [] c0 w a hu hcc h1]
          exact ih
        | cons y p2 =>
          rw [List.append_assoc, List.cons_append] at h1 ⊢
          rw [hn.swap h1 (p2 ++ c0 :: w)]
          exact ih
      · rw [List.cons_append, sevG_zero (by simpa using hb), Out.ok.injEq] at h
        have := congrArg List.length h.2
        simp at this
theorem is_semi {u : Tk} (hu : Semi u) (r : List Tk) : is 3 (some [59]) (u :: r) = true := by
  show (decide (u.kind = 3) && decide (u.text = [59])) = true
  rw [hu.1, hu.2]
  rfl
/-- A rule and an alternative at its end. -/
theorem item_alt {P w : List Tk} {u c0 v : Tk} {x : Itm} {τ : Tst} (hx : item (P ++ [u]) = .ok x []) (hlen : x.whn.length < 12) (hw : tests w = .ok [τ] [v]) (hv : Semi v)
    (hc : c0.kind = 1 ∧ c0.text = if x.whn = [] then wWhen else wOr) : Semi u ∧ item (P ++ c0 :: w) = .ok { x with whn := x.whn ++ [[τ]] } [] := by
  obtain ⟨t, n, b, c, l2, l3, l4, e1, k1, k2, k3, h5, h7, h9, rfl⟩ := item_ok hx
  simp only at hlen hc ⊢
  obtain ⟨q1, hq1⟩ := (nice_rest _).cut h5
  obtain ⟨q2, hq2⟩ := nice_whn.cut h7
  obtain ⟨e9, h9b⟩ := nxt_ok h9
  have hl4 : l4 = [u] := by
    rw [e9] at hq2
    rw [hq1, hq2] at e1
    have h10 : (P ++ [u]) = (t :: n :: q1 ++ q2) ++ [l4.head?.getD t] := by rw [e1]; simp
    have h11 := List.append_inj_right' h10 rfl
    rw [e9, ← h11]
  have hu : Semi u := by
    rw [hl4] at h9b
    exact ⟨is_kind h9b, is_text h9b⟩
  refine ⟨hu, ?_⟩
  rw [hl4] at h7 hq2
  have hP : P = t :: n :: (q1 ++ q2) := by
    rw [hq1, hq2] at e1
    have h10 : P ++ [u] = (t :: n :: (q1 ++ q2)) ++ [u] := by rw [e1]; simp
    exact List.append_cancel_right h10
  rw [hP]
  have hCont : Cont c0 := ⟨hc.1, by rcases Classical.em (c = []) with h | h <;> simp [hc.2, h]⟩
  have hisv : is 1 (some wOr) [v] = false := by
    show (decide (v.kind = 1) && decide (v.text = wOr)) = false
    rw [hv.1]
    rfl
  -- the rest and the conditions
  have key : ∃ q, (rest (kindc t.text) (q1 ++ q2 ++ c0 :: w) = .ok b q) ∧ whn q = .ok (c ++ [[τ]]) [v] := by
    unfold whn at h7
    by_cases hb : is 1 (some wWhen) l3 = true
    · rw [if_pos hb] at h7
      have hne : c ≠ [] := (emits_sev nice_tests emits_tests wOr _ _ _ h7).choose_spec.choose_spec.2.2.1
      rw [if_neg hne] at hc
      cases l3 with
      | nil => cases hb
      | cons y q3 =>
        cases q2 with
        | nil =>
          have : y = u := by
            rw [List.nil_append, List.cons.injEq] at hq2
            exact hq2.1
          rw [this] at hb
          have := is_kind hb
          rw [hu.1] at this
          cases this
        | cons y2 q4 =>
          rw [List.cons_append, List.cons.injEq] at hq2
          obtain ⟨rfl, rfl⟩ := hq2
          refine ⟨y :: (q4 ++ c0 :: w), ?_, ?_⟩
          · rw [hq1] at h5
            have := (nice_rest (kindc t.text)).swap h5 (q4 ++ c0 :: w)
            simpa using this
          · unfold whn
            rw [if_pos (show is 1 (some wWhen) (y :: (q4 ++ c0 :: w)) = true from hb), List.tail_cons]
            rw [List.tail_cons] at h7
            obtain ⟨a, r, h8, h10⟩ := bind_ok h7
            obtain ⟨p1, hp1⟩ := nice_tests.cut h8
            obtain ⟨p2, hp2⟩ := (nice_sevG nice_tests wOr 11 [a]).cut h10
            subst hp2
            have hq4 : q4 = p1 ++ p2 := by
              rw [← List.append_assoc] at hp1
              exact List.append_cancel_right hp1
            subst hq4
            have hso := sev_or nice_tests neu_tests hu hc hw hisv 11 [a] p2 c h10 (by simp; omega)
            show (tests (p1 ++ p2 ++ c0 :: w)).bind (fun a r => sevG tests wOr 11 [a] r) = _
            cases p2 with
            | nil =>
              rw [List.append_nil] at h8 ⊢
              rw [neu_tests p1 u [] c0 w a hu hCont h8]
              exact hso
            | cons z p2 =>
              rw [List.append_assoc, List.cons_append] at h8 ⊢
              rw [nice_tests.swap h8 (p2 ++ c0 :: w)]
              exact hso
    · rw [if_neg hb, Out.ok.injEq] at h7
      obtain ⟨rfl, rfl⟩ := h7
      have hq20 : q2 = [] := by
        have := congrArg List.length hq2
        simp at this
        exact this
      subst hq20
      rw [if_pos rfl] at hc
      refine ⟨c0 :: w, ?_, ?_⟩
      · rw [List.append_nil]
        exact neu_rest (kindc t.text) q1 u [] c0 w b hu hCont (by rw [← hq1]; exact h5)
      · unfold whn
        have hb2 : is 1 (some wWhen) (c0 :: w) = true := by
          show (decide (c0.kind = 1) && decide (c0.text = wWhen)) = true
          rw [hc.1, hc.2]
          rfl
        rw [if_pos hb2, List.tail_cons]
        show (tests w).bind (fun a r => sevG tests wOr 11 [a] r) = _
        rw [hw]
        show sevG tests wOr 11 [[τ]] [v] = _
        rw [sevG_zero hisv]
        rfl
  obtain ⟨q, hq, hq'⟩ := key
  have hI1 : is 1 none (t :: n :: (q1 ++ q2) ++ c0 :: w) = true := by
    show (decide (t.kind = 1) && true) = true
    simp [k1]
  have hI2 : is 1 none (n :: (q1 ++ q2 ++ c0 :: w)) = true := by
    show (decide (n.kind = 1) && true) = true
    simp [k3]
  unfold item
  rw [if_pos ⟨hI1, k2⟩]
  show (nxt 1 none (t :: (n :: (q1 ++ q2 ++ c0 :: w)))).bind _ = _
  rw [nxt_cons, if_pos (show is 1 none (t :: (n :: (q1 ++ q2 ++ c0 :: w))) = true from hI1)]
  simp only [Out.bind]
  rw [nxt_cons, if_pos hI2]
  simp only
  rw [hq]
  simp only
  rw [hq']
  simp only
  rw [nxt_cons, if_pos (is_semi hv [])]
end Rl
end Go.Proofs.YtmfjebpefneboaaDoor
