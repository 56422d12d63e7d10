/-
  Rule, plain laws 2: other offsets; the tokens that rules and tests begin with.
-/
import Derived.Test.YtocadlcglgpdcaaDoorRlP
namespace Go.Proofs.YtocadlcglgpdcaaDoor
set_option linter.unusedVariables false
set_option linter.unusedSimpArgs false
namespace Rl
open Lx (Tk)
def renT (f : Nat → Nat) (t : Tk) : Tk := { t with at_ := f t.at_ }
def renS (f : Nat → Nat) (t : Tst) : Tst := { t with at_ := f t.at_ }
def renI (f : Nat → Nat) (x : Itm) : Itm := { x with at_ := f x.at_, whn := x.whn.map (·.map (renS f)) }
def Out.ren {α : Type} (f : Nat → Nat) (v : α → α) : Out α → Out α
  | .ok a r => .ok (v a) (r.map (renT f))
  | .bad e r => .bad e (r.map (renT f))
/-- With other offsets a part comes to the same with other offsets. -/
def Eqv {α : Type} (f : Nat → Nat) (v : α → α) (p p' : List Tk → Out α) : Prop := ∀ l, p' (l.map (renT f)) = (p l).ren f v
theorem Eqv.pure {α : Type} {f : Nat → Nat} {v : α → α} {a b : α} (h : b = v a) : Eqv f v (fun l => Out.ok a l) (fun l => Out.ok b l) := fun l => by
  subst h
  rfl
theorem Eqv.fail {α : Type} {f : Nat → Nat} {v : α → α} (e : Nat) : Eqv f v (fun l => (Out.bad e l : Out α)) (fun l => Out.bad e l) := fun l => rfl
theorem Eqv.bind {α β : Type} {f : Nat → Nat} {v : α → α} {u : β → β} {p p' : List Tk → Out α} {k k' : α → List Tk → Out β} (hp : Eqv f v p p') (hk : ∀ a, Eqv f u (k a) (k' (v a))) :
    Eqv f u (fun l => (p l).bind (k · ·)) (fun l => (p' l).bind (k' · ·)) := fun l => by
  show (p' (l.map (renT f))).bind (k' · ·) = ((p l).bind (k · ·)).ren f u
  rw [hp l]
  cases p l with
  | ok a r => exact hk a r
  | bad e r => rfl
theorem Eqv.ite {α : Type} {f : Nat → Nat} {v : α → α} {c : List Tk → Prop} [DecidablePred c] {p p' q q' : List Tk → Out α} (hc : ∀ l, c (l.map (renT f)) ↔ c l) (hp : Eqv f v p p') (hq : Eqv f v q q') :
    Eqv f v (fun l => if c l then p l else q l) (fun l => if c l then p' l else q' l) := fun l => by
  by_cases h : c l
  · simp only [if_pos h, if_pos ((hc l).2 h)]
    exact hp l
  · simp only [if_neg h, if_neg (fun h9 => h ((hc l).1 h9))]
    exact hq l
theorem Eqv.iteTail {α : Type} {f : Nat → Nat} {v : α → α} {c : List Tk → Prop} [DecidablePred c] {p p' q q' : List Tk → Out α} (hc : ∀ l, c (l.map (renT f)) ↔ c l) (hp : Eqv f v p p') (hq : Eqv f v q q') :
    Eqv f v (fun l => if c l then p l.tail else q l) (fun l => if c l then p' l.tail else q' l) := fun l => by
  by_cases h : c l
  · simp only [if_pos h, if_pos ((hc l).2 h), ← List.map_tail]
    exact hp l.tail
  · simp only [if_neg h, if_neg (fun h9 => h ((hc l).1 h9))]
    exact hq l
theorem is_ren (f : Nat → Nat) (k : Nat) (x : Option Bytes) (l : List Tk) : is k x (l.map (renT f)) = true ↔ is k x l = true := by
  cases l with
  | nil => exact Iff.rfl
  | cons t r => exact Iff.rfl
theorem headText_ren (f : Nat → Nat) (l : List Tk) : headText (l.map (renT f)) = headText l := by
  cases l with
  | nil => rfl
  | cons t r => rfl
theorem isAnd_ren (f : Nat → Nat) (k : Nat) (x : Option Bytes) (c : Bytes → Prop) (l : List Tk) : (is k x (l.map (renT f)) = true ∧ c (headText (l.map (renT f)))) ↔ (is k x l = true ∧ c (headText l)) := by
  rw [is_ren, headText_ren]
theorem eqv_nxt (f : Nat → Nat) (k : Nat) (x : Option Bytes) : Eqv f (renT f) (nxt k x) (nxt k x) := fun l => by
  cases l with
  | nil => rfl
  | cons t r =>
    rw [List.map_cons, nxt_cons, nxt_cons]
    by_cases h : is k x (t :: r) = true
    · rw [if_pos h, if_pos (show is k x (renT f t :: r.map (renT f)) = true from h)]
      rfl
    · rw [if_neg h, if_neg (show ¬ is k x (renT f t :: r.map (renT f)) = true from h)]
      rfl
theorem eqv_test (f : Nat → Nat) : Eqv f (renS f) test test :=
  (eqv_nxt f 1 none).bind fun a => Eqv.ite (isAnd_ren f 3 none (fun t => opc t ≠ 0))
    ((eqv_nxt f 3 none).bind fun o => Eqv.ite (is_ren f 2 none) ((eqv_nxt f 2 none).bind fun n => Eqv.pure rfl)
      ((eqv_nxt f 1 none).bind fun b => Eqv.ite (is_ren f 3 (some [46])) ((eqv_nxt f 3 none).bind fun _ => (eqv_nxt f 1 none).bind fun c => Eqv.pure rfl) (Eqv.pure rfl)))
    (Eqv.fail 4)
theorem eqv_sevG {α : Type} {f : Nat → Nat} {v : α → α} {one : List Tk → Out α} (h : Eqv f v one one) (x : Bytes) : ∀ (k : Nat) (acc : List α), Eqv f (List.map v) (sevG one x k acc) (sevG one x k (acc.map v))
  | 0, acc => Eqv.iteTail (is_ren f 1 (some x)) (Eqv.fail 3) (Eqv.pure rfl)
  | k + 1, acc => Eqv.iteTail (p := fun l => (one l).bind fun a r => sevG one x k (acc ++ [a]) r) (p' := fun l => (one l).bind fun a r => sevG one x k (acc.map v ++ [a]) r) (is_ren f 1 (some x)) (h.bind fun a => by
      have := eqv_sevG h x k (acc ++ [a])
      rw [List.map_append] at this
      exact this) (Eqv.pure rfl)
theorem eqv_sev {α : Type} {f : Nat → Nat} {v : α → α} {one : List Tk → Out α} (h : Eqv f v one one) (x : Bytes) : Eqv f (List.map v) (sev one x) (sev one x) := h.bind fun a => eqv_sevG h x 11 [a]
theorem eqv_tests (f : Nat → Nat) : Eqv f (List.map (renS f)) tests tests := eqv_sev (eqv_test f) wAnd
theorem eqv_ratio (f : Nat → Nat) : Eqv f id ratio ratio := (eqv_nxt f 2 none).bind fun a => (eqv_nxt f 3 (some [47])).bind fun _ => (eqv_nxt f 2 none).bind fun b => Eqv.pure rfl
theorem eqv_after (f : Nat → Nat) (x : Bytes) : Eqv f id (after x) (after x) := (eqv_nxt f 1 (some x)).bind fun _ => eqv_ratio f
theorem eqv_opt (f : Nat → Nat) (x : Bytes) : Eqv f id (opt x) (opt x) := Eqv.iteTail (is_ren f 1 (some x)) (eqv_ratio f) (Eqv.pure rfl)
theorem eqv_allow (f : Nat → Nat) : Eqv f id allow allow := Eqv.iteTail (p := fun l => (nxt 2 none l).bind fun n r => .ok (n.n, (0, 0), (0, 0)) r) (p' := fun l => (nxt 2 none l).bind fun n r => .ok (n.n, (0, 0), (0, 0)) r) (is_ren f 1 (some wLimit)) ((eqv_nxt f 2 none).bind fun n => Eqv.pure rfl) (Eqv.pure rfl)
theorem eqv_price (f : Nat → Nat) : Eqv f id price price := (eqv_nxt f 2 none).bind fun n => (eqv_opt f wFee).bind fun r => (eqv_opt f wTax).bind fun s => Eqv.pure rfl
theorem eqv_resale (f : Nat → Nat) : Eqv f id resale resale := (eqv_after f wCap).bind fun r => (eqv_after f wShare).bind fun s => Eqv.pure rfl
theorem eqv_refund (f : Nat → Nat) : Eqv f id refund refund := (eqv_ratio f).bind fun r => Eqv.pure rfl
theorem eqv_rest (f : Nat → Nat) (k : Nat) : Eqv f id (rest k) (rest k) := by
  unfold rest
  by_cases h1 : k = 1
  · simp only [if_pos h1]; exact eqv_allow f
  · simp only [if_neg h1]
    by_cases h3 : k = 3
    · simp only [if_pos h3]; exact eqv_price f
    · simp only [if_neg h3]
      by_cases h4 : k = 4
      · simp only [if_pos h4]; exact eqv_resale f
      · simp only [if_neg h4]
        by_cases h5 : k = 5
        · simp only [if_pos h5]; exact eqv_refund f
        · simp only [if_neg h5]; exact Eqv.pure rfl
theorem eqv_whn (f : Nat → Nat) : Eqv f (List.map (List.map (renS f))) whn whn := Eqv.iteTail (is_ren f 1 (some wWhen)) (eqv_sev (eqv_tests f) wOr) (Eqv.pure rfl)
theorem eqv_item (f : Nat → Nat) : Eqv f (renI f) item item :=
  Eqv.ite (isAnd_ren f 1 none (fun t => kindc t ≠ 0))
    ((eqv_nxt f 1 none).bind fun t => (eqv_nxt f 1 none).bind fun n => (eqv_rest f (kindc t.text)).bind fun b => (eqv_whn f).bind fun c => (eqv_nxt f 3 (some [59])).bind fun _ => Eqv.pure rfl)
    (Eqv.fail 4)
theorem eqv_items (f : Nat → Nat) : ∀ (k : Nat) (acc : List Itm), Eqv f (List.map (renI f)) (items k acc) (items k (acc.map (renI f)))
  | 0, acc => fun l => by cases l <;> rfl
  | k + 1, acc => fun l => by
    cases l with
    | nil => rfl
    | cons t r =>
      have h : Eqv f (List.map (renI f)) (fun l => (item l).bind fun x q => items k (acc ++ [x]) q) (fun l => (item l).bind fun x q => items k (acc.map (renI f) ++ [x]) q) := (eqv_item f).bind fun a => by
        have := eqv_items f k (acc ++ [a])
        rw [List.map_append] at this
        exact this
      exact h (t :: r)
/-- The tokens that the parts of a value begin with. -/
inductive EL {α : Type} (E : α → List Tk → Prop) : List α → List Tk → Prop where
  | nil : EL E [] []
  | cons {a : α} {t : List Tk} {as : List α} {ts : List Tk} : E a t → EL E as ts → EL E (a :: as) (t ++ ts)
theorem EL.append {α : Type} {E : α → List Tk → Prop} {as bs : List α} {ts us : List Tk} (h : EL E as ts) (h' : EL E bs us) : EL E (as ++ bs) (ts ++ us) := by
  induction h with
  | nil => exact h'
  | cons h1 _ ih =>
    rw [List.append_assoc]
    exact .cons h1 ih
theorem EL.one {α : Type} {E : α → List Tk → Prop} {a : α} {t : List Tk} (h : E a t) : EL E [a] t := by
  have := EL.cons h .nil
  rwa [List.append_nil] at this
def Emits {α : Type} (f : List Tk → Out α) (E : α → List Tk → Prop) : Prop := ∀ l a r, f l = .ok a r → ∃ c ts, l = c ++ r ∧ ts.Sublist c ∧ E a ts
def Et (t : Tst) (ts : List Tk) : Prop := ∃ u, ts = [u] ∧ u.kind = 1 ∧ u.text = t.attr ∧ u.at_ = t.at_
def Er (l : List Tst) (ts : List Tk) : Prop := l ≠ [] ∧ EL Et l ts
def Ei (x : Itm) (ts : List Tk) : Prop := ∃ u q, ts = u :: q ∧ u.kind = 1 ∧ kindc u.text = x.kind ∧ x.kind ≠ 0 ∧ u.at_ = x.at_ ∧ EL Er x.whn q
theorem nxt_ok {k : Nat} {x : Option Bytes} {l : List Tk} {t : Tk} {r : List Tk} (h : nxt k x l = .ok t r) : l = t :: r ∧ is k x l = true := by
  cases l with
  | nil => cases h
  | cons u q =>
    rw [nxt_cons] at h
    by_cases hb : is k x (u :: q) = true
    · rw [if_pos hb, Out.ok.injEq] at h
      exact ⟨by rw [h.1, h.2], hb⟩
    · rw [if_neg hb] at h
      cases h
theorem bind_ok {α β : Type} {o : Out α} {k : α → List Tk → Out β} {b : β} {r : List Tk} (h : o.bind k = .ok b r) : ∃ a q, o = .ok a q ∧ k a q = .ok b r := by
  cases o with
  | ok a q => exact ⟨a, q, rfl, h⟩
  | bad e q => cases h
theorem is_kind {k : Nat} {x : Option Bytes} {t : Tk} {r : List Tk} (h : is k x (t :: r) = true) : t.kind = k := by
  unfold is at h
  rw [Bool.and_eq_true] at h
  exact of_decide_eq_true h.1
theorem is_text {k : Nat} {x : Bytes} {t : Tk} {r : List Tk} (h : is k (some x) (t :: r) = true) : t.text = x := by
  unfold is at h
  rw [Bool.and_eq_true] at h
  exact of_decide_eq_true h.2
theorem Nice.cut {α : Type} {f : List Tk → Out α} (hf : Nice f) {l r : List Tk} {a : α} (h : f l = .ok a r) : ∃ c, l = c ++ r := by
  have := hf.suf l
  rw [h] at this
  obtain ⟨c, hc⟩ := this
  exact ⟨c, hc.symm⟩
theorem emits_test : Emits test Et := by
  intro l t r h
  obtain ⟨c, hc⟩ := nice_test.cut h
  refine ⟨c, ?_⟩
  obtain ⟨a, q, h1, h2⟩ := bind_ok h
  obtain ⟨h3, h4⟩ := nxt_ok h1
  have hk := h4
  rw [h3] at hk
  have hkind := is_kind hk
  have hr : r <:+ q ∧ t.attr = a.text ∧ t.at_ = a.at_ := by
    by_cases hb : is 3 none q = true ∧ opc (headText q) ≠ 0
    · rw [if_pos hb] at h2
      obtain ⟨o, q2, h5, h6⟩ := bind_ok h2
      have e5 := (nxt_ok h5).1
      by_cases h7 : is 2 none q2 = true
      · rw [if_pos h7] at h6
        obtain ⟨n, q3, h8, h9⟩ := bind_ok h6
        have e8 := (nxt_ok h8).1
        rw [Out.ok.injEq] at h9
        rw [← h9.1, ← h9.2, e5, e8]
        exact ⟨⟨[o, n], rfl⟩, rfl, rfl⟩
      · rw [if_neg h7] at h6
        obtain ⟨n, q3, h8, h9⟩ := bind_ok h6
        have e8 := (nxt_ok h8).1
        by_cases h10 : is 3 (some [46]) q3 = true
        · rw [if_pos h10] at h9
          obtain ⟨d, q4, h11, h12⟩ := bind_ok h9
          obtain ⟨d2, q5, h13, h14⟩ := bind_ok h12
          have e11 := (nxt_ok h11).1
          have e13 := (nxt_ok h13).1
          rw [Out.ok.injEq] at h14
          rw [← h14.1, ← h14.2, e5, e8, e11, e13]
          exact ⟨⟨[o, n, d, d2], rfl⟩, rfl, rfl⟩
        · rw [if_neg h10, Out.ok.injEq] at h9
          rw [← h9.1, ← h9.2, e5, e8]
          exact ⟨⟨[o, n], rfl⟩, rfl, rfl⟩
    · rw [if_neg hb] at h2
      cases h2
  obtain ⟨⟨c', hc'⟩, h5, h6⟩ := hr
  have hcc : c = a :: c' := by
    have : c ++ r = (a :: c') ++ r := by rw [← hc, h3, ← hc']; rfl
    exact List.append_cancel_right this
  refine ⟨[a], hc, ?_, a, rfl, hkind, h5.symm, h6.symm⟩
  rw [hcc]
  exact (List.nil_sublist c').cons_cons a
theorem emits_sevG {α : Type} {one : List Tk → Out α} {E : α → List Tk → Prop} (hn : Nice one) (h : Emits one E) (x : Bytes) : ∀ (k : Nat) (acc : List α) (l : List Tk) (z : List α) (r : List Tk), sevG one x k acc l = .ok z r →
    ∃ as c ts, z = acc ++ as ∧ l = c ++ r ∧ ts.Sublist c ∧ EL E as ts
  | 0, acc, l, z, r, he => by
    unfold sevG at he
    by_cases hb : is 1 (some x) l = true
    · rw [if_pos hb] at he
      cases he
    · rw [if_neg hb, Out.ok.injEq] at he
      exact ⟨[], [], [], by rw [he.1, List.append_nil], by rw [he.2]; rfl, List.Sublist.refl _, .nil⟩
  | k + 1, acc, l, z, r, he => by
    unfold sevG at he
    by_cases hb : is 1 (some x) l = true
    · rw [if_pos hb] at he
      obtain ⟨a, q, h1, h2⟩ := bind_ok he
      obtain ⟨c, ts, h3, h4, h5⟩ := h _ _ _ h1
      obtain ⟨as, c', ts', h6, h7, h8, h9⟩ := emits_sevG hn h x k _ _ _ _ h2
      cases l with
      | nil => cases hb
      | cons t l =>
        simp only [List.tail_cons] at h3
        refine ⟨a :: as, t :: c ++ c', ts ++ ts', by rw [h6]; simp, by rw [h3, h7]; simp, ?_, .cons h5 h9⟩
        exact (h4.cons t).append h8
    · rw [if_neg hb, Out.ok.injEq] at he
      exact ⟨[], [], [], by rw [he.1, List.append_nil], by rw [he.2]; rfl, List.Sublist.refl _, .nil⟩
theorem emits_sev {α : Type} {one : List Tk → Out α} {E : α → List Tk → Prop} (hn : Nice one) (h : Emits one E) (x : Bytes) : Emits (sev one x) (fun as ts => as ≠ [] ∧ EL E as ts) := by
  intro l z r he
  obtain ⟨a, q, h1, h2⟩ := bind_ok he
  obtain ⟨c, ts, h3, h4, h5⟩ := h _ _ _ h1
  obtain ⟨as, c', ts', h6, h7, h8, h9⟩ := emits_sevG hn h x 11 _ _ _ _ h2
  exact ⟨c ++ c', ts ++ ts', by rw [h3, h7, List.append_assoc], h4.append h8, by rw [h6]; simp, by rw [h6]; exact .cons h5 h9⟩
theorem emits_tests : Emits tests Er := emits_sev nice_test emits_test wAnd
theorem emits_whn : Emits whn (EL Er) := by
  intro l z r he
  unfold whn at he
  by_cases hb : is 1 (some wWhen) l = true
  · rw [if_pos hb] at he
    obtain ⟨c, ts, h3, h4, h5⟩ := emits_sev nice_tests emits_tests wOr _ _ _ he
    cases l with
    | nil => cases hb
    | cons t l =>
      exact ⟨t :: c, ts, by rw [← show (t :: l).tail = l from rfl] at *; simp only [List.tail_cons] at h3; rw [h3]; rfl, h4.cons t, h5.2⟩
  · rw [if_neg hb, Out.ok.injEq] at he
    exact ⟨[], [], by rw [he.2]; rfl, List.Sublist.refl _, by rw [← he.1]; exact .nil⟩
theorem item_ok {l : List Tk} {x : Itm} {r : List Tk} (h : item l = .ok x r) : ∃ t n b c l2 l3 l4, l = t :: n :: l2 ∧ t.kind = 1 ∧ kindc t.text ≠ 0 ∧ n.kind = 1 ∧ rest (kindc t.text) l2 = .ok b l3 ∧ whn l3 = .ok c l4 ∧ nxt 3 (some [59]) l4 = .ok (l4.head?.getD t) r ∧
    x = ⟨kindc t.text, n.text, c, b.1, b.2.1, b.2.2, t.at_⟩ := by
  unfold item at h
  by_cases hb : is 1 none l = true ∧ kindc (headText l) ≠ 0
  · rw [if_pos hb] at h
    obtain ⟨t, l1, h1, h2⟩ := bind_ok h
    obtain ⟨n, l2, h3, h4⟩ := bind_ok h2
    obtain ⟨b, l3, h5, h6⟩ := bind_ok h4
    obtain ⟨c, l4, h7, h8⟩ := bind_ok h6
    obtain ⟨u, l5, h9, h10⟩ := bind_ok h8
    obtain ⟨e1, k1⟩ := nxt_ok h1
    obtain ⟨e3, k3⟩ := nxt_ok h3
    obtain ⟨e9, k9⟩ := nxt_ok h9
    rw [Out.ok.injEq] at h10
    rw [e1] at k1 hb
    rw [e3] at k3
    refine ⟨t, n, b, c, l2, l3, l4, by rw [e1, e3], is_kind k1, hb.2, is_kind k3, h5, h7, ?_, h10.1.symm⟩
    rw [h9, e9, h10.2]
    rfl
  · rw [if_neg hb] at h
    cases h
theorem emits_item : Emits item Ei := by
  intro l x r h
  obtain ⟨t, n, b, c, l2, l3, l4, rfl, k1, k2, k3, h5, h7, h9, rfl⟩ := item_ok h
  obtain ⟨c1, e1⟩ := (nice_rest _).cut h5
  obtain ⟨c2, ts, e2, h10, h11⟩ := emits_whn _ _ _ h7
  obtain ⟨c3, e3⟩ := (nice_nxt 3 (some [59])).cut h9
  refine ⟨t :: n :: (c1 ++ (c2 ++ c3)), t :: ts, by rw [e1, e2, e3]; simp, ?_, t, ts, rfl, k1, rfl, k2, rfl, h11⟩
  refine List.Sublist.cons_cons t (List.Sublist.cons n ?_)
  have := (List.nil_sublist c1).append (h10.append (List.nil_sublist c3))
  simpa using this
theorem emits_segs {cs : List (List Tk)} {xs : List Itm} (h : Segs cs xs) : ∃ ts, ts.Sublist cs.flatten ∧ EL Ei xs ts := by
  induction h with
  | nil => exact ⟨[], List.Sublist.refl _, .nil⟩
  | cons h1 _ ih =>
    obtain ⟨ts, h2, h3⟩ := ih
    obtain ⟨c, us, h4, h5, h6⟩ := emits_item _ _ _ h1
    rw [List.append_nil] at h4
    subst h4
    exact ⟨us ++ ts, by rw [List.flatten_cons]; exact h5.append h2, .cons h6 h3⟩
end Rl
end Go.Proofs.YtocadlcglgpdcaaDoor
