/-
  Rule: the reference parser answers as the parser does (plain law).
-/
import Derived.Test.YtmfjebpefneboaaDoorRnA
import Derived.Test.YtmfjebpefneboaaDoorRlQ
import Derived.Test.YtmfjebpefneboaaDoorLxL
namespace Go.Proofs.YtmfjebpefneboaaDoor
set_option linter.unusedVariables false
set_option linter.unusedSimpArgs false
namespace Rl
open Lx (Tk)
/-- A part of the reference parser, begun without an error, comes to what the parser's part comes to. -/
def Ag {α : Type} (en : Nat) (x : α × RSt) : Out α → Prop
  | .ok a r => x = (a, ⟨r, 0, 0⟩)
  | .bad e r => x.2.err = code e r ∧ x.2.at_ = place en r ∧ x.2.err ≠ 0
def AgS {α : Type} (en : Nat) (s : RSt) : Out α → Prop
  | .ok _ r => s = ⟨r, 0, 0⟩
  | .bad e r => s.err = code e r ∧ s.at_ = place en r ∧ s.err ≠ 0
/-- No symbol is a word, and no name a symbol. -/
def Wf (l : List Tk) : Prop := ∀ t ∈ l, (t.kind = 3 → t.text ∉ [wAnd, wOr, wWhen, wLimit, wFee, wTax, wCap, wShare]) ∧ (t.kind = 1 → t.text ∉ [[47], [46], ([59] : Bytes)])
theorem Wf.suf {c r : List Tk} (h : Wf (c ++ r)) : Wf r := fun t ht => h t (by simp [ht])
theorem Wf.tail {l : List Tk} (h : Wf l) : Wf l.tail := fun t ht => h t (List.mem_of_mem_tail ht)
theorem Wf.nice {α : Type} {f : List Tk → Out α} (hf : Nice f) {l r : List Tk} {a : α} (h : Wf l) (ho : f l = .ok a r) : Wf r := by
  obtain ⟨c, rfl⟩ := hf.cut ho
  exact h.suf
theorem code_ne (e : Nat) (r : List Tk) (he : e ≠ 0) : code e r ≠ 0 := by
  unfold code
  split
  · decide
  · exact he
section stuck
variable {s : RSt} (h : s.err ≠ 0)
include h
theorem is_err (k : Nat) (x : Bytes) : s.is k x = false := by unfold RSt.is; simp [h]
theorem key_err (x : Bytes) : s.key x = false := by unfold RSt.key; rw [is_err h, is_err h]; rfl
theorem fail_err (en e : Nat) : s.fail en e = s := by unfold RSt.fail; rw [if_neg h]
theorem take_err (en k : Nat) : s.take en k = (tk0, s) := by unfold RSt.take; rw [is_err h, fail_err h]; rfl
theorem word_err (en : Nat) (x : Bytes) : s.word en x = s := by unfold RSt.word; rw [key_err h, fail_err h]; rfl
theorem ratio_err (en : Nat) : s.ratio en = ((0, 0), s) := by unfold RSt.ratio; simp only [take_err h, word_err h]; rfl
theorem lim_err (en n m : Nat) : s.lim en n m = s := by unfold RSt.lim; rw [fail_err h]; split <;> rfl
theorem lastIs_err (k : Nat) : ∀ (l : List Bytes) (i o : Nat), s.lastIs k l i o = o
  | [], _, _ => rfl
  | x :: r, i, o => by
    show s.lastIs k r (i + 1) (if s.is k x = true then i else o) = o
    rw [lastIs_err k r, is_err h]
    rfl
theorem test_err (en : Nat) : (s.test en).2 = s := by
  unfold RSt.test
  rw [take_err h]
  simp only
  rw [lastIs_err h, if_pos rfl, fail_err h]
theorem rhs_err (en : Nat) : (s.rhs en).2 = s := by
  unfold RSt.rhs
  rw [is_err h, if_neg (by simp), take_err h]
  simp only
  rw [is_err h, if_neg (by simp)]
theorem lst_err {α : Type} (en : Nat) (f : RSt → α × RSt) (x : Bytes) : ∀ (k : Nat) (l : List α), RSt.lst en f x k s l = (l, s)
  | 0, l => rfl
  | k + 1, l => by
    show (if s.err = 0 then _ else (l, s)) = (l, s)
    rw [if_neg h]
theorem tests_err (en : Nat) : (s.tests en).2 = s := by unfold RSt.tests; rw [lst_err h]
theorem when_err (en : Nat) : (s.when en).2 = s := by unfold RSt.when; rw [lst_err h]
theorem opt_err (en : Nat) (x : Bytes) : (s.opt en x).2 = s := by unfold RSt.opt; rw [is_err h, if_neg (by simp)]
theorem rest_err (en k : Nat) : (s.rest en k).2 = s := by
  unfold RSt.rest
  simp only [is_err h, take_err h, opt_err h, word_err h, ratio_err h]
  split
  · rfl
  · split
    · rfl
    · split
      · rfl
      · split <;> rfl
theorem whn_err (en : Nat) : (s.whn en).2 = s := by unfold RSt.whn; rw [is_err h, if_neg (by simp)]
theorem item_err (en : Nat) : (s.item en).2 = s := by unfold RSt.item; rw [lastIs_err h, if_pos rfl, fail_err h]
end stuck
theorem Ag.bind {α β : Type} {en : Nat} {x : α × RSt} {o : Out α} (h : Ag en x o) {F : α → RSt → β × RSt} {k : α → List Tk → Out β} (hs : ∀ a s, s.err ≠ 0 → (F a s).2 = s) (hok : ∀ a r, o = .ok a r → Ag en (F a ⟨r, 0, 0⟩) (k a r)) : Ag en (F x.1 x.2) (o.bind k) := by
  cases o with
  | ok a r =>
    have h' : x = (a, ⟨r, 0, 0⟩) := h
    rw [h']
    exact hok a r rfl
  | bad e r =>
    obtain ⟨h1, h2, h3⟩ := h
    show Ag en (F x.1 x.2) (.bad e r)
    unfold Ag
    rw [hs _ _ h3]
    exact ⟨h1, h2, h3⟩
theorem AgS.bind {α β : Type} {en : Nat} {s : RSt} {o : Out α} (h : AgS en s o) {F : RSt → β × RSt} {k : α → List Tk → Out β} (hs : ∀ s, s.err ≠ 0 → (F s).2 = s) (hok : ∀ a r, o = .ok a r → Ag en (F ⟨r, 0, 0⟩) (k a r)) : Ag en (F s) (o.bind k) := by
  cases o with
  | ok a r =>
    have h' : s = ⟨r, 0, 0⟩ := h
    rw [h']
    exact hok a r rfl
  | bad e r =>
    obtain ⟨h1, h2, h3⟩ := h
    show Ag en (F s) (.bad e r)
    unfold Ag
    rw [hs _ h3]
    exact ⟨h1, h2, h3⟩
theorem ag_fail {α : Type} (en : Nat) (a : α) (l : List Tk) (e : Nat) (he : e ≠ 0) : Ag en (a, (⟨l, 0, 0⟩ : RSt).fail en e) (.bad e l) := by
  unfold Ag RSt.fail
  rw [if_pos rfl]
  exact ⟨rfl, rfl, code_ne e l he⟩
theorem is_none (k : Nat) (l : List Tk) : (⟨l, 0, 0⟩ : RSt).is k [] = is k none l := by
  unfold RSt.is is
  cases l <;> simp
theorem is_some (k : Nat) (l : List Tk) {x : Bytes} (hx : x ≠ []) : (⟨l, 0, 0⟩ : RSt).is k x = is k (some x) l := by
  unfold RSt.is is
  cases l <;> simp [hx]
theorem ag_take (en k : Nat) (l : List Tk) : Ag en ((⟨l, 0, 0⟩ : RSt).take en k) (nxt k none l) := by
  unfold RSt.take
  rw [is_none]
  cases l with
  | nil =>
    show Ag en (if is k none [] = true then _ else _) (.bad 4 [])
    rw [if_neg (by simp [is])]
    exact ag_fail en _ [] 4 (by decide)
  | cons t r =>
    rw [nxt_cons]
    by_cases h : is k none (t :: r) = true
    · rw [if_pos h, if_pos h]
      rfl
    · rw [if_neg h, if_neg h]
      exact ag_fail en _ _ 4 (by decide)
theorem key_word {l : List Tk} {x : Bytes} (hx : x ≠ []) (hw : ∀ t ∈ l, t.kind = 3 → t.text ≠ x) : (⟨l, 0, 0⟩ : RSt).key x = is 1 (some x) l := by
  unfold RSt.key
  rw [is_some _ _ hx, is_some _ _ hx]
  cases l with
  | nil => rfl
  | cons t r =>
    have := hw t (by simp)
    unfold is
    by_cases h : t.kind = 3
    · simp [h, this h]
    · simp [h]
theorem key_sym {l : List Tk} {x : Bytes} (hx : x ≠ []) (hw : ∀ t ∈ l, t.kind = 1 → t.text ≠ x) : (⟨l, 0, 0⟩ : RSt).key x = is 3 (some x) l := by
  unfold RSt.key
  rw [is_some _ _ hx, is_some _ _ hx]
  cases l with
  | nil => rfl
  | cons t r =>
    have := hw t (by simp)
    unfold is
    by_cases h : t.kind = 1
    · simp [h, this h]
    · simp [h]
theorem ag_key {en k : Nat} {l : List Tk} {x : Bytes} (h : (⟨l, 0, 0⟩ : RSt).key x = is k (some x) l) : AgS en ((⟨l, 0, 0⟩ : RSt).word en x) (nxt k (some x) l) := by
  unfold RSt.word
  rw [h]
  cases l with
  | nil =>
    show AgS en (if is k (some x) [] = true then _ else _) (.bad 4 [])
    rw [if_neg (by simp [is])]
    exact ag_fail en tk0 [] 4 (by decide)
  | cons t r =>
    rw [nxt_cons]
    by_cases h : is k (some x) (t :: r) = true
    · rw [if_pos h, if_pos h]
      rfl
    · rw [if_neg h, if_neg h]
      exact ag_fail en tk0 _ 4 (by decide)
theorem Wf.word {l : List Tk} (h : Wf l) {x : Bytes} (hx : x ∈ [wAnd, wOr, wWhen, wLimit, wFee, wTax, wCap, wShare]) : ∀ t ∈ l, t.kind = 3 → t.text ≠ x := fun t ht hk e => (h t ht).1 hk (e ▸ hx)
theorem Wf.sym {l : List Tk} (h : Wf l) {x : Bytes} (hx : x ∈ [[47], [46], ([59] : Bytes)]) : ∀ t ∈ l, t.kind = 1 → t.text ≠ x := fun t ht hk e => (h t ht).2 hk (e ▸ hx)
theorem ag_ratio (en : Nat) {l : List Tk} (hw : Wf l) : Ag en ((⟨l, 0, 0⟩ : RSt).ratio en) (ratio l) := by
  refine Ag.bind (F := fun a s => ((a.n, ((s.word en [47]).take en 2).1.n), ((s.word en [47]).take en 2).2)) (ag_take en 2 l) (fun a s h => by simp only [word_err h, take_err h]) (fun a r ho => ?_)
  have hw1 := hw.nice (nice_nxt 2 none) ho
  refine AgS.bind (F := fun s => ((a.n, (s.take en 2).1.n), (s.take en 2).2)) (ag_key (key_sym (by decide) (hw1.sym (by decide)))) (fun s h => by simp only [take_err h]) (fun b r2 ho2 => ?_)
  exact Ag.bind (F := fun b s => ((a.n, b.n), s)) (ag_take en 2 r2) (fun a s h => rfl) (fun a r ho => rfl)
theorem codeIn_not : ∀ (ws : List Bytes) (i : Nat) (x : Bytes), x ∉ ws → codeIn ws i x = 0
  | [], _, _, _ => rfl
  | y :: r, i, x, h => by
    unfold codeIn
    rw [if_neg (fun e => h (by simp [e]))]
    exact codeIn_not r (i + 1) x (fun h' => h (by simp [h']))
theorem lastIs_cons' (k : Nat) (t : Tk) (q : List Tk) : ∀ (ws : List Bytes) (i o : Nat), 0 < i → (∀ w ∈ ws, w ≠ []) → ws.Nodup → (⟨t :: q, 0, 0⟩ : RSt).lastIs k ws i o = if t.kind = k ∧ codeIn ws i t.text ≠ 0 then codeIn ws i t.text else o
  | [], i, o, _, _, _ => by simp [RSt.lastIs, codeIn]
  | x :: r, i, o, hi, hn, hd => by
    show (⟨t :: q, 0, 0⟩ : RSt).lastIs k r (i + 1) (if (⟨t :: q, 0, 0⟩ : RSt).is k x = true then i else o) = _
    rw [List.nodup_cons] at hd
    rw [lastIs_cons' k t q r (i + 1) _ (by omega) (fun w hw => hn w (by simp [hw])) hd.2, is_some _ _ (hn x (by simp))]
    rw [show codeIn (x :: r) i t.text = if t.text = x then i else codeIn r (i + 1) t.text from rfl]
    unfold is
    by_cases hk : t.kind = k
    · by_cases hx : t.text = x
      · have h0 := codeIn_not r (i + 1) t.text (by rw [hx]; exact hd.1)
        rw [if_neg (by rw [h0]; simp)]
        simp only [hk, hx, decide_true, Bool.and_self, if_true, true_and]
        rw [if_pos (by omega)]
      · simp [hk, hx]
    · simp [hk]
theorem lastIs_eq (k : Nat) (l : List Tk) (ws : List Bytes) (hn : ∀ w ∈ ws, w ≠ []) (hd : ws.Nodup) : (⟨l, 0, 0⟩ : RSt).lastIs k ws 1 0 = if is k none l = true ∧ codeIn ws 1 (headText l) ≠ 0 then codeIn ws 1 (headText l) else 0 := by
  cases l with
  | nil =>
    rw [if_neg (by simp [is])]
    suffices h : ∀ (ws : List Bytes) (i : Nat), (⟨[], 0, 0⟩ : RSt).lastIs k ws i 0 = 0 from h ws 1
    intro ws
    induction ws with
    | nil => intro i; rfl
    | cons x r ih => intro i; exact ih (i + 1)
  | cons t q =>
    rw [lastIs_cons' k t q ws 1 0 (by omega) hn hd]
    simp [is, headText]
theorem is_cons' {k : Nat} {x : Option Bytes} {l : List Tk} (h : is k x l = true) : ∃ t r, l = t :: r ∧ nxt k x l = .ok t r := by
  cases l with
  | nil => simp [is] at h
  | cons t r => exact ⟨t, r, rfl, by rw [nxt_cons, if_pos h]⟩
def rhsO (f : Bytes × Nat → Tst) (l2 : List Tk) : Out Tst :=
  if is 2 none l2 = true then (nxt 2 none l2).bind fun n l3 => .ok (f ([], n.n)) l3
  else (nxt 1 none l2).bind fun b l3 =>
    if is 3 (some [46]) l3 = true then (nxt 3 none l3).bind fun _ l4 => (nxt 1 none l4).bind fun c l5 => .ok (f (b.text ++ ([46] ++ c.text), 0)) l5
    else .ok (f (b.text, 0)) l3
theorem ag_rhs (en : Nat) (f : Bytes × Nat → Tst) {l : List Tk} (hw : Wf l) : Ag en (f ((⟨l, 0, 0⟩ : RSt).rhs en).1, ((⟨l, 0, 0⟩ : RSt).rhs en).2) (rhsO f l) := by
  unfold RSt.rhs rhsO
  rw [is_none]
  by_cases h2 : is 2 none l = true
  · rw [if_pos h2, if_pos h2]
    exact Ag.bind (F := fun a s => (f ([], a.n), s)) (ag_take en 2 l) (fun a s h => rfl) (fun a r ho => rfl)
  · rw [if_neg h2, if_neg h2]
    have hb := Ag.bind (F := fun (b : Tk) (s : RSt) => if s.is 3 [46] = true then (f (b.text ++ ([46] ++ ((s.word en [46]).take en 1).1.text), 0), ((s.word en [46]).take en 1).2) else (f (b.text, 0), s)) (ag_take en 1 l) (fun a s h => by simp only [is_err h]; rfl) (k := fun b l3 =>
      if is 3 (some [46]) l3 = true then (nxt 3 none l3).bind fun _ l4 => (nxt 1 none l4).bind fun c l5 => .ok (f (b.text ++ ([46] ++ c.text), 0)) l5
      else .ok (f (b.text, 0)) l3) (fun b r ho => by
        have hw1 := hw.nice (nice_nxt 1 none) ho
        (try simp only)
        rw [is_some _ _ (by decide)]
        by_cases h3 : is 3 (some [46]) r = true
        · rw [if_pos h3, if_pos h3]
          have hag : AgS en ((⟨r, 0, 0⟩ : RSt).word en [46]) (nxt 3 none r) := by
            have h4 := ag_key (en := en) (key_sym (x := [46]) (by decide) (hw1.sym (by decide)))
            obtain ⟨t, q, rfl, h5⟩ := is_cons' h3
            rw [h5] at h4
            have h6 : nxt 3 none (t :: q) = .ok t q := by
              rw [nxt_cons, if_pos]
              have := is_kind h3
              simp [is, this]
            rw [h6]
            exact h4
          exact AgS.bind (F := fun s => (f (b.text ++ ([46] ++ (s.take en 1).1.text), 0), (s.take en 1).2)) hag (fun s h => by simp only [take_err h]) (fun _ r2 ho2 => Ag.bind (F := fun c s => (f (b.text ++ ([46] ++ c.text), 0), s)) (ag_take en 1 r2) (fun a s h => rfl) (fun a r ho => rfl))
        · rw [if_neg h3, if_neg h3]
          rfl)
    revert hb
    generalize (⟨l, 0, 0⟩ : RSt).take en 1 = y
    intro hb
    (try simp only at hb)
    by_cases h3 : y.2.is 3 [46] = true
    · rw [if_pos h3] at hb ⊢
      exact hb
    · rw [if_neg h3] at hb ⊢
      exact hb
theorem ag_test (en : Nat) {l : List Tk} (hw : Wf l) : Ag en ((⟨l, 0, 0⟩ : RSt).test en) (test l) := by
  have hb := Ag.bind (F := fun (a : Tk) (s : RSt) => if s.lastIs 3 opsL 1 0 = 0 then ((⟨a.text, 0, [], 0, a.at_⟩ : Tst), s.fail en 4) else (⟨a.text, s.lastIs 3 opsL 1 0, (s.tl.rhs en).1.1, (s.tl.rhs en).1.2, a.at_⟩, (s.tl.rhs en).2)) (ag_take en 1 l) (fun a s h => by simp only [lastIs_err h, if_pos, fail_err h]) (k := fun a l1 =>
    if is 3 none l1 = true ∧ opc (headText l1) ≠ 0 then
      (nxt 3 none l1).bind fun o l2 => rhsO (fun x => ⟨a.text, opc o.text, x.1, x.2, a.at_⟩) l2
    else .bad 4 l1) (fun a r ho => by
      have hw1 := hw.nice (nice_nxt 1 none) ho
      (try simp only)
      rw [lastIs_eq 3 r opsL (by decide) (by decide)]
      show Ag en _ (if is 3 none r = true ∧ codeIn opsL 1 (headText r) ≠ 0 then _ else _)
      by_cases h3 : is 3 none r = true ∧ codeIn opsL 1 (headText r) ≠ 0
      · rw [if_pos h3, if_pos h3, if_neg h3.2]
        obtain ⟨t, q, rfl, h4⟩ := is_cons' h3.1
        rw [h4]
        exact ag_rhs en (fun x => ⟨a.text, opc t.text, x.1, x.2, a.at_⟩) hw1.tail
      · rw [if_neg h3, if_neg h3, if_pos rfl]
        exact ag_fail en _ r 4 (by decide))
  have e1 : test l = (nxt 1 none l).bind fun a l1 =>
    if is 3 none l1 = true ∧ opc (headText l1) ≠ 0 then
      (nxt 3 none l1).bind fun o l2 => rhsO (fun x => ⟨a.text, opc o.text, x.1, x.2, a.at_⟩) l2
    else .bad 4 l1 := rfl
  rw [e1]
  unfold RSt.test
  exact hb
/-- A thing is read, if one more fits. -/
def ent {α : Type} (one : List Tk → Out α) (x : Bytes) : Nat → List α → List Tk → Out (List α)
  | 0, _, l => .bad 3 l
  | k + 1, acc, l => (one l).bind fun a r => sevG one x k (acc ++ [a]) r
theorem sevG_ent {α : Type} (one : List Tk → Out α) (x : Bytes) (k : Nat) (acc : List α) (l : List Tk) : sevG one x k acc l = if is 1 (some x) l = true then ent one x k acc l.tail else .ok acc l := by
  cases k <;> rfl
theorem ag_lst {α : Type} (en : Nat) {f : RSt → α × RSt} {one : List Tk → Out α} (hn : Nice one) (hf : ∀ l, Wf l → Ag en (f ⟨l, 0, 0⟩) (one l)) (hs : ∀ s : RSt, s.err ≠ 0 → (f s).2 = s) (h0 : ∃ e, one [] = .bad e []) {x : Bytes} (hx : x ∈ [wAnd, wOr, wWhen, wLimit, wFee, wTax, wCap, wShare]) :
    ∀ (k : Nat) (l : List Tk) (acc : List α), l.length < k → Wf l → acc.length ≤ 12 → Ag en (RSt.lst en f x k ⟨l, 0, 0⟩ acc) (ent one x (12 - acc.length) acc l)
  | 0, l, acc, h, _, _ => by omega
  | k + 1, l, acc, hk, hw, ha => by
    have hxn : x ≠ [] := by rintro rfl; revert hx; decide
    have hstep : ∀ s : RSt, s.err ≠ 0 → (if (f s).2.key x = true then RSt.lst en f x k ((f s).2.word en x) (acc ++ [(f s).1]) else (acc ++ [(f s).1], (f s).2)) = (acc ++ [(f s).1], s) := fun s h => by
      rw [hs s h, key_err h, if_neg (by simp)]
    show Ag en (if (0 : Nat) = 0 then if (f ((⟨l, 0, 0⟩ : RSt).lim en acc.length 12)).2.key x = true then RSt.lst en f x k ((f ((⟨l, 0, 0⟩ : RSt).lim en acc.length 12)).2.word en x) (acc ++ [(f ((⟨l, 0, 0⟩ : RSt).lim en acc.length 12)).1]) else (acc ++ [(f ((⟨l, 0, 0⟩ : RSt).lim en acc.length 12)).1], (f ((⟨l, 0, 0⟩ : RSt).lim en acc.length 12)).2) else (acc, ⟨l, 0, 0⟩)) _
    rw [if_pos rfl]
    by_cases h12 : acc.length = 12
    · rw [h12]
      show Ag en _ (.bad 3 l)
      cases l with
      | nil =>
        have hl : (⟨[], 0, 0⟩ : RSt).lim en 12 12 = ⟨[], 0, 0⟩ := rfl
        rw [hl]
        obtain ⟨e, he⟩ := h0
        have h1 := hf [] hw
        rw [he] at h1
        obtain ⟨h1, h2, h3⟩ := h1
        rw [key_err h3, if_neg (by simp)]
        exact ⟨h1, h2, h3⟩
      | cons t r =>
        have hl : (⟨t :: r, 0, 0⟩ : RSt).lim en 12 12 = ⟨t :: r, 3, place en (t :: r)⟩ := rfl
        rw [hl, hstep _ (by simp)]
        exact ⟨rfl, rfl, by simp⟩
    · obtain ⟨m, hm⟩ : ∃ m, 12 - acc.length = m + 1 := ⟨11 - acc.length, by omega⟩
      have hl : (⟨l, 0, 0⟩ : RSt).lim en acc.length 12 = ⟨l, 0, 0⟩ := by unfold RSt.lim; rw [if_neg (fun h => h12 h.1)]
      rw [hl, hm]
      refine Ag.bind (F := fun a s => if s.key x = true then RSt.lst en f x k (s.word en x) (acc ++ [a]) else (acc ++ [a], s)) (hf l hw) (fun a s h => by simp only [key_err h]; rfl) (fun a r ho => ?_)
      have hw1 := hw.nice hn ho
      obtain ⟨c, hc⟩ := hn.cut ho
      rw [sevG_ent]
      (try simp only)
      rw [key_word hxn (hw1.word hx)]
      by_cases h1 : is 1 (some x) r = true
      · rw [if_pos h1, if_pos h1]
        have h2 : (⟨r, 0, 0⟩ : RSt).word en x = ⟨r.tail, 0, 0⟩ := by
          unfold RSt.word
          rw [key_word hxn (hw1.word hx), if_pos h1]
          rfl
        rw [h2, show m = 12 - (acc ++ [a]).length by simp; omega]
        obtain ⟨t, q, rfl, _⟩ := is_cons' h1
        exact ag_lst en hn hf hs h0 hx k q (acc ++ [a]) (by rw [hc] at hk; simp at hk; omega) hw1.tail (by simp; omega)
      · rw [if_neg h1, if_neg h1]
        rfl
theorem ag_tests (en : Nat) {l : List Tk} (hw : Wf l) : Ag en ((⟨l, 0, 0⟩ : RSt).tests en) (tests l) :=
  ag_lst en nice_test (fun l h => ag_test en h) (fun s h => test_err h en) ⟨4, rfl⟩ (by decide) (l.length + 1) l [] (by omega) hw (by simp)
theorem ag_when (en : Nat) {l : List Tk} (hw : Wf l) : Ag en ((⟨l, 0, 0⟩ : RSt).when en) (sev tests wOr l) :=
  ag_lst en nice_tests (fun l h => ag_tests en h) (fun s h => tests_err h en) ⟨4, rfl⟩ (by decide) (l.length + 1) l [] (by omega) hw (by simp)
theorem word_pos {en : Nat} {l : List Tk} {x : Bytes} (hx : x ≠ []) (h : is 1 (some x) l = true) : (⟨l, 0, 0⟩ : RSt).word en x = ⟨l.tail, 0, 0⟩ := by
  unfold RSt.word RSt.key
  rw [is_some _ _ hx, h]
  rfl
theorem ag_opt (en : Nat) {l : List Tk} (hw : Wf l) {x : Bytes} (hx : x ∈ [wAnd, wOr, wWhen, wLimit, wFee, wTax, wCap, wShare]) : Ag en ((⟨l, 0, 0⟩ : RSt).opt en x) (opt x l) := by
  have hxn : x ≠ [] := by rintro rfl; revert hx; decide
  unfold RSt.opt opt
  rw [is_some _ _ hxn]
  by_cases h1 : is 1 (some x) l = true
  · rw [if_pos h1, if_pos h1, word_pos hxn h1]
    exact ag_ratio en hw.tail
  · rw [if_neg h1, if_neg h1]
    rfl
theorem ag_after (en : Nat) {l : List Tk} (hw : Wf l) {x : Bytes} (hx : x ∈ [wAnd, wOr, wWhen, wLimit, wFee, wTax, wCap, wShare]) : Ag en (((⟨l, 0, 0⟩ : RSt).word en x).ratio en) (after x l) := by
  have hxn : x ≠ [] := by rintro rfl; revert hx; decide
  exact AgS.bind (F := fun s => s.ratio en) (ag_key (key_word hxn (hw.word hx))) (fun s h => by simp only [ratio_err h]) (fun a r ho => ag_ratio en (hw.nice (nice_nxt 1 (some x)) ho))
theorem ag_rest (en k : Nat) {l : List Tk} (hw : Wf l) : Ag en ((⟨l, 0, 0⟩ : RSt).rest en k) (rest k l) := by
  unfold RSt.rest rest
  by_cases h1 : k = 1
  · rw [if_pos h1, if_pos h1]
    unfold allow
    rw [is_some _ _ (by decide)]
    by_cases h2 : is 1 (some wLimit) l = true
    · rw [if_pos h2, if_pos h2, word_pos (by decide) h2]
      exact Ag.bind (F := fun a s => ((a.n, (0, 0), (0, 0)), s)) (ag_take en 2 l.tail) (fun a s h => rfl) (fun a r ho => rfl)
    · rw [if_neg h2, if_neg h2]
      rfl
  · rw [if_neg h1, if_neg h1]
    by_cases h3 : k = 3
    · rw [if_pos h3, if_pos h3]
      refine Ag.bind (F := fun a s => ((a.n, (s.opt en wFee).1, ((s.opt en wFee).2.opt en wTax).1), ((s.opt en wFee).2.opt en wTax).2)) (ag_take en 2 l) (fun a s h => by simp only [opt_err h]) (fun a r ho => ?_)
      have hw1 := hw.nice (nice_nxt 2 none) ho
      refine Ag.bind (F := fun b s => ((a.n, b, (s.opt en wTax).1), (s.opt en wTax).2)) (ag_opt en hw1 (by decide)) (fun a s h => by simp only [opt_err h]) (fun b r2 ho2 => ?_)
      have hw2 := hw1.nice (nice_opt wFee) ho2
      exact Ag.bind (F := fun c s => ((a.n, b, c), s)) (ag_opt en hw2 (by decide)) (fun a s h => rfl) (fun a r ho => rfl)
    · rw [if_neg h3, if_neg h3]
      by_cases h4 : k = 4
      · rw [if_pos h4, if_pos h4]
        refine Ag.bind (F := fun a s => ((0, a, ((s.word en wShare).ratio en).1), ((s.word en wShare).ratio en).2)) (ag_after en hw (x := wCap) (by decide)) (fun a s h => by simp only [word_err h, ratio_err h]) (fun a r ho => ?_)
        have hw1 := hw.nice (nice_after wCap) ho
        exact Ag.bind (F := fun c s => ((0, a, c), s)) (ag_after en hw1 (x := wShare) (by decide)) (fun a s h => rfl) (fun a r ho => rfl)
      · rw [if_neg h4, if_neg h4]
        by_cases h5 : k = 5
        · rw [if_pos h5, if_pos h5]
          exact Ag.bind (F := fun c s => ((0, c, (0, 0)), s)) (ag_ratio en hw) (fun a s h => rfl) (fun a r ho => rfl)
        · rw [if_neg h5, if_neg h5]
          rfl
theorem ag_whn (en : Nat) {l : List Tk} (hw : Wf l) : Ag en ((⟨l, 0, 0⟩ : RSt).whn en) (whn l) := by
  unfold RSt.whn whn
  rw [is_some _ _ (by decide)]
  by_cases h1 : is 1 (some wWhen) l = true
  · rw [if_pos h1, if_pos h1, word_pos (by decide) h1]
    exact ag_when en hw.tail
  · rw [if_neg h1, if_neg h1]
    rfl
theorem ag_item (en : Nat) {l : List Tk} (hw : Wf l) : Ag en ((⟨l, 0, 0⟩ : RSt).item en) (item l) := by
  unfold RSt.item item
  rw [lastIs_eq 1 l kindsL (by decide) (by decide)]
  show Ag en _ (if is 1 none l = true ∧ codeIn kindsL 1 (headText l) ≠ 0 then _ else _)
  by_cases h1 : is 1 none l = true ∧ codeIn kindsL 1 (headText l) ≠ 0
  · rw [if_pos h1, if_neg h1.2, if_pos h1]
    obtain ⟨t, q, rfl, h4⟩ := is_cons' h1.1
    rw [h4]
    show Ag en _ ((nxt 1 none q).bind fun n l2 => (rest (kindc t.text) l2).bind fun b l3 => (whn l3).bind fun c l4 =>
      (nxt 3 (some [59]) l4).bind fun _ l5 => (.ok ⟨kindc t.text, n.text, c, b.1, b.2.1, b.2.2, t.at_⟩ l5 : Out Itm))
    have hw0 : Wf q := hw.tail
    refine Ag.bind (F := fun n s => ((⟨kindc t.text, n.text, ((s.rest en (kindc t.text)).2.whn en).1, (s.rest en (kindc t.text)).1.1, (s.rest en (kindc t.text)).1.2.1, (s.rest en (kindc t.text)).1.2.2, t.at_⟩ : Itm), ((s.rest en (kindc t.text)).2.whn en).2.word en [59])) (ag_take en 1 q) (fun a s h => by simp only [rest_err h, whn_err h, word_err h]) (fun n r ho => ?_)
    have hw1 := hw0.nice (nice_nxt 1 none) ho
    refine Ag.bind (F := fun b s => ((⟨kindc t.text, n.text, (s.whn en).1, b.1, b.2.1, b.2.2, t.at_⟩ : Itm), (s.whn en).2.word en [59])) (ag_rest en _ hw1) (fun a s h => by simp only [whn_err h, word_err h]) (fun b r2 ho2 => ?_)
    have hw2 := hw1.nice (nice_rest _) ho2
    refine Ag.bind (F := fun c s => ((⟨kindc t.text, n.text, c, b.1, b.2.1, b.2.2, t.at_⟩ : Itm), s.word en [59])) (ag_whn en hw2) (fun a s h => by simp only [word_err h]) (fun c r3 ho3 => ?_)
    have hw3 := hw2.nice nice_whn ho3
    exact AgS.bind (F := fun s => ((⟨kindc t.text, n.text, c, b.1, b.2.1, b.2.2, t.at_⟩ : Itm), s)) (ag_key (key_sym (by decide) (hw3.sym (by decide)))) (fun s h => rfl) (fun _ r ho => rfl)
  · rw [if_neg h1, if_pos rfl, if_neg h1]
    exact ag_fail en _ l 4 (by decide)
theorem items_err {s : RSt} (h : s.err ≠ 0) (en : Nat) : ∀ (k : Nat) (l : List Itm), RSt.items en k s l = (l, s)
  | 0, l => rfl
  | k + 1, l => by
    show (if s.err = 0 ∧ s.l ≠ [] then _ else (l, s)) = (l, s)
    rw [if_neg (fun h' => h h'.1)]
theorem item_less {l r : List Tk} {x : Itm} (h : item l = .ok x r) : r.length < l.length := by
  unfold item at h
  split at h
  · rename_i h1
    obtain ⟨t, q, rfl, h4⟩ := is_cons' h1.1
    rw [h4] at h
    have hn : Nice (fun l1 => (nxt 1 none l1).bind fun n l2 => (rest (kindc t.text) l2).bind fun b l3 => (whn l3).bind fun c l4 =>
      (nxt 3 (some [59]) l4).bind fun _ l5 => (.ok ⟨kindc t.text, n.text, c, b.1, b.2.1, b.2.2, t.at_⟩ l5 : Out Itm)) := (nice_nxt 1 none).bind fun n => (nice_rest _).bind fun b => nice_whn.bind fun c => (nice_nxt 3 (some [59])).bind fun _ => Nice.pure _
    obtain ⟨c, hc⟩ := hn.cut (l := q) h
    rw [hc]
    simp
    omega
  · simp at h
theorem ag_items (en : Nat) : ∀ (k : Nat) (l : List Tk) (acc : List Itm), l.length < k → Wf l → acc.length ≤ 200 → Ag en (RSt.items en k ⟨l, 0, 0⟩ acc) (items (200 - acc.length) acc l)
  | 0, l, acc, h, _, _ => by omega
  | k + 1, [], acc, hk, hw, ha => by
    rw [items_done]
    rfl
  | k + 1, t :: r, acc, hk, hw, ha => by
    show Ag en (if (0 : Nat) = 0 ∧ (t :: r) ≠ [] then RSt.items en k (((⟨t :: r, 0, 0⟩ : RSt).lim en acc.length 200).item en).2 (acc ++ [(((⟨t :: r, 0, 0⟩ : RSt).lim en acc.length 200).item en).1]) else (acc, ⟨t :: r, 0, 0⟩)) _
    rw [if_pos ⟨rfl, by simp⟩]
    by_cases h2 : acc.length = 200
    · rw [h2]
      have hl : (⟨t :: r, 0, 0⟩ : RSt).lim en 200 200 = ⟨t :: r, 3, place en (t :: r)⟩ := rfl
      have h3 : (3 : Nat) ≠ 0 := by decide
      rw [hl, item_err (s := ⟨t :: r, 3, place en (t :: r)⟩) h3, items_err (s := ⟨t :: r, 3, place en (t :: r)⟩) h3]
      exact ⟨rfl, rfl, h3⟩
    · obtain ⟨m, hm⟩ : ∃ m, 200 - acc.length = m + 1 := ⟨199 - acc.length, by omega⟩
      have hl : (⟨t :: r, 0, 0⟩ : RSt).lim en acc.length 200 = ⟨t :: r, 0, 0⟩ := by unfold RSt.lim; rw [if_neg (fun h => h2 h.1)]
      rw [hl, hm]
      refine Ag.bind (F := fun a s => RSt.items en k s (acc ++ [a])) (ag_item en hw) (fun a s h => by simp only [items_err h]) (fun a q ho => ?_)
      have hw1 := hw.nice nice_item ho
      have hlt := item_less ho
      rw [show m = 200 - (acc ++ [a]).length by simp; omega]
      exact ag_items en k q (acc ++ [a]) (by simp at hk hlt; omega) hw1 (by simp; omega)
theorem ref_parse (s : Bytes) (hw : Wf (Lx.lex s).1) : RSt.parse s = parse s := by
  unfold RSt.parse parse
  by_cases h : (Lx.lex s).2.1 ≠ 0
  · rw [if_pos h, if_pos h]
  · rw [if_neg h, if_neg h]
    have h1 := ag_items s.length ((Lx.lex s).1.length + 2) (Lx.lex s).1 [] (by omega) hw (by simp)
    simp only
    revert h1
    show Ag _ _ (items 200 [] (Lx.lex s).1) → _
    cases items 200 [] (Lx.lex s).1 with
    | ok a r =>
      intro h1
      have h2 : RSt.items s.length ((Lx.lex s).1.length + 2) ⟨(Lx.lex s).1, 0, 0⟩ [] = (a, ⟨r, 0, 0⟩) := h1
      rw [h2]
      rfl
    | bad e r =>
      intro h1
      obtain ⟨h1, h2, h3⟩ := h1
      rw [if_pos h3, h1, h2]
      rfl
open Lx in
theorem sc_class : ∀ (o : Nat) (s : Bytes), ∀ x ∈ sc o s, x.2 = 0 → ∃ c r, x.1.text = c :: r ∧ (x.1.kind = 1 → cls c = 3) ∧ (x.1.kind = 3 → cls c ≠ 3) := by
  refine sc_ind ?_ ?_ ?_ ?_ ?_
  · intro o x hx
    simp [sc_nil] at hx
  · intro o c s h ih x hx
    rw [sc_blank h] at hx
    exact ih x hx
  · intro o c s h ih x hx
    rw [sc_hash h] at hx
    exact ih x hx
  · intro o c s h1 h2 h3 x hx
    rw [sc_err h1 h2 h3] at hx
    simp at hx
    rw [hx]
    exact fun h => absurd h h3
  · intro o c s h1 h2 h3 ih x hx
    have hp := tok_pos h3
    rw [sc_tok h1 h2 h3] at hx
    rcases List.mem_cons.1 hx with rfl | hx
    · intro _
      refine ⟨c, s.take ((tok (c :: s)).2.1 - 1), ?_, ?_, ?_⟩
      · show (c :: s).take (tok (c :: s)).2.1 = _
        obtain ⟨n, hn⟩ : ∃ n, (tok (c :: s)).2.1 = n + 1 := ⟨(tok (c :: s)).2.1 - 1, by omega⟩
        rw [hn]
        rfl
      · show (tok (c :: s)).1 = 1 → _
        intro h
        rw [tok_cons] at h
        split at h
        · rename_i h5
          exact h5
        · split at h
          · simp at h
          · split at h
            · split at h <;> simp at h
            · simp at h
      · show (tok (c :: s)).1 = 3 → _
        intro h h5
        rw [tok_cons, if_pos h5] at h
        simp at h
    · exact ih x hx
theorem fin_mem0 : ∀ (l : List (Tk × Nat)) (k : Nat) (out : List Tk), ∀ t ∈ (Lx.fin k out l).1, t ∈ out ∨ ∃ x ∈ l, x.1 = t ∧ x.2 = 0
  | [], k, out, t, h => .inl h
  | (u, e) :: r, k, out, t, h => by
    unfold Lx.fin at h
    split at h
    · simp at h
    · rename_i he
      split at h
      · simp at h
      · rcases fin_mem0 r _ _ t h with h1 | ⟨x, h1, h2⟩
        · rcases List.mem_append.1 h1 with h2 | h2
          · exact .inl h2
          · exact .inr ⟨(u, e), by simp, (List.mem_singleton.1 h2).symm, by simpa using he⟩
        · exact .inr ⟨x, by simp [h1], h2⟩
theorem wf_lex (s : Bytes) : Wf (Lx.lex s).1 := by
  intro t ht
  unfold Lx.lex at ht
  split at ht
  · simp at ht
  · rcases fin_mem0 _ _ _ t ht with h1 | ⟨x, h1, rfl, h2⟩
    · simp at h1
    · obtain ⟨c, r, h3, h4, h5⟩ := sc_class 0 s x h1 h2
      rw [h3]
      refine ⟨fun hk hm => h5 hk ?_, fun hk hm => ?_⟩
      · simp only [wAnd, wOr, wWhen, wLimit, wFee, wTax, wCap, wShare, List.mem_cons, List.not_mem_nil, or_false, List.cons.injEq] at hm
        rcases hm with ⟨rfl, _⟩ | ⟨rfl, _⟩ | ⟨rfl, _⟩ | ⟨rfl, _⟩ | ⟨rfl, _⟩ | ⟨rfl, _⟩ | ⟨rfl, _⟩ | ⟨rfl, _⟩ <;> decide
      · have h6 := h4 hk
        simp only [List.mem_cons, List.not_mem_nil, or_false, List.cons.injEq] at hm
        rcases hm with ⟨rfl, _⟩ | ⟨rfl, _⟩ | ⟨rfl, _⟩ <;> revert h6 <;> decide
end Rl
end Go.Proofs.YtmfjebpefneboaaDoor
