/-
  Printer, plain laws: the parser of rules reads the tokens of written rules as these rules.
-/
import Derived.Test.YtgbooiaedbpenaaDoorPrL
import Derived.Test.YtgbooiaedbpenaaDoorRlA
namespace Go.Proofs.YtgbooiaedbpenaaDoor
set_option linter.unusedVariables false
set_option linter.unusedSimpArgs false
open Go Go.RowKit

namespace Pr
open Lx (Tk)
open Rl (Out)
def cvT (t : Tst) : Rl.Tst := ⟨t.attr, t.op.toNat, t.name, t.n.toNat, 0⟩
def cvQ (p : Int × Int) : Nat × Nat := (p.1.toNat, p.2.toNat)
def cvI (x : Itm) : Rl.Itm := ⟨x.kind.toNat, x.name, x.whn.map (·.map cvT), x.n.toNat, cvQ x.r, cvQ x.s, 0⟩
theorem rbind_ok {α β : Type} (a : α) (r : List Tk) (k : α → List Tk → Out β) : (Out.ok a r).bind k = k a r := rfl
theorem nxt_n (x : Bytes) (l : List Tk) : Rl.nxt 1 none (tkN x :: l) = .ok (tkN x) l := rfl
theorem nxt_i (n : Int) (l : List Tk) : Rl.nxt 2 none (tkI n :: l) = .ok (tkI n) l := rfl
theorem nxt_s (x : Bytes) (l : List Tk) : Rl.nxt 3 none (tkS x :: l) = .ok (tkS x) l := rfl
theorem nxt_kw (x : Bytes) (l : List Tk) : Rl.nxt 1 (some x) (tkN x :: l) = .ok (tkN x) l := by simp [Rl.nxt, Rl.is, tkN]
theorem nxt_sy (x : Bytes) (l : List Tk) : Rl.nxt 3 (some x) (tkS x :: l) = .ok (tkS x) l := by simp [Rl.nxt, Rl.is, tkS]
theorem is_ns (x : Option Bytes) (y : Bytes) (l : List Tk) : Rl.is 1 x (tkS y :: l) = false := rfl
theorem is_in (x : Option Bytes) (n : Int) (l : List Tk) : Rl.is 1 x (tkI n :: l) = false := rfl
theorem is_nn (x y : Bytes) (l : List Tk) : Rl.is 1 (some x) (tkN y :: l) = decide (y = x) := by by_cases h : y = x <;> simp [Rl.is, tkN, h]
theorem is_sn (x : Option Bytes) (y : Bytes) (l : List Tk) : Rl.is 3 x (tkN y :: l) = false := rfl
theorem is_ss (x y : Bytes) (l : List Tk) : Rl.is 3 (some x) (tkS y :: l) = decide (y = x) := by by_cases h : y = x <;> simp [Rl.is, tkS, h]
theorem is_iN (y : Bytes) (l : List Tk) : Rl.is 2 none (tkN y :: l) = false := rfl
theorem is_iI (n : Int) (l : List Tk) : Rl.is 2 none (tkI n :: l) = true := rfl
theorem ratio_read (r : Int × Int) (l : List Tk) : Rl.ratio (ratioT r ++ l) = .ok (cvQ r) l := by
  show (Rl.nxt 2 none (tkI r.1 :: tkS [47] :: tkI r.2 :: l)).bind _ = _
  rw [nxt_i, rbind_ok, nxt_sy, rbind_ok, nxt_i, rbind_ok]
  rfl
theorem opc_eq {k : Int} (h1 : 1 ≤ k) (h2 : k ≤ 6) : Rl.opc (opT k).text = k.toNat := by
  have h : k = 1 ∨ k = 2 ∨ k = 3 ∨ k = 4 ∨ k = 5 ∨ k = 6 := by omega
  rcases h with rfl | rfl | rfl | rfl | rfl | rfl <;> rfl
theorem kindc_eq {k : Int} (h1 : 1 ≤ k) (h2 : k ≤ 7) : Rl.kindc (kindK k) = k.toNat := by
  have h : k = 1 ∨ k = 2 ∨ k = 3 ∨ k = 4 ∨ k = 5 ∨ k = 6 ∨ k = 7 := by omega
  rcases h with rfl | rfl | rfl | rfl | rfl | rfl | rfl <;> rfl
/-- What may stand behind a test: no point. -/
def NoPt (l : List Tk) : Prop := Rl.is 3 (some [46]) l = false
theorem test_read {t : Tst} (h : testOk t = true) {l : List Tk} (hl : NoPt l) : Rl.test (testT t ++ l) = .ok (cvT t) l := by
  unfold testOk at h
  obtain ⟨h0, h⟩ := and2 h
  obtain ⟨h1, h2⟩ := and2 h0
  obtain ⟨ha, hv⟩ := and2 h
  have h1 := of_decide_eq_true h1
  have h2 := of_decide_eq_true h2
  have ho := opc_eq h1 h2
  have ho0 : Rl.opc (opT t.op).text ≠ 0 := by rw [ho]; omega
  unfold Rl.test testT
  by_cases hn : t.name = []
  · rw [if_pos hn] at hv ⊢
    show (Rl.nxt 1 none (tkN t.attr :: opT t.op :: tkI t.n :: l)).bind _ = _
    rw [nxt_n, rbind_ok, if_pos ⟨rfl, ho0⟩]
    show (Rl.nxt 3 none (tkS (opW t.op).tail :: tkI t.n :: l)).bind _ = _
    rw [nxt_s, rbind_ok, if_pos (is_iI _ _), nxt_i, rbind_ok]
    show Out.ok (⟨t.attr, Rl.opc (opT t.op).text, [], t.n.toNat, 0⟩ : Rl.Tst) l = _
    rw [ho]
    unfold cvT
    rw [hn]
  · rw [if_neg hn] at hv ⊢
    obtain ⟨hn0, hv⟩ := and2 hv
    have hn0 := of_decide_eq_true hn0
    unfold valT
    cases hc : (cut t.name).2 with
    | none =>
      have he := cut_none t.name hc
      show (Rl.nxt 1 none (tkN t.attr :: opT t.op :: tkN (cut t.name).1 :: l)).bind _ = _
      rw [nxt_n, rbind_ok, if_pos ⟨rfl, ho0⟩]
      show (Rl.nxt 3 none (tkS (opW t.op).tail :: tkN (cut t.name).1 :: l)).bind _ = _
      rw [nxt_s, rbind_ok, is_iN, if_neg (by decide), nxt_n, rbind_ok, show Rl.is 3 (some [46]) l = false from hl, if_neg (by decide)]
      show Out.ok (⟨t.attr, Rl.opc (opT t.op).text, (cut t.name).1, 0, 0⟩ : Rl.Tst) l = _
      rw [ho, he]
      unfold cvT
      rw [hn0]
      rfl
    | some u =>
      have he := cut_some t.name u hc
      show (Rl.nxt 1 none (tkN t.attr :: opT t.op :: tkN (cut t.name).1 :: tkS [46] :: tkN u :: l)).bind _ = _
      rw [nxt_n, rbind_ok, if_pos ⟨rfl, ho0⟩]
      show (Rl.nxt 3 none (tkS (opW t.op).tail :: tkN (cut t.name).1 :: tkS [46] :: tkN u :: l)).bind _ = _
      rw [nxt_s, rbind_ok, is_iN, if_neg (by decide), nxt_n, rbind_ok, is_ss, if_pos (by decide), nxt_s, rbind_ok, nxt_n, rbind_ok]
      show Out.ok (⟨t.attr, Rl.opc (opT t.op).text, (cut t.name).1 ++ ([46] ++ u), 0, 0⟩ : Rl.Tst) l = _
      rw [ho, show (cut t.name).1 ++ ([46] ++ u) = t.name from he.symm]
      unfold cvT
      rw [hn0]
      rfl
/-- Further things joined by a word. -/
theorem sevG_all {α β : Type} {one : List Tk → Out α} {w : Bytes} {g : β → List Tk} {v : β → α} {P : List Tk → Prop} (hP : ∀ t, P (tkN w :: t)) {rest : List Tk} (hr : Rl.is 1 (some w) rest = false) (hPr : P rest) : ∀ (xs : List β),
    (∀ x ∈ xs, ∀ r, P r → one (g x ++ r) = .ok (v x) r) → ∀ (k : Nat) (acc : List α), xs.length ≤ k → Rl.sevG one w k acc (xs.flatMap (fun x => tkN w :: g x) ++ rest) = .ok (acc ++ xs.map v) rest
  | [], _, k, acc, _ => by cases k <;> simp [Rl.sevG, hr]
  | x :: xs, h, k, acc, hk => by
    cases k with
    | zero => simp at hk
    | succ k =>
      unfold Rl.sevG
      rw [List.flatMap_cons, List.cons_append, List.cons_append, is_nn, if_pos (by simp)]
      show (one ((g x ++ xs.flatMap _) ++ rest)).bind _ = _
      have hp : P (xs.flatMap (fun x => tkN w :: g x) ++ rest) := by
        cases xs with
        | nil => exact hPr
        | cons y ys => exact hP _
      rw [List.append_assoc, h x (by simp) _ hp, rbind_ok, sevG_all hP hr hPr xs (fun y hy => h y (by simp [hy])) k _ (by simp at hk; omega)]
      simp
theorem joinT_eq : ∀ (x : List Tk) (xs : List (List Tk)), joinT (x :: xs) = x ++ xs.flatMap (fun y => tkN [97, 110, 100] :: y)
  | x, [] => by simp [joinT]
  | x, y :: ys => by
    show x ++ (tkN [97, 110, 100] :: joinT (y :: ys)) = _
    rw [joinT_eq y ys, List.flatMap_cons]
    rfl
/-- What may stand behind a list of tests. -/
def EndT (l : List Tk) : Prop := NoPt l ∧ Rl.is 1 (some Rl.wAnd) l = false
theorem tests_read {l : List Tst} (h : listOk l = true) {r : List Tk} (hr : EndT r) : Rl.tests (joinT (l.map testT) ++ r) = .ok (l.map cvT) r := by
  unfold listOk at h
  obtain ⟨h1, h⟩ := and2 h
  obtain ⟨h2, h⟩ := and2 h
  have h2 := of_decide_eq_true h2
  have h3 := List.all_eq_true.1 h
  cases l with
  | nil => simp at h1
  | cons t ts =>
    rw [List.map_cons, joinT_eq, List.append_assoc]
    unfold Rl.tests Rl.sev
    have hp : NoPt ((ts.map testT).flatMap (fun y => tkN [97, 110, 100] :: y) ++ r) := by
      cases ts with
      | nil => exact hr.1
      | cons y ys => rfl
    rw [test_read (h3 t (by simp)) hp, rbind_ok]
    have e : (ts.map testT).flatMap (fun y => tkN [97, 110, 100] :: y) = ts.flatMap (fun x => tkN Rl.wAnd :: testT x) := by rw [List.flatMap_map]; rfl
    rw [e, sevG_all (P := NoPt) (v := cvT) (fun t => rfl) hr.2 hr.1 ts (fun x hx q hq => test_read (h3 x (by simp [hx])) hq) 11 _ (by simp at h2; omega)]
    rfl
theorem endT_or (t : List Tk) : EndT (tkN Rl.wOr :: t) := ⟨rfl, rfl⟩
theorem endT_semi (r : List Tk) : EndT (tkS [59] :: r) := ⟨rfl, rfl⟩
theorem whensT_or : ∀ l : List (List Tst), whensT [111, 114] l = l.flatMap (fun x => tkN Rl.wOr :: joinT (x.map testT))
  | [] => rfl
  | x :: l => by
    show tkN [111, 114] :: (joinT (x.map testT) ++ whensT [111, 114] l) = _
    rw [whensT_or l, List.flatMap_cons]
    rfl
theorem whn_read {l : List (List Tst)} (h : ∀ x ∈ l, listOk x = true) (hl : l.length ≤ 12) (r : List Tk) : Rl.whn (whensT [119, 104, 101, 110] l ++ tkS [59] :: r) = .ok (l.map (·.map cvT)) (tkS [59] :: r) := by
  unfold Rl.whn
  cases l with
  | nil => rfl
  | cons x l =>
    show (if Rl.is 1 (some Rl.wWhen) (tkN [119, 104, 101, 110] :: ((joinT (x.map testT) ++ whensT [111, 114] l) ++ tkS [59] :: r)) = true then _ else _) = _
    rw [is_nn, if_pos (by decide)]
    unfold Rl.sev
    show (Rl.tests (joinT (x.map testT) ++ whensT [111, 114] l ++ tkS [59] :: r)).bind _ = _
    rw [List.append_assoc, whensT_or]
    have he : EndT (l.flatMap (fun x => tkN Rl.wOr :: joinT (x.map testT)) ++ tkS [59] :: r) := by
      cases l with
      | nil => exact ⟨rfl, rfl⟩
      | cons y ys => exact ⟨rfl, rfl⟩
    rw [tests_read (h x (by simp)) he, rbind_ok, sevG_all (P := EndT) (v := fun x => x.map cvT) endT_or rfl (endT_semi r) l (fun y hy q hq => tests_read (h y (by simp [hy])) hq) 11 _ (by simp at hl; omega)]
    rfl
/-- What may stand behind the fields of an item: a symbol, or the word 'when'. -/
def EndR (l : List Tk) : Prop := (∃ q, l = tkS [59] :: q) ∨ ∃ q, l = tkN [119, 104, 101, 110] :: q
theorem EndR.no {l : List Tk} (h : EndR l) {x : Bytes} (hx : x ≠ [119, 104, 101, 110]) : Rl.is 1 (some x) l = false := by
  rcases h with ⟨q, rfl⟩ | ⟨q, rfl⟩
  · rfl
  · rw [is_nn]; exact decide_eq_false (fun e => hx e.symm)
theorem opt_read {w : Bytes} {r : Int × Int} {l : List Tk} (hl : Rl.is 1 (some w) l = false) : Rl.opt w (partT w r ++ l) = .ok (cvQ r) l := by
  unfold Rl.opt partT
  by_cases hr : r = (0, 1)
  · rw [if_pos hr, List.nil_append, hl, if_neg (by decide), hr]
    rfl
  · rw [if_neg hr, List.cons_append, is_nn, if_pos (by simp), List.tail_cons, ratio_read]
theorem after_read (w : Bytes) (r : Int × Int) (l : List Tk) : Rl.after w (tkN w :: (ratioT r ++ l)) = .ok (cvQ r) l := by
  unfold Rl.after
  rw [nxt_kw, rbind_ok, ratio_read]
/-- The fields of an item behind its name. -/
def restT (x : Itm) : List Tk := if x.kind = 1 then (if x.n = 0 then [] else [tkN tLimit.tail, tkI x.n])
   else if x.kind = 3 then [tkI x.n] ++ (partT tFee.tail x.r ++ partT tTax.tail x.s)
   else if x.kind = 4 then tkN tCap.tail :: (ratioT x.r ++ (tkN tShare.tail :: ratioT x.s))
   else if x.kind = 5 then ratioT x.r else []
theorem rest_read {x : Itm} (h1 : 1 ≤ x.kind) (h2 : x.kind ≤ 7) (h : wordsOk x = true) {l : List Tk} (hl : EndR l) : Rl.rest x.kind.toNat (restT x ++ l) = .ok (x.n.toNat, cvQ x.r, cvQ x.s) l := by
  unfold wordsOk at h
  obtain ⟨_, h⟩ := and2 h
  unfold Rl.rest restT
  have hk : x.kind = 1 ∨ x.kind = 2 ∨ x.kind = 3 ∨ x.kind = 4 ∨ x.kind = 5 ∨ x.kind = 6 ∨ x.kind = 7 := by omega
  have z : ∀ p : Int × Int, p = (0, 0) → cvQ p = (0, 0) := fun p hp => by rw [hp]; rfl
  rcases hk with hk | hk | hk | hk | hk | hk | hk
  · rw [hk] at h ⊢
    rw [if_pos rfl] at h ⊢
    obtain ⟨_, h⟩ := and2 h
    obtain ⟨hr, hs⟩ := of_decide_eq_true h
    rw [if_pos (by decide), z _ hr, z _ hs]
    unfold Rl.allow
    by_cases h0 : x.n = 0
    · rw [if_pos h0, List.nil_append, hl.no (by decide), if_neg (by decide), h0]
      rfl
    · rw [if_neg h0]
      show (if Rl.is 1 (some Rl.wLimit) (tkN tLimit.tail :: tkI x.n :: l) = true then _ else _) = _
      rw [is_nn, if_pos (by decide)]
      show (Rl.nxt 2 none (tkI x.n :: l)).bind _ = _
      rw [nxt_i, rbind_ok]
      rfl
  · rw [hk] at h ⊢
    rw [if_neg (by decide), if_neg (by decide), if_neg (by decide), if_neg (by decide)] at h
    obtain ⟨hn, h⟩ := and2 h
    obtain ⟨hr, hs⟩ := of_decide_eq_true h
    rw [z _ hr, z _ hs, of_decide_eq_true hn]
    rfl
  · rw [hk] at h ⊢
    rw [if_neg (by decide), if_pos (by decide), if_neg (by decide), if_pos (by decide)]
    unfold Rl.price
    rw [List.append_assoc, List.append_assoc]
    show (Rl.nxt 2 none (tkI x.n :: (partT tFee.tail x.r ++ (partT tTax.tail x.s ++ l)))).bind _ = _
    rw [nxt_i, rbind_ok]
    have e1 : Rl.opt Rl.wFee (partT tFee.tail x.r ++ (partT tTax.tail x.s ++ l)) = .ok (cvQ x.r) (partT tTax.tail x.s ++ l) := opt_read (w := tFee.tail) (by
      unfold partT
      by_cases hs : x.s = (0, 1)
      · rw [if_pos hs]; exact hl.no (by decide)
      · rw [if_neg hs, List.cons_append, is_nn]; decide)
    have e2 : Rl.opt Rl.wTax (partT tTax.tail x.s ++ l) = .ok (cvQ x.s) l := opt_read (w := tTax.tail) (hl.no (by decide))
    rw [e1, rbind_ok, e2, rbind_ok]
    rfl
  · rw [hk] at h ⊢
    rw [if_neg (by decide), if_neg (by decide), if_pos (by decide)] at h
    obtain ⟨hn, _⟩ := and2 h
    rw [if_neg (by decide), if_neg (by decide), if_pos (by decide), if_neg (by decide), if_neg (by decide), if_pos (by decide), of_decide_eq_true hn]
    unfold Rl.resale
    rw [List.cons_append, List.append_assoc, List.cons_append]
    have e1 : Rl.after Rl.wCap (tkN tCap.tail :: (ratioT x.r ++ (tkN tShare.tail :: (ratioT x.s ++ l)))) = .ok (cvQ x.r) (tkN tShare.tail :: (ratioT x.s ++ l)) := after_read tCap.tail x.r _
    have e2 : Rl.after Rl.wShare (tkN tShare.tail :: (ratioT x.s ++ l)) = .ok (cvQ x.s) l := after_read tShare.tail x.s _
    rw [e1, rbind_ok, e2, rbind_ok]
    rfl
  · rw [hk] at h ⊢
    rw [if_neg (by decide), if_neg (by decide), if_neg (by decide), if_pos (by decide)] at h
    obtain ⟨hn, h⟩ := and2 h
    obtain ⟨_, hs⟩ := and2 h
    rw [if_neg (by decide), if_neg (by decide), if_neg (by decide), if_pos (by decide), if_neg (by decide), if_neg (by decide), if_neg (by decide), if_pos (by decide), of_decide_eq_true hn, z _ (of_decide_eq_true hs)]
    unfold Rl.refund
    rw [ratio_read, rbind_ok]
    rfl
  · rw [hk] at h ⊢
    rw [if_neg (by decide), if_neg (by decide), if_neg (by decide), if_neg (by decide)] at h
    obtain ⟨hn, h⟩ := and2 h
    obtain ⟨hr, hs⟩ := of_decide_eq_true h
    rw [z _ hr, z _ hs, of_decide_eq_true hn]
    rfl
  · rw [hk] at h ⊢
    rw [if_neg (by decide), if_neg (by decide), if_neg (by decide), if_neg (by decide)] at h
    obtain ⟨hn, h⟩ := and2 h
    obtain ⟨hr, hs⟩ := of_decide_eq_true h
    rw [z _ hr, z _ hs, of_decide_eq_true hn]
    rfl
theorem item_readR {x : Itm} (h : itemOk x = true) (q : List Tk) : Rl.item (itemT x ++ q) = .ok (cvI x) q := by
  unfold itemOk at h
  obtain ⟨h0, h⟩ := and2 h
  obtain ⟨h1, h0⟩ := and2 h0
  obtain ⟨h2, h3⟩ := and2 h0
  obtain ⟨hw, hl⟩ := and2 h
  have h1 := of_decide_eq_true h1
  have h2 := of_decide_eq_true h2
  have h3 := of_decide_eq_true h3
  have hk := kindc_eq h1 h2
  have e : itemT x ++ q = tkN (kindK x.kind) :: tkN x.name :: (restT x ++ (whensT [119, 104, 101, 110] x.whn ++ tkS [59] :: q)) := by
    simp only [itemT, wordsT, restT, List.append_assoc, List.cons_append, List.nil_append]
  rw [e]
  unfold Rl.item
  have he : EndR (whensT [119, 104, 101, 110] x.whn ++ tkS [59] :: q) := by
    cases x.whn with
    | nil => exact .inl ⟨q, rfl⟩
    | cons y ys => exact .inr ⟨_, rfl⟩
  rw [if_pos ⟨rfl, by show Rl.kindc (kindK x.kind) ≠ 0; rw [hk]; omega⟩, nxt_n, rbind_ok, nxt_n, rbind_ok]
  rw [show Rl.kindc (tkN (kindK x.kind)).text = x.kind.toNat from hk, rest_read h1 h2 hw he, rbind_ok, whn_read (List.all_eq_true.1 hl) h3, rbind_ok, nxt_sy, rbind_ok]
  rfl
theorem items_read : ∀ (l : List Itm), (∀ x ∈ l, itemOk x = true) → ∀ (k : Nat) (acc : List Rl.Itm), l.length ≤ k → Rl.items k acc (l.flatMap itemT) = .ok (acc ++ l.map cvI) []
  | [], _, k, acc, _ => by cases k <;> simp [Rl.items]
  | x :: l, h, k, acc, hk => by
    cases k with
    | zero => simp at hk
    | succ k =>
      rw [List.flatMap_cons]
      have e : itemT x ++ l.flatMap itemT = tkN (kindK x.kind) :: (itemT x ++ l.flatMap itemT).tail := rfl
      rw [e]
      unfold Rl.items
      rw [← e, item_readR (h x (by simp)), rbind_ok, items_read l (fun y hy => h y (by simp [hy])) k _ (by simp at hk; omega)]
      simp
theorem rules_read {l : List Itm} (h : rulesOk l = true) : Rl.items 200 [] (l.flatMap itemT) = .ok (l.map cvI) [] := by
  unfold rulesOk at h
  obtain ⟨h1, h2⟩ := and2 h
  exact items_read l (List.all_eq_true.1 h2) 200 [] (of_decide_eq_true h1)
end Pr
end Go.Proofs.YtgbooiaedbpenaaDoor
