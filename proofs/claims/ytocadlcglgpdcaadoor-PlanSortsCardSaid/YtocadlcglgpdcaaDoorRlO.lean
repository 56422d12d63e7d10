/-
  Rule, plain laws 4: texts, tokens and what Parse makes of them; the law on errors.
-/
import Derived.Test.YtocadlcglgpdcaaDoorRlQ
import Derived.Test.YtocadlcglgpdcaaDoorRlN
namespace Go.Proofs.YtocadlcglgpdcaaDoor
set_option linter.unusedVariables false
set_option linter.unusedSimpArgs false
/-- The token at an offset; a zero one if there is none. -/
def tokAt (l : List Lx.Tk) (o : Nat) : Lx.Tk := (l.find? fun t => t.at_ == o).getD ⟨0, [], 0, 0⟩
theorem tokAt_drop {l : List Lx.Tk} {o k : Nat} (h : ∀ t ∈ l.take k, t.at_ ≠ o) : tokAt l o = tokAt (l.drop k) o := by
  unfold tokAt
  conv => lhs; rw [← List.take_append_drop k l]
  rw [List.find?_append, List.find?_eq_none.2 (fun t ht => by simpa using h t ht)]
  rfl
/-- Offsets rise. -/
def Rising (l : List Lx.Tk) : Prop := l.Pairwise fun a b => a.at_ < b.at_
theorem tokAt_of {l : List Lx.Tk} (h : Rising l) {t : Lx.Tk} (ht : t ∈ l) : tokAt l t.at_ = t := by
  induction l with
  | nil => simp at ht
  | cons u r ih =>
    unfold tokAt
    rw [List.find?_cons]
    rcases List.mem_cons.1 ht with rfl | hr
    · simp
    · have h1 := (List.pairwise_cons.1 h).1 t hr
      rw [show (u.at_ == t.at_) = false by simp; omega]
      exact ih (List.pairwise_cons.1 h).2 hr
namespace Lx
theorem fin_zero : ∀ (l : List (Tk × Nat)) (k : Nat) (out : List Tk), k ≤ 5000 → (fin k out l).2.1 = 0 → good l = true ∧ k + l.length ≤ 5000
  | [], k, out, hk, h => ⟨rfl, hk⟩
  | (t, e) :: r, k, out, hk0, h => by
    unfold fin at h
    by_cases he : e ≠ 0
    · rw [if_pos he] at h
      exact absurd h he
    · rw [if_neg he] at h
      by_cases hk : k = 5000
      · rw [if_pos hk] at h
        cases h
      · rw [if_neg hk] at h
        obtain ⟨h1, h2⟩ := fin_zero r (k + 1) _ (by omega) h
        refine ⟨good_iff.2 fun x hx => ?_, by simp only [List.length_cons]; omega⟩
        rcases List.mem_cons.1 hx with rfl | hx
        · simpa using he
        · exact (good_iff.1 h1) x hx
theorem lex_of_zero {s : Bytes} (h : (lex s).2.1 = 0) : s.length ≤ 20000 ∧ good (sc 0 s) = true ∧ (sc 0 s).length ≤ 5000 ∧ lex s = ((sc 0 s).map Prod.fst, 0, 0) := by
  unfold lex at h ⊢
  by_cases hl : 20000 < s.length
  · rw [if_pos hl] at h
    cases h
  · rw [if_neg hl] at h ⊢
    obtain ⟨h1, h2⟩ := fin_zero (sc 0 s) 0 [] (by omega) h
    refine ⟨by omega, h1, by omega, ?_⟩
    have := fin_good (sc 0 s) 0 [] h1 (by omega)
    exact this
theorem lex_zero' {s : Bytes} (hs : s.length ≤ 20000) (h1 : good (sc 0 s) = true) (h2 : (sc 0 s).length ≤ 5000) : lex s = ((sc 0 s).map Prod.fst, 0, 0) := by
  unfold lex
  rw [if_neg (by omega)]
  have := fin_good (sc 0 s) 0 [] h1 (by omega)
  exact this
theorem lex_nonzero {s : Bytes} (h : (lex s).2.1 ≠ 0) : (lex s).1 = [] := by
  unfold lex at h ⊢
  by_cases hl : 20000 < s.length
  · rw [if_pos hl]
  · rw [if_neg hl] at h ⊢
    have key : ∀ (l : List (Tk × Nat)) (k : Nat) (out : List Tk), (fin k out l).2.1 ≠ 0 → (fin k out l).1 = [] := by
      intro l
      induction l with
      | nil => intro k out h; exact absurd rfl h
      | cons x r ih =>
        obtain ⟨t, e⟩ := x
        intro k out h
        unfold fin at h ⊢
        by_cases he : e ≠ 0
        · rw [if_pos he]
        · rw [if_neg he] at h ⊢
          by_cases hk : k = 5000
          · rw [if_pos hk]
          · rw [if_neg hk] at h ⊢
            exact ih _ _ h
    exact key _ _ _ h
theorem sc_rise : ∀ (o : Nat) (s : Bytes), (∀ x ∈ sc o s, o ≤ x.1.at_) ∧ (sc o s).Pairwise (fun x y => x.1.at_ < y.1.at_) := by
  refine sc_ind ?_ ?_ ?_ ?_ ?_
  · intro o
    rw [sc_nil]
    exact ⟨fun x hx => by simp at hx, List.Pairwise.nil⟩
  · intro o c s h ih
    rw [sc_blank h]
    exact ⟨fun x hx => by have := ih.1 x hx; omega, ih.2⟩
  · intro o c s h ih
    rw [sc_hash h]
    exact ⟨fun x hx => by have := ih.1 x hx; omega, ih.2⟩
  · intro o c s h1 h2 h3
    rw [sc_err h1 h2 h3]
    refine ⟨fun x hx => ?_, List.pairwise_singleton _ _⟩
    simp at hx
    rw [hx]
    exact Nat.le_refl o
  · intro o c s h1 h2 h3 ih
    have hp := tok_pos h3
    rw [sc_tok h1 h2 h3]
    refine ⟨fun x hx => ?_, List.pairwise_cons.2 ⟨fun x hx => ?_, ih.2⟩⟩
    · rcases List.mem_cons.1 hx with rfl | hx
      · exact Nat.le_refl o
      · have := ih.1 x hx
        omega
    · have := ih.1 x hx
      show o < _
      omega
theorem lex_rising (s : Bytes) : Rising (lex s).1 := by
  by_cases h : (lex s).2.1 = 0
  · rw [(lex_of_zero h).2.2.2]
    unfold Rising
    rw [List.pairwise_map]
    exact (sc_rise 0 s).2
  · rw [lex_nonzero h]
    exact List.Pairwise.nil
theorem sc_kind : ∀ (o : Nat) (s : Bytes), ∀ x ∈ sc o s, x.2 = 0 → x.1.kind ≠ 0 := by
  have key : ∀ c r, (tok (c :: r)).2.2 = 0 → (tok (c :: r)).1 ≠ 0 := by
    intro c r h
    rw [tok_cons] at h ⊢
    split at h
    · rename_i e; rw [if_pos e]; simp
    · rename_i e
      rw [if_neg e]
      split at h
      · rename_i e; rw [if_pos e]; simp
      · rename_i e
        rw [if_neg e]
        split at h
        · rename_i e
          rw [if_pos e]
          split <;> simp
        · simp at h
  refine sc_ind ?_ ?_ ?_ ?_ ?_
  · intro o x hx
    simp [sc_nil] at hx
  · intro o c s h ih
    rw [sc_blank h]
    exact ih
  · intro o c s h ih
    rw [sc_hash h]
    exact ih
  · intro o c s h1 h2 h3 x hx h0
    rw [sc_err h1 h2 h3] at hx
    simp only [List.mem_singleton] at hx
    rw [hx] at h0
    exact absurd h0 h3
  · intro o c s h1 h2 h3 ih x hx h0
    rw [sc_tok h1 h2 h3] at hx
    rcases List.mem_cons.1 hx with rfl | hx
    · exact key c s h3
    · exact ih x hx h0
/-- Two texts with a line feed between them. -/
theorem lex_join {s m : Bytes} (h0 : (lex s).2.1 = 0) (h2 : (lex (s ++ 10 :: m)).2.1 = 0) : ∃ q, (lex (s ++ 10 :: m)).1 = (lex s).1 ++ q ∧ (∀ t ∈ q, s.length + 1 ≤ t.at_) ∧ good (sc 0 m) = true ∧ q = (sc (s.length + 1) m).map Prod.fst := by
  obtain ⟨_, g1, _, e1⟩ := lex_of_zero h0
  obtain ⟨_, g2, _, e2⟩ := lex_of_zero h2
  have hj := sc_join m 0 s
  rw [if_pos g1, Nat.zero_add] at hj
  refine ⟨(sc (s.length + 1) m).map Prod.fst, by rw [e1, e2, hj, List.map_append], ?_, ?_, rfl⟩
  · intro t ht
    obtain ⟨x, hx, rfl⟩ := List.mem_map.1 ht
    exact (sc_rise _ _).1 x hx
  · have h3 := sc_shift (s.length + 1) 0 m
    rw [Nat.zero_add] at h3
    rw [hj] at g2
    rw [← good_shift (s.length + 1), ← h3]
    exact good_iff.2 fun x hx => (good_iff.1 g2) x (by simp [hx])
end Lx
namespace Rl
open Lx (Tk)
/-- The errors of a part. -/
def Errs {α : Type} (f : List Tk → Out α) : Prop := ∀ l c r, f l = .bad c r → c = 3 ∨ c = 4
theorem Errs.pure {α : Type} (a : α) : Errs (fun l => Out.ok a l) := fun l c r h => by cases h
theorem Errs.fail {α : Type} {e : Nat} (he : e = 3 ∨ e = 4) : Errs (fun l => (Out.bad e l : Out α)) := fun l c r h => by
  simp only [Out.bad.injEq] at h
  rw [← h.1]
  exact he
theorem Errs.bind {α β : Type} {f : List Tk → Out α} {g : α → List Tk → Out β} (hf : Errs f) (hg : ∀ a, Errs (g a)) : Errs (fun l => (f l).bind (g · ·)) := fun l c r h => by
  have h : (f l).bind (g · ·) = .bad c r := h
  cases hl : f l with
  | ok a q =>
    rw [hl] at h
    exact hg a q c r h
  | bad e q =>
    rw [hl] at h
    have h : (Out.bad e q : Out β) = .bad c r := h
    rw [Out.bad.injEq] at h
    rw [← h.1]
    exact hf l e q hl
theorem Errs.ite {α : Type} {p : List Tk → Prop} [DecidablePred p] {f g : List Tk → Out α} (hf : Errs f) (hg : Errs g) : Errs (fun l => if p l then f l else g l) := fun l c r h => by
  have h : (if p l then f l else g l) = .bad c r := h
  by_cases hp : p l
  · rw [if_pos hp] at h; exact hf l c r h
  · rw [if_neg hp] at h; exact hg l c r h
theorem Errs.iteTail {α : Type} {p : List Tk → Prop} [DecidablePred p] {f g : List Tk → Out α} (hf : Errs f) (hg : Errs g) : Errs (fun l => if p l then f l.tail else g l) := fun l c r h => by
  have h : (if p l then f l.tail else g l) = .bad c r := h
  by_cases hp : p l
  · rw [if_pos hp] at h; exact hf l.tail c r h
  · rw [if_neg hp] at h; exact hg l c r h
theorem errs_nxt (k : Nat) (x : Option Bytes) : Errs (nxt k x) := fun l c r h => by
  cases l with
  | nil =>
    have h : (Out.bad 4 [] : Out Tk) = .bad c r := h
    rw [Out.bad.injEq] at h
    exact .inr h.1.symm
  | cons t q =>
    rw [nxt_cons] at h
    by_cases hb : is k x (t :: q) = true
    · rw [if_pos hb] at h; cases h
    · rw [if_neg hb, Out.bad.injEq] at h
      exact .inr h.1.symm
theorem errs_test : Errs test :=
  (errs_nxt 1 none).bind fun a => Errs.ite
    ((errs_nxt 3 none).bind fun o => Errs.ite ((errs_nxt 2 none).bind fun n => Errs.pure _)
      ((errs_nxt 1 none).bind fun b => Errs.ite ((errs_nxt 3 none).bind fun _ => (errs_nxt 1 none).bind fun c => Errs.pure _) (Errs.pure _)))
    (Errs.fail (.inr rfl))
theorem errs_sevG {α : Type} {one : List Tk → Out α} (h : Errs one) (x : Bytes) : ∀ (k : Nat) (acc : List α), Errs (sevG one x k acc)
  | 0, acc => Errs.iteTail (Errs.fail (.inl rfl)) (Errs.pure acc)
  | k + 1, acc => Errs.iteTail (f := fun l => (one l).bind fun a r => sevG one x k (acc ++ [a]) r) (h.bind fun a => errs_sevG h x k (acc ++ [a])) (Errs.pure acc)
theorem errs_sev {α : Type} {one : List Tk → Out α} (h : Errs one) (x : Bytes) : Errs (sev one x) := h.bind fun a => errs_sevG h x 11 [a]
theorem errs_ratio : Errs ratio := (errs_nxt 2 none).bind fun a => (errs_nxt 3 (some [47])).bind fun _ => (errs_nxt 2 none).bind fun b => Errs.pure _
theorem errs_after (x : Bytes) : Errs (after x) := (errs_nxt 1 (some x)).bind fun _ => errs_ratio
theorem errs_opt (x : Bytes) : Errs (opt x) := Errs.iteTail errs_ratio (Errs.pure _)
theorem errs_rest (k : Nat) : Errs (rest k) := by
  unfold rest
  by_cases h1 : k = 1
  · simp only [if_pos h1]
    exact Errs.iteTail (f := fun l => (nxt 2 none l).bind fun n r => .ok (n.n, (0, 0), (0, 0)) r) ((errs_nxt 2 none).bind fun n => Errs.pure _) (Errs.pure _)
  · simp only [if_neg h1]
    by_cases h3 : k = 3
    · simp only [if_pos h3]
      exact (errs_nxt 2 none).bind fun n => (errs_opt wFee).bind fun r => (errs_opt wTax).bind fun s => Errs.pure _
    · simp only [if_neg h3]
      by_cases h4 : k = 4
      · simp only [if_pos h4]
        exact (errs_after wCap).bind fun r => (errs_after wShare).bind fun s => Errs.pure _
      · simp only [if_neg h4]
        by_cases h5 : k = 5
        · simp only [if_pos h5]
          exact errs_ratio.bind fun r => Errs.pure _
        · simp only [if_neg h5]; exact Errs.pure _
theorem errs_whn : Errs whn := Errs.iteTail (errs_sev (errs_sev errs_test wAnd) wOr) (Errs.pure _)
theorem errs_item : Errs item :=
  Errs.ite ((errs_nxt 1 none).bind fun t => (errs_nxt 1 none).bind fun n => (errs_rest (kindc t.text)).bind fun b => errs_whn.bind fun c => (errs_nxt 3 (some [59])).bind fun _ => Errs.pure _) (Errs.fail (.inr rfl))
theorem errs_items : ∀ (k : Nat) (acc : List Itm), Errs (items k acc)
  | 0, acc => fun l c r h => by
    cases l with
    | nil => cases h
    | cons t q =>
      have h : (Out.bad 3 (t :: q) : Out (List Itm)) = .bad c r := h
      rw [Out.bad.injEq] at h
      exact .inl h.1.symm
  | k + 1, acc => fun l c r h => by
    cases l with
    | nil => cases h
    | cons t q => exact (errs_item.bind fun x => errs_items k (acc ++ [x])) (t :: q) c r h
theorem parse_of_lex {s : Bytes} (h : (Lx.lex s).2.1 = 0) : parse s = fin s.length (items 200 [] (Lx.lex s).1) := by
  unfold parse
  rw [if_neg (by simpa using h)]
theorem parse_zero {s : Bytes} (h : (parse s).2.1 = 0) : (Lx.lex s).2.1 = 0 ∧ items 200 [] (Lx.lex s).1 = .ok (parse s).1 [] ∧ (parse s).2.2 = 0 := by
  have hl : (Lx.lex s).2.1 = 0 := by
    by_cases hl : (Lx.lex s).2.1 = 0
    · exact hl
    · unfold parse at h
      rw [if_pos hl] at h
      exact h
  refine ⟨hl, ?_⟩
  rw [parse_of_lex hl] at h ⊢
  cases hi : items 200 [] (Lx.lex s).1 with
  | ok z r =>
    obtain ⟨rfl, _⟩ := items_ok _ _ _ _ _ hi
    exact ⟨rfl, rfl⟩
  | bad c r =>
    rw [hi] at h
    have h : code c r = 0 := h
    unfold code at h
    rcases errs_items _ _ _ _ _ hi with rfl | rfl
    · split at h <;> cases h
    · split at h <;> cases h
/-- An error at a token stays, whatever stands behind it. -/
theorem Nice.swapBad {α : Type} {f : List Tk → Out α} (hf : Nice f) {p q : List Tk} {u : Tk} {c : Nat} (h : f (p ++ u :: q) = .bad c (u :: q)) (q' : List Tk) : f (p ++ u :: q') = .bad c (u :: q') := by
  have e1 : ∀ z, p ++ u :: z = (p ++ [u]) ++ z := fun z => by simp
  rw [e1] at h ⊢
  by_cases h0 : (f (p ++ [u])).left = []
  · have h1 := hf.near _ q h0
    rw [h] at h1
    have := h1.length_le
    simp [Out.left] at this
    omega
  · have h1 := hf.far _ q h0
    rw [h] at h1
    rw [hf.far _ q' h0]
    cases h2 : f (p ++ [u]) with
    | ok b r =>
      rw [h2] at h1
      cases h1
    | bad e r =>
      rw [h2] at h1
      simp only [Out.more, Out.bad.injEq] at h1 ⊢
      refine ⟨h1.1.symm, ?_⟩
      have h3 : [u] ++ q = r ++ q := by simpa using h1.2
      rw [← List.append_cancel_right h3]
      rfl
/-- What RuleErrors asks. -/
theorem errors_law {s m : Bytes} (h0 : (Lx.lex s).2.1 = 0) (h1 : (parse s).2.1 ≠ 0) (h2 : (Lx.lex (s ++ 10 :: m)).2.1 = 0) :
    ((parse s).2.1 = 7 ∧ (parse s).2.2 = (s.length : Int) ∧ (((Lx.lex (s ++ 10 :: m)).1.length = (Lx.lex s).1.length ∧ (parse (s ++ 10 :: m)).2.1 = 7) ∨ ((Lx.lex s).1.length < (Lx.lex (s ++ 10 :: m)).1.length ∧ ((parse (s ++ 10 :: m)).2.1 = 0 ∨ (s.length : Int) < (parse (s ++ 10 :: m)).2.2)))) ∨
    (∃ (t : Tk) (i : Nat), (parse s).2.1 ≠ 7 ∧ ((parse s).2.1 = 4 ∨ (parse s).2.1 = 3) ∧ (parse s).2.2 = (t.at_ : Int) ∧ tokAt (Lx.lex s).1 t.at_ = t ∧ t.kind ≠ 0 ∧ t.at_ + t.text.length = i ∧ i ≤ s.length ∧
      (parse (s ++ 10 :: m)).2.1 = (parse s).2.1 ∧ (parse (s ++ 10 :: m)).2.2 = (t.at_ : Int) ∧ (parse (s.take i)).2.1 = (parse s).2.1 ∧ (parse (s.take i)).2.2 = (t.at_ : Int)) := by
  obtain ⟨q, hq1, hq2, _, _⟩ := Lx.lex_join h0 h2
  rw [parse_of_lex h0] at h1 ⊢
  rw [parse_of_lex h2]
  cases hi : items 200 [] (Lx.lex s).1 with
  | ok z r =>
    rw [hi] at h1
    exact absurd rfl h1
  | bad c r =>
    have hc := errs_items _ _ _ _ _ hi
    cases r with
    | nil =>
      left
      refine ⟨rfl, rfl, ?_⟩
      rw [hq1]
      cases q with
      | nil =>
        left
        rw [List.append_nil, hi]
        exact ⟨rfl, rfl⟩
      | cons u q =>
        right
        refine ⟨by simp, ?_⟩
        have hn := (nice_items 200 []).near (Lx.lex s).1 (u :: q) (by rw [hi]; rfl)
        cases hj : items 200 [] ((Lx.lex s).1 ++ u :: q) with
        | ok z r' => exact .inl rfl
        | bad c' r' =>
          right
          rw [hj] at hn
          have hn : r' <:+ u :: q := hn
          show (s.length : Int) < (place (s ++ 10 :: m).length r' : Int)
          cases r' with
          | nil =>
            show (s.length : Int) < ((s ++ 10 :: m).length : Int)
            simp
            omega
          | cons v r' =>
            have := hq2 v (hn.subset (by simp))
            show (s.length : Int) < (v.at_ : Int)
            omega
    | cons t r =>
      right
      have hs := (nice_items 200 []).suf (Lx.lex s).1
      rw [hi] at hs
      obtain ⟨p, hp⟩ := hs
      have hp : p ++ t :: r = (Lx.lex s).1 := hp
      obtain ⟨l1, g1, _, e1⟩ := Lx.lex_of_zero h0
      have ht : t ∈ (Lx.lex s).1 := by rw [← hp]; simp
      -- the token in the scan
      have hsc : ∃ p' q', Lx.sc 0 s = p' ++ (t, 0) :: q' ∧ p'.map Prod.fst = p := by
        have h3 : (Lx.sc 0 s).map Prod.fst = p ++ t :: r := by rw [hp, e1]
        obtain ⟨a, b, hab, ha, hb⟩ := List.map_eq_append_iff.1 h3
        cases b with
        | nil => simp at hb
        | cons x b =>
          rw [List.map_cons, List.cons.injEq] at hb
          have hx : x.2 = 0 := (Lx.good_iff.1 g1) x (by rw [hab]; simp)
          exact ⟨a, b, by rw [hab]; congr 1; rw [← hb.1, ← hx], ha⟩
      obtain ⟨p', q', hpq, hp'⟩ := hsc
      obtain ⟨i, a1, a2, a3, a4, a5⟩ := Lx.sc_insert [] (fun c r h => by cases h) 0 s p' (t, 0) q' hpq (Lx.good_iff.2 fun x hx => (Lx.good_iff.1 g1) x (by rw [hpq]; rcases List.mem_append.1 hx with h | h <;> simp_all))
      rw [List.append_nil, Lx.sc_nil] at a4
      have hshort : Lx.lex (s.take i) = (p ++ [t], 0, 0) := by
        have hlen := Lx.sc_length 0 (s.take i)
        have hlen2 : (Lx.sc 0 (s.take i)).length ≤ (Lx.sc 0 s).length := by rw [a4, hpq]; simp
        rw [Lx.lex_zero' (by rw [List.length_take]; omega) (by rw [a4]; exact Lx.good_iff.2 fun x hx => (Lx.good_iff.1 g1) x (by rw [hpq]; rcases List.mem_append.1 hx with h | h <;> simp_all)) (by omega), a4, List.map_append, hp']
        rfl
      have hb1 : items 200 [] (p ++ [t]) = .bad c [t] := (nice_items 200 []).swapBad (q := r) (by rw [hp]; exact hi) []
      have hb2 : items 200 [] ((Lx.lex s).1 ++ q) = .bad c (t :: (r ++ q)) := by
        have := (nice_items 200 []).far (Lx.lex s).1 q (by rw [hi]; simp [Out.left])
        rw [hi] at this
        exact this
      have hps : parse (s.take i) = ([], c, (t.at_ : Int)) := by
        rw [parse_of_lex (by rw [hshort]), hshort]
        simp only
        rw [hb1]
        rfl
      have hcode : ∀ z : List Tk, code c (t :: z) = c := fun z => by
        unfold code
        rw [if_neg (by simp)]
      refine ⟨t, i, ?_, ?_, rfl, tokAt_of (Lx.lex_rising s) ht, Lx.sc_kind 0 s (t, 0) (by rw [hpq]; simp) rfl, by simpa using a1, a2, ?_, ?_, ?_, ?_⟩
      · show code c (t :: r) ≠ 7
        rw [hcode]
        omega
      · show code c (t :: r) = 4 ∨ code c (t :: r) = 3
        rw [hcode]
        omega
      · rw [hq1, hb2]
        show code c (t :: (r ++ q)) = code c (t :: r)
        rw [hcode, hcode]
      · rw [hq1, hb2]
        rfl
      · rw [hps]
        show c = code c (t :: r)
        rw [hcode]
      · rw [hps]
end Rl
end Go.Proofs.YtocadlcglgpdcaaDoor
