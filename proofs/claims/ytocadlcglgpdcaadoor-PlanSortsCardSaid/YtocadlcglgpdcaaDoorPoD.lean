/-
  Plan, plain laws: where levels, blocks, areas and rows stand.
-/
import Derived.Test.YtocadlcglgpdcaaDoorPoC
import Derived.Test.YtocadlcglgpdcaaDoorRlO
namespace Go.Proofs.YtocadlcglgpdcaaDoor
set_option linter.unusedVariables false
open Lx (Tk)
namespace Lx
/-- A token stands in the text where it says. -/
theorem tok_stands {s : Bytes} (hg : good (sc 0 s) = true) {t : Tk} (ht : t ∈ (sc 0 s).map Prod.fst) : t.at_ + t.text.length ≤ s.length ∧ (s.drop t.at_).take t.text.length = t.text := by
  obtain ⟨x, hx, rfl⟩ := List.mem_map.1 ht
  obtain ⟨p, q, hpq⟩ := List.append_of_mem hx
  have hp : good p = true := good_iff.2 fun y hy => good_iff.1 hg y (by rw [hpq]; simp [hy])
  obtain ⟨i, h1, h2, -, h4⟩ := sc_swap 0 s p x.1 x.2 q (by rw [hpq]) hp
  obtain ⟨j, hj, a1, -, -, -, -⟩ := sc_first _ _ _ _ h4
  have hxe : x.1 = mk (0 + i + j) ((s.drop i).drop j) := congrArg Prod.fst a1
  have hat : x.1.at_ = 0 + i + j := by rw [hxe]; rfl
  have hj0 : j = 0 := by omega
  subst hj0
  rw [List.drop_zero] at hxe
  obtain ⟨c, r, hcr⟩ : ∃ c r, s.drop i = c :: r := by
    cases hd : s.drop i with
    | nil => rw [List.drop_eq_nil_iff] at hd; omega
    | cons c r => exact ⟨c, r, rfl⟩
  have hti : x.1.at_ = i := by omega
  have htx : x.1.text = (s.drop i).take (tok (s.drop i)).2.1 := by rw [hxe]; rfl
  have hle := tok_len c r
  rw [← hcr] at hle
  have hlen : (s.drop i).length = r.length + 1 := by rw [hcr]; simp
  have hll : x.1.text.length = (tok (s.drop i)).2.1 := by rw [htx, List.length_take]; omega
  rw [List.length_drop] at hlen
  rw [hti, hll, htx]
  exact ⟨by omega, rfl⟩
end Lx
namespace Pn
open Rl (Out)
/-- Things one after the other, up to where they end. -/
inductive Many {α : Type} (stop : List Tk → Bool) (one : List Tk → Out α) : List Tk → List α → List Tk → Prop
  | nil {l : List Tk} (h : stop l = true) : Many stop one l [] l
  | cons {l : List Tk} {a : α} {q : List Tk} {us : List α} {r : List Tk} (hs : stop l = false) (h : one l = .ok a q) (h' : Many stop one q us r) : Many stop one l (a :: us) r
theorem many_loopG {α : Type} {stop : List Tk → Bool} {one : List Tk → Out α} (he : Eat one) : ∀ (k : Nat) (acc : List α) (l : List Tk) (z : List α) (r : List Tk), l.length < k → loopG stop one k acc l = .ok z r → ∃ xs, z = acc ++ xs ∧ Many stop one l xs r
  | 0, acc, l, z, r, hk, h => by omega
  | k + 1, acc, l, z, r, hk, h => by
    unfold loopG at h
    by_cases h0 : stop l = true
    · rw [if_pos h0] at h
      cases h
      exact ⟨[], by simp, .nil h0⟩
    · rw [if_neg h0] at h
      obtain ⟨a, q, h1, h2⟩ := Rl.bind_ok h
      have hq := he l a q h1
      obtain ⟨xs, h3, h4⟩ := many_loopG he k _ q z r (by omega) h2
      exact ⟨a :: xs, by rw [h3, List.append_assoc]; rfl, .cons (by simpa using h0) h1 h4⟩
theorem many_loop {α : Type} {stop : List Tk → Bool} {one : List Tk → Out α} (he : Eat one) {l : List Tk} {z : List α} {r : List Tk} (h : loop stop one l = .ok z r) : Many stop one l z r := by
  obtain ⟨xs, h1, h2⟩ := many_loopG he _ _ _ _ _ (Nat.lt_succ_self _) h
  rw [h1]
  exact h2
theorem many_braced {α : Type} {one : List Tk → Out α} (he : Eat one) {l : List Tk} {z : List α} {r : List Tk} (h : braced one l = .ok z r) : ∃ q, Many (isw cClose) one l z q ∧ r = q.tail := by
  obtain ⟨a, q, h1, h2⟩ := Rl.bind_ok h
  cases h2
  exact ⟨q, many_loop he h1, rfl⟩
theorem loopG_many {α : Type} {stop : List Tk → Bool} {one : List Tk → Out α} (he : Eat one) {l : List Tk} {us : List α} {r : List Tk} (h : Many stop one l us r) : ∀ (k : Nat) (acc : List α), l.length < k → loopG stop one k acc l = .ok (acc ++ us) r := by
  induction h with
  | nil h0 =>
    intro k acc hk
    cases k with
    | zero => omega
    | succ k => rw [loopG, if_pos h0, List.append_nil]
  | cons hs h1 h2 ih =>
    intro k acc hk
    cases k with
    | zero => omega
    | succ k =>
      have := he _ _ _ h1
      rw [loopG, if_neg (by simp [hs]), h1]
      show loopG stop one k _ _ = _
      rw [ih k _ (by omega), List.append_assoc]
      rfl
theorem loop_many {α : Type} {stop : List Tk → Bool} {one : List Tk → Out α} (he : Eat one) {l : List Tk} {us : List α} {r : List Tk} (h : Many stop one l us r) : loop stop one l = .ok us r := by
  unfold loop
  rw [loopG_many he h _ _ (Nat.lt_succ_self _)]
  rfl
theorem codeIn_at : ∀ (r : List Bytes) (k : Nat) (t : Bytes), Rl.codeIn r k t ≠ 0 → ∃ j, Rl.codeIn r k t = k + j ∧ r[j]? = some t
  | [], k, t, h => by simp [Rl.codeIn] at h
  | x :: r, k, t, h => by
    unfold Rl.codeIn at h ⊢
    by_cases hx : t = x
    · rw [if_pos hx]
      exact ⟨0, rfl, by rw [hx]; rfl⟩
    · rw [if_neg hx] at h ⊢
      obtain ⟨j, h1, h2⟩ := codeIn_at r (k + 1) t h
      exact ⟨j + 1, by omega, by simpa using h2⟩
/-- A word stands at an offset that is not less than another one. -/
def Std (s x : Bytes) (at_ fr : Nat) : Prop := fr ≤ at_ ∧ at_ + x.length ≤ s.length ∧ (s.drop at_).take x.length = x
/-- Tokens that rise, and stand in the text. -/
structure Fine (s : Bytes) (l : List Tk) : Prop where
  rise : Rising l
  st : ∀ t ∈ l, t.at_ + t.text.length ≤ s.length ∧ (s.drop t.at_).take t.text.length = t.text
def Lo (n : Nat) (l : List Tk) : Prop := ∀ t ∈ l, n ≤ t.at_
theorem Fine.suf {s : Bytes} {l r : List Tk} (h : Fine s l) (hr : r <:+ l) : Fine s r := ⟨h.rise.sublist hr.sublist, fun t ht => h.st t (hr.subset ht)⟩
theorem Lo.suf {n : Nat} {l r : List Tk} (h : Lo n l) (hr : r <:+ l) : Lo n r := fun t ht => h t (hr.subset ht)
theorem Lo.le {n m : Nat} {l : List Tk} (h : Lo n l) (hm : m ≤ n) : Lo m l := fun t ht => Nat.le_trans hm (h t ht)
theorem Fine.lo {s : Bytes} {t : Tk} {l : List Tk} (h : Fine s (t :: l)) : Lo (t.at_ + 1) l := fun u hu => (List.pairwise_cons.1 h.rise).1 u hu
theorem Fine.std {s : Bytes} {t : Tk} {l : List Tk} (h : Fine s (t :: l)) {x : Bytes} (hx : t.text = x) {n : Nat} (hn : Lo n (t :: l)) : Std s x t.at_ n := by
  have h1 := h.st t (List.mem_cons_self ..)
  rw [hx] at h1
  exact ⟨hn t (List.mem_cons_self ..), h1.1, h1.2⟩
theorem suf_tail {t : Tk} {q r : List Tk} (h : r <:+ t :: q) (hl : r.length < (t :: q).length) : r <:+ q := by
  rcases List.suffix_cons_iff.1 h with h | h
  · rw [h] at hl
    omega
  · exact h
/-- Each row stands where it says, behind what came before; what comes next stands from the last on. -/
def chkR (s : Bytes) : Nat → List Rw → Nat → Prop
  | n, [], m => m = n
  | n, x :: xs, m => Std s wRow x.at_ n ∧ chkR s (x.at_ + 1) xs m
def chkB (s : Bytes) : Nat → List Bl → Nat → Prop
  | n, [], m => m = n
  | n, x :: xs, m => Std s wBlock x.at_ n ∧ ∃ k, chkR s (x.at_ + 1) x.rows k ∧ chkB s k xs m
def chkA (s : Bytes) : Nat → List Ar → Nat → Prop
  | n, [], m => m = n
  | n, x :: xs, m => Std s wArea x.at_ n ∧ chkA s (x.at_ + 1) xs m
def chkL (s : Bytes) : Nat → List Lv → Nat → Prop
  | n, [], m => m = n
  | n, x :: xs, m => Std s wLevel x.at_ n ∧ ∃ k j, chkB s (x.at_ + 1) x.blocks k ∧ chkA s (x.at_ + 1) x.areas j ∧ chkL s (max k j) xs m
theorem atO_ok {l : List Tk} {a : Nat} {r : List Tk} (h : atO l = .ok a r) : ∃ t q, l = t :: q ∧ a = t.at_ ∧ r = t :: q := by
  cases l with
  | nil => cases h
  | cons t q =>
    cases h
    exact ⟨t, q, rfl, rfl, rfl⟩
theorem must_ok {x : Bytes} {l : List Tk} {u : Unit} {r : List Tk} (h : must x l = .ok u r) : ∃ t, l = t :: r ∧ t.text = x ∧ t.kind ≠ 2 := by
  unfold must at h
  by_cases h0 : isw x l = true
  · rw [if_pos h0] at h
    cases h
    cases l with
    | nil => simp [isw] at h0
    | cons t q =>
      simp [isw] at h0
      exact ⟨t, rfl, h0.2, h0.1⟩
  · rw [if_neg h0] at h
    cases h
theorem row_first {l : List Tk} {x : Rw} {r : List Tk} (h : row l = .ok x r) : ∃ t q, l = t :: q ∧ t.text = wRow ∧ x.at_ = t.at_ := by
  obtain ⟨a0, q0, h0, h⟩ := Rl.bind_ok h
  obtain ⟨t, q, rfl, rfl, rfl⟩ := atO_ok h0
  obtain ⟨a1, q1, h1, h⟩ := Rl.bind_ok h
  obtain ⟨t', e1, e2, -⟩ := must_ok h1
  cases e1
  obtain ⟨a2, q2, h2, h⟩ := Rl.bind_ok h
  obtain ⟨a3, q3, h3, h⟩ := Rl.bind_ok h
  obtain ⟨a4, q4, h4, h⟩ := Rl.bind_ok h
  obtain ⟨a5, q5, h5, h⟩ := Rl.bind_ok h
  obtain ⟨a6, q6, h6, h⟩ := Rl.bind_ok h
  obtain ⟨a7, q7, h7, h⟩ := Rl.bind_ok h
  obtain ⟨a8, q8, h8, h⟩ := Rl.bind_ok h
  obtain ⟨a9, q9, h9, h⟩ := Rl.bind_ok h
  obtain ⟨b1, p1, h10, h⟩ := Rl.bind_ok h
  obtain ⟨b2, p2, h11, h⟩ := Rl.bind_ok h
  obtain ⟨b3, p3, h12, h⟩ := Rl.bind_ok h
  cases h
  exact ⟨t, q, rfl, e2, rfl⟩
theorem rows_chk {s : Bytes} {l : List Tk} {us : List Rw} {r : List Tk} (h : Many (isw cClose) row l us r) : ∀ (n : Nat), Fine s l → Lo n l → ∃ m, chkR s n us m ∧ Lo m r ∧ r <:+ l := by
  induction h with
  | nil h0 => exact fun n hf hn => ⟨n, rfl, hn, List.suffix_refl _⟩
  | cons hs h1 h2 ih =>
    intro n hf hn
    obtain ⟨t, q, rfl, e1, e2⟩ := row_first h1
    have hq := suf_tail (Rl.Nice.suf nice_row _ |> fun k => by rw [h1] at k; exact k) (eat_row _ _ _ h1)
    obtain ⟨m, h3, h4, h5⟩ := ih (t.at_ + 1) (hf.suf (hq.trans (List.suffix_cons _ _))) (hf.lo.suf hq)
    exact ⟨m, ⟨by rw [e2]; exact hf.std e1 hn, by rw [e2]; exact h3⟩, h4, (h5.trans hq).trans (List.suffix_cons _ _)⟩
/-- The blocks and areas among items. -/
theorem items_chk {s : Bytes} {l : List Tk} {us : List It} {r : List Tk} (h : Many (isw cClose) item l us r) : ∀ (n m : Nat), Fine s l → Lo n l → Lo m l → ∃ k j, chkB s n (us.filterMap It.block?) k ∧ chkA s m (us.filterMap It.area?) j ∧ Lo k r ∧ Lo j r ∧ r <:+ l := by
  induction h with
  | nil h0 => exact fun n m hf hn hm => ⟨n, m, rfl, rfl, hn, hm, List.suffix_refl _⟩
  | @cons l a q us r hs h1 h2 ih =>
    intro n m hf hn hm
    have hsuf : q <:+ l := by
      have k := Rl.Nice.suf nice_item l
      rw [h1] at k
      exact k
    have hlen := eat_item _ _ _ h1
    cases l with
    | nil => cases h1
    | cons t p =>
      have hq : q <:+ p := suf_tail hsuf hlen
      rw [item_cons] at h1
      by_cases h0 : Rl.codeIn sortsL 1 t.text = 0
      · rw [if_pos h0] at h1
        cases h1
      · rw [if_neg h0] at h1
        obtain ⟨j, j1, j2⟩ := codeIn_at sortsL 1 t.text h0
        rw [j1] at h1
        have hq' : q <:+ t :: p := hq.trans (List.suffix_cons _ _)
        have hj5 : j < 5 := (List.getElem?_eq_some_iff.1 j2).1
        match j, hj5, j2, h1 with
        | 0, _, j2, h1 =>
          obtain ⟨b, q1, h3, h4⟩ := Rl.bind_ok h1
          cases h4
          obtain ⟨nm, q2, h5, h6⟩ := Rl.bind_ok h3
          obtain ⟨u, q3, h7, h8⟩ := Rl.bind_ok h6
          obtain ⟨rs, q4, h9, h10⟩ := Rl.bind_ok h8
          cases h10
          obtain ⟨q5, g1, g2⟩ := many_braced eat_row h9
          have hs2 : q2 <:+ p := by
            have k := Rl.Nice.suf nice_name p
            rw [h5] at k
            exact k
          have hs3 : q3 <:+ q2 := by
            have k := Rl.Nice.suf (nice_must cOpen) q2
            rw [h7] at k
            exact k
          have hs4 : q3 <:+ t :: p := (hs3.trans hs2).trans (List.suffix_cons _ _)
          obtain ⟨k, g3, g4, g5⟩ := rows_chk g1 (t.at_ + 1) (hf.suf hs4) (hf.lo.suf (hs3.trans hs2))
          have hqq : q <:+ q5 := by rw [g2]; exact List.tail_suffix _
          obtain ⟨k', j', f1, f2, f3, f4, f5⟩ := ih k m (hf.suf hq') (g4.suf hqq) (hm.suf hq')
          exact ⟨k', j', ⟨hf.std (Option.some.inj j2).symm hn, k, g3, f1⟩, f2, f3, f4, f5.trans hq'⟩
        | 1, _, j2, h1 =>
          obtain ⟨b, q1, h3, h4⟩ := Rl.bind_ok h1
          cases h4
          have hb : b.at_ = t.at_ := by
            obtain ⟨a1, p1, e1, h3⟩ := Rl.bind_ok h3
            obtain ⟨a2, p2, e2, h3⟩ := Rl.bind_ok h3
            obtain ⟨a3, p3, e3, h3⟩ := Rl.bind_ok h3
            obtain ⟨a4, p4, e4, h3⟩ := Rl.bind_ok h3
            obtain ⟨a5, p5, e5, h3⟩ := Rl.bind_ok h3
            cases h3
            rfl
          obtain ⟨k', j', f1, f2, f3, f4, f5⟩ := ih n (t.at_ + 1) (hf.suf hq') (hn.suf hq') (hf.lo.suf hq)
          exact ⟨k', j', f1, ⟨by rw [hb]; exact hf.std (Option.some.inj j2).symm hm, by rw [hb]; exact f2⟩, f3, f4, f5.trans hq'⟩
        | 2, _, j2, h1 =>
          obtain ⟨b, q1, h3, h4⟩ := Rl.bind_ok h1
          cases h4
          obtain ⟨k', j', f1, f2, f3, f4, f5⟩ := ih n m (hf.suf hq') (hn.suf hq') (hm.suf hq')
          exact ⟨k', j', f1, f2, f3, f4, f5.trans hq'⟩
        | 3, _, j2, h1 =>
          obtain ⟨b, q1, h3, h4⟩ := Rl.bind_ok h1
          cases h4
          obtain ⟨k', j', f1, f2, f3, f4, f5⟩ := ih n m (hf.suf hq') (hn.suf hq') (hm.suf hq')
          exact ⟨k', j', f1, f2, f3, f4, f5.trans hq'⟩
        | 4, _, j2, h1 =>
          obtain ⟨b, q1, h3, h4⟩ := Rl.bind_ok h1
          cases h4
          obtain ⟨k', j', f1, f2, f3, f4, f5⟩ := ih n m (hf.suf hq') (hn.suf hq') (hm.suf hq')
          exact ⟨k', j', f1, f2, f3, f4, f5.trans hq'⟩
theorem level_parts {l : List Tk} {x : Lv} {r : List Tk} (h : level l = .ok x r) : ∃ t p, l = t :: p ∧ t.text = wLevel ∧ x.at_ = t.at_ ∧ ∃ its p5 p6, p5 <:+ p ∧ Many (isw cClose) item p5 its p6 ∧ r = p6.tail ∧ x.blocks = its.filterMap It.block? ∧ x.areas = its.filterMap It.area? := by
  obtain ⟨a0, q0, h0, h⟩ := Rl.bind_ok h
  obtain ⟨t, q, rfl, rfl, rfl⟩ := atO_ok h0
  obtain ⟨a1, q1, h1, h⟩ := Rl.bind_ok h
  obtain ⟨t', e1, e2, -⟩ := must_ok h1
  cases e1
  obtain ⟨a2, q2, h2, h⟩ := Rl.bind_ok h
  obtain ⟨a3, q3, h3, h⟩ := Rl.bind_ok h
  obtain ⟨a4, q4, h4, h⟩ := Rl.bind_ok h
  obtain ⟨a5, q5, h5, h⟩ := Rl.bind_ok h
  obtain ⟨its, q6, h6, h⟩ := Rl.bind_ok h
  cases h
  obtain ⟨q7, g1, g2⟩ := many_braced eat_item h6
  have s2 := Rl.Nice.suf nice_name q
  rw [h2] at s2
  have s3 := Rl.Nice.suf (nice_must wHeight) q2
  rw [h3] at s3
  have s4 := Rl.Nice.suf nice_num q3
  rw [h4] at s4
  have s5 := Rl.Nice.suf (nice_must cOpen) q4
  rw [h5] at s5
  exact ⟨t, q, rfl, e2, rfl, its, q5, q7, (((show q5 <:+ q4 from s5).trans (show q4 <:+ q3 from s4)).trans (show q3 <:+ q2 from s3)).trans (show q2 <:+ q from s2), g1, g2, rfl, rfl⟩
theorem eat_level : Eat level := Eat.after shr_atO (fun at_ => Eat.bind (eat_must wLevel) (fun _ => eat_name.shr.bind (fun nm => (eat_must wHeight).shr.bind (fun _ => eat_num.shr.bind (fun h => (eat_must cOpen).shr.bind (fun _ => (shr_braced eat_item.shr).bind (fun its => Shr.pure _)))))))
theorem levels_chk {s : Bytes} {l : List Tk} {us : List Lv} {r : List Tk} (h : Many (isw cClose) level l us r) : ∀ (n : Nat), Fine s l → Lo n l → ∃ m, chkL s n us m ∧ Lo m r ∧ r <:+ l := by
  induction h with
  | nil h0 => exact fun n hf hn => ⟨n, rfl, hn, List.suffix_refl _⟩
  | cons hs h1 h2 ih =>
    intro n hf hn
    obtain ⟨t, p, rfl, e1, e2, its, p5, p6, e3, e4, e5, e6, e7⟩ := level_parts h1
    have h3 : p5 <:+ t :: p := e3.trans (List.suffix_cons _ _)
    obtain ⟨k, j, f1, f2, f3, f4, f5⟩ := items_chk e4 (t.at_ + 1) (t.at_ + 1) (hf.suf h3) (hf.lo.suf e3) (hf.lo.suf e3)
    have h4 : p6.tail <:+ p6 := List.tail_suffix _
    subst e5
    have hmax : Lo (max k j) p6.tail := fun u hu => Nat.max_le.2 ⟨f3 u (h4.subset hu), f4 u (h4.subset hu)⟩
    obtain ⟨m, g1, g2, g3⟩ := ih (max k j) (hf.suf ((h4.trans f5).trans h3)) hmax
    exact ⟨m, ⟨by rw [e2]; exact hf.std e1 hn, k, j, by rw [e2, e6]; exact f1, by rw [e2, e7]; exact f2, g1⟩, g2, ((g3.trans h4).trans f5).trans h3⟩
theorem parse_of_lex {s : Bytes} (h : (Lx.lex s).2.1 = 0) : parse s = fin s.length (hall (Lx.lex s).1) := by
  unfold parse
  rw [if_neg (by simpa using h)]
theorem code_ne (e : Nat) (r : List Tk) (he : e ≠ 0) : Rl.code e r ≠ 0 := by
  unfold Rl.code
  split <;> simp_all
theorem parse_nonzero {s : Bytes} (h : (parse s).2.1 ≠ 0) : (parse s).1 = hl0 := by
  unfold parse at h ⊢
  split
  · rfl
  · rename_i h0
    rw [if_neg h0] at h
    cases hh : hall (Lx.lex s).1 with
    | ok x r => rw [hh] at h; exact absurd rfl h
    | bad c r => rfl
/-- All errors of the parser are 4. -/
def Errs {α : Type} (f : List Tk → Out α) : Prop := ∀ l c r, f l = .bad c r → c = 4
theorem Errs.pure {α : Type} (a : α) : Errs (fun l => Out.ok a l) := fun l c r h => by cases h
theorem Errs.bind {α β : Type} {f : List Tk → Out α} {g : α → List Tk → Out β} (hf : Errs f) (hg : ∀ a, Errs (g a)) : Errs (fun l => (f l).bind (g · ·)) := fun l c r h => by
  cases h1 : f l with
  | bad c' q =>
    simp only [h1] at h
    cases h
    exact hf l _ _ h1
  | ok a q =>
    simp only [h1] at h
    exact hg a q c r h
theorem errs_nxt (k : Nat) (x : Option Bytes) : Errs (Rl.nxt k x) := fun l c r h => by
  cases l with
  | nil =>
    cases h
    rfl
  | cons t q =>
    rw [Rl.nxt_cons] at h
    split at h
    · cases h
    · cases h
      rfl
theorem errs_num : Errs num := (errs_nxt 2 none).bind fun t => Errs.pure _
theorem errs_name : Errs name := (errs_nxt 1 none).bind fun t => Errs.pure _
theorem errs_atO : Errs atO := fun l c r h => by
  cases l with
  | nil =>
    cases h
    rfl
  | cons t q => cases h
theorem errs_num2 : Errs num2 := errs_num.bind fun x => errs_num.bind fun y => Errs.pure _
theorem errs_box : Errs box := errs_num.bind fun x => errs_num.bind fun y => errs_num.bind fun z => errs_num.bind fun u => Errs.pure _
theorem errs_loopG {α : Type} {stop : List Tk → Bool} {one : List Tk → Out α} (h : Errs one) : ∀ (k : Nat) (acc : List α), Errs (loopG stop one k acc)
  | 0, acc => Errs.pure acc
  | k + 1, acc => fun l c r e => by
    unfold loopG at e
    split at e
    · cases e
    · exact (Errs.bind h fun a => errs_loopG h k (acc ++ [a])) l c r e
theorem errs_loop {α : Type} {stop : List Tk → Bool} {one : List Tk → Out α} (h : Errs one) : Errs (loop stop one) := fun l c r e => errs_loopG h _ _ l c r e
theorem errs_tail {α : Type} (a : α) : Errs (fun l => Out.ok a l.tail) := fun l c r h => by cases h
theorem errs_braced {α : Type} {one : List Tk → Out α} (h : Errs one) : Errs (braced one) := (errs_loop h).bind fun a => errs_tail a
theorem errs_must (x : Bytes) : Errs (must x) := fun l c r h => by
  unfold must at h
  split at h
  · cases h
  · cases h
    rfl
theorem errs_mark : Errs mark := fun l c r h => by
  have h0 : Errs (fun q => (num q).bind fun n l1 => if mkc l = 4 then (must wOf l1).bind fun _ l2 => (num l2).bind fun w l3 => Out.ok (⟨mkc l, n, w⟩ : Mk) l3 else .ok ⟨mkc l, n, 0⟩ l1) := errs_num.bind fun n => by
    by_cases h4 : mkc l = 4
    · simp only [h4, if_true]
      exact (errs_must wOf).bind fun _ => errs_num.bind fun w => Errs.pure _
    · simp only [h4, if_false]
      exact Errs.pure _
  exact h0 _ _ _ h
theorem errs_row : Errs row := errs_atO.bind fun at_ => (errs_must wRow).bind fun _ => errs_name.bind fun nm => (errs_must wAt).bind fun _ => errs_num2.bind fun xy => (errs_must wSeats).bind fun _ => errs_num.bind fun f => (errs_must wTo).bind fun _ => errs_num.bind fun t => (errs_must wStep).bind fun _ => errs_num.bind fun st => (errs_loop errs_mark).bind fun ms => (errs_must cSemi).bind fun _ => Errs.pure _
theorem errs_block (a : Nat) : Errs (block a) := errs_name.bind fun nm => (errs_must cOpen).bind fun _ => (errs_braced errs_row).bind fun rs => Errs.pure _
theorem errs_area (a : Nat) : Errs (area a) := errs_name.bind fun nm => errs_box.bind fun b => (errs_must wHolds).bind fun _ => errs_num.bind fun h => (errs_must cSemi).bind fun _ => Errs.pure _
theorem errs_boxS : Errs boxS := errs_box.bind fun b => (errs_must cSemi).bind fun _ => Errs.pure _
theorem errs_door : Errs door := errs_num2.bind fun p => (errs_must cSemi).bind fun _ => Errs.pure _
theorem errs_itemK (k a : Nat) : Errs (itemK k a) := fun l c r h => by
  unfold itemK at h
  split at h
  · exact ((errs_block a).bind fun b => Errs.pure _) l c r h
  · split at h
    · exact ((errs_area a).bind fun b => Errs.pure _) l c r h
    · split at h
      · exact (errs_boxS.bind fun b => Errs.pure _) l c r h
      · split at h
        · exact (errs_boxS.bind fun b => Errs.pure _) l c r h
        · exact (errs_door.bind fun b => Errs.pure _) l c r h
theorem errs_item : Errs item := fun l c r h => by
  cases l with
  | nil =>
    cases h
    rfl
  | cons t q =>
    rw [item_cons] at h
    split at h
    · cases h
      rfl
    · exact errs_itemK _ _ _ _ _ h
theorem errs_level : Errs level := errs_atO.bind fun at_ => (errs_must wLevel).bind fun _ => errs_name.bind fun nm => (errs_must wHeight).bind fun _ => errs_num.bind fun h => (errs_must cOpen).bind fun _ => (errs_braced errs_item).bind fun its => Errs.pure _
theorem errs_hall : Errs hall := (errs_must wHall).bind fun _ => errs_name.bind fun nm => (errs_must wStage).bind fun _ => errs_num2.bind fun xy => (errs_must cOpen).bind fun _ => (errs_braced errs_level).bind fun ls => fun l c r h => by
  split at h
  · cases h
  · cases h
    rfl
theorem hall_bad (l r : List Tk) : hall l ≠ .bad 0 r := fun h => by
  have := errs_hall l 0 r h
  omega
theorem parse_zero {s : Bytes} (h : (parse s).2.1 = 0) : (Lx.lex s).2.1 = 0 ∧ ∃ r, hall (Lx.lex s).1 = .ok (parse s).1 r ∧ (parse s).2.2 = 0 := by
  have h0 : (Lx.lex s).2.1 = 0 := by
    apply Classical.byContradiction
    intro h0
    unfold parse at h
    rw [if_pos h0] at h
    exact h0 h
  refine ⟨h0, ?_⟩
  rw [parse_of_lex h0] at h ⊢
  cases hh : hall (Lx.lex s).1 with
  | ok x r => exact ⟨r, rfl, rfl⟩
  | bad c r =>
    rw [hh] at h
    have h1 : Rl.code c r = 0 := h
    unfold Rl.code at h1
    split at h1
    · cases h1
    · subst h1
      rename_i hr
      exact absurd hh (hall_bad _ _)
theorem fine_lex {s : Bytes} (h : (Lx.lex s).2.1 = 0) : Fine s (Lx.lex s).1 := by
  obtain ⟨_, a1, a2, a3⟩ := Lx.lex_of_zero h
  refine ⟨Lx.lex_rising s, fun t ht => ?_⟩
  rw [a3] at ht
  exact Lx.tok_stands a1 ht
/-- The parts of a hall. -/
theorem hall_parts {l : List Tk} {x : Hl} {r : List Tk} (h : hall l = .ok x r) : r = [] ∧ ∃ p5 p6, p5 <:+ l ∧ Many (isw cClose) level p5 x.levels p6 ∧ r = p6.tail := by
  obtain ⟨a1, q1, h1, h⟩ := Rl.bind_ok h
  obtain ⟨a2, q2, h2, h⟩ := Rl.bind_ok h
  obtain ⟨a3, q3, h3, h⟩ := Rl.bind_ok h
  obtain ⟨a4, q4, h4, h⟩ := Rl.bind_ok h
  obtain ⟨a5, q5, h5, h⟩ := Rl.bind_ok h
  obtain ⟨ls, q6, h6, h⟩ := Rl.bind_ok h
  obtain ⟨q7, g1, g2⟩ := many_braced eat_level h6
  by_cases hq : q6 = []
  · subst hq
    cases h
    have s1 := Rl.Nice.suf (nice_must wHall) l
    rw [h1] at s1
    have s2 := Rl.Nice.suf nice_name q1
    rw [h2] at s2
    have s3 := Rl.Nice.suf (nice_must wStage) q2
    rw [h3] at s3
    have s4 := Rl.Nice.suf nice_num2 q3
    rw [h4] at s4
    have s5 := Rl.Nice.suf (nice_must cOpen) q4
    rw [h5] at s5
    exact ⟨rfl, q5, q7, ((((show q5 <:+ q4 from s5).trans (show q4 <:+ q3 from s4)).trans (show q3 <:+ q2 from s3)).trans (show q2 <:+ q1 from s2)).trans (show q1 <:+ l from s1), g1, g2⟩
  · simp only [hq, if_false] at h
    cases h
theorem offsets_law {s : Bytes} (h0 : (parse s).2.1 = 0) : ∃ m, chkL s 0 (parse s).1.levels m := by
  obtain ⟨l0, r, h1, -⟩ := parse_zero h0
  obtain ⟨-, p5, p6, h2, h3, -⟩ := hall_parts h1
  obtain ⟨m, h4, -, -⟩ := levels_chk h3 0 ((fine_lex l0).suf h2) (fun t ht => Nat.zero_le _)
  exact ⟨m, h4⟩
end Pn
end Go.Proofs.YtocadlcglgpdcaaDoor
