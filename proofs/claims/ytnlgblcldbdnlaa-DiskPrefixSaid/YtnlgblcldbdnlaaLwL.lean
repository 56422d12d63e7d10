/-
  The plain law behind DiskPrefix: a failure keeps a prefix of the writes, and a piece of the next one.
-/
import Derived.Test.YtnlgblcldbdnlaaLwK
namespace Go.Proofs.Ytnlgblcldbdnlaa
set_option linter.unusedVariables false
set_option linter.unusedSimpArgs false
open Go Go.RowKit
namespace DK
theorem put_near (D : DK) (s i : Nat) (t : Bytes) : (D.put s t).st i = if s = i then t ++ (D.st s).drop t.length else D.st i := by
  unfold put
  by_cases h : s = i
  · subst h; simp
  · simp only; rw [if_neg (fun e => h e.symm), if_neg h]
theorem settle_last (i : Nat) (l : List (Nat × Bytes)) : ∀ D : DK, (D.st i).length = 64 → (∀ p ∈ l, p.2.length = 64) → (D.settle l).st i = last l i (D.st i) := by
  induction l with
  | nil => exact fun D _ _ => rfl
  | cons p l ih =>
    intro D hd hl
    have hp := hl p (by simp)
    have e : (D.put p.1 p.2).st i = if p.1 = i then p.2 else D.st i := by
      rw [put_near]
      by_cases h : p.1 = i
      · rw [if_pos h, if_pos h, List.drop_of_length_le (by rw [h, hd, hp]; exact Nat.le_refl _), List.append_nil]
      · rw [if_neg h, if_neg h]
    have h1 := ih (D.put p.1 p.2) (by rw [e]; split <;> assumption) (fun q hq => hl q (by simp [hq]))
    rw [e] at h1
    exact h1
theorem fail_prefix {S : DK} (ho : S.off = false) (Q : List (Nat × Bytes)) (c b : Nat) (hb : b ≤ 64) (hS : ∀ i, i < S.n → (S.st i).length = 64) (hQ : ∀ p ∈ Q, p.1 < S.n ∧ p.2.length = 64) :
    (((S.onq Q).fail (c : Int) (b : Int)).start).all = match Q[c]? with
      | none => (S.onq (Q.take c)).all
      | some p => ((S.onq (Q.take c)).all).set p.1 (p.2.take b ++ ((S.onq (Q.take c)).cur p.1).drop b) := by
  have hcut : (S.onq Q).cut (c : Int) = min c Q.length := by unfold cut; show (min (max (c : Int) 0) (Q.length : Int)).toNat = _; omega
  have htorn : torn (b : Int) = b := by unfold torn; omega
  have hF : ∀ i, (((S.onq Q).fail (c : Int) (b : Int)).start).cur i = (((S.onq Q).settle (Q.take c)).tear (Q.drop c) (b : Int)).st i := by
    intro i
    unfold fail
    rw [if_neg (by show ¬ S.off = true; rw [ho]; simp)]
    refine (cur_of_nil (by rfl) i).trans ?_
    show (((S.onq Q).settle (Q.take ((S.onq Q).cut c))).tear (Q.drop ((S.onq Q).cut c)) b).st i = _
    rw [hcut]
    by_cases h : c ≤ Q.length
    · rw [Nat.min_eq_left h]
    · rw [Nat.min_eq_right (by omega), List.take_of_length_le (Nat.le_refl _), List.drop_of_length_le (Nat.le_refl _), List.take_of_length_le (by omega), List.drop_of_length_le (by omega)]
  have hset : ∀ i, i < S.n → ((S.onq Q).settle (Q.take c)).st i = (S.onq (Q.take c)).cur i := fun i hi => settle_last i _ (S.onq Q) (hS i hi) (fun p hp => (hQ p (List.mem_of_mem_take hp)).2)
  have hn : (((S.onq Q).fail (c : Int) (b : Int)).start).n = S.n := fail_n _ _ _
  cases hc : Q[c]? with
  | none =>
    have hle : Q.length ≤ c := List.getElem?_eq_none_iff.1 hc
    refine all_eq hn (fun i hi => ?_)
    rw [hn] at hi
    rw [hF, List.drop_of_length_le hle, ← hset i hi]
    rfl
  | some p =>
    obtain ⟨hlt, hp⟩ := List.getElem?_eq_some_iff.1 hc
    have hd : Q.drop c = p :: Q.drop (c + 1) := by rw [List.drop_eq_getElem_cons hlt, hp]
    have hpm := hQ p (List.mem_of_getElem? hc)
    apply List.ext_getElem?
    intro i
    by_cases hi : i < S.n
    · rw [all_at _ i (by rw [hn]; exact hi), hF, hd, List.getElem?_set, all_len, all_at _ i (show i < (S.onq (Q.take c)).n from hi)]
      unfold tear
      simp only [htorn]
      by_cases h0 : 0 < b
      · rw [if_pos h0, put_near]
        by_cases hpi : p.1 = i
        · rw [if_pos hpi, if_pos hpi, if_pos (show p.1 < (S.onq (Q.take c)).n from hpm.1), hset p.1 hpm.1, List.length_take, hpm.2, Nat.min_eq_left hb]
        · rw [if_neg hpi, if_neg hpi, hset i hi]
      · have : b = 0 := by omega
        subst this
        rw [if_neg h0, hset i hi]
        by_cases hpi : p.1 = i
        · rw [if_pos hpi, if_pos (show p.1 < (S.onq (Q.take c)).n from hpm.1), hpi]; simp
        · rw [if_neg hpi]
    · rw [List.getElem?_eq_none (by rw [all_len, hn]; omega), List.getElem?_eq_none (by rw [List.length_set, all_len]; show S.n ≤ i; omega)]
end DK
end Go.Proofs.Ytnlgblcldbdnlaa
