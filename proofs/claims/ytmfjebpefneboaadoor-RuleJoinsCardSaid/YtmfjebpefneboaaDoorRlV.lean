/-
  Rule: the plain law of RuleOffsets.
-/
import Derived.Test.YtmfjebpefneboaaDoorRlU
namespace Go.Proofs.YtmfjebpefneboaaDoor
set_option linter.unusedVariables false
open Lx (Tk)
namespace Rl
theorem codeIn_at : ∀ (r : List Bytes) (k : Nat) (t : Bytes), codeIn r k t ≠ 0 → ∃ j, codeIn r k t = k + j ∧ r[j]? = some t
  | [], k, t, h => by simp [codeIn] at h
  | x :: r, k, t, h => by
    unfold codeIn at h ⊢
    by_cases hx : t = x
    · rw [if_pos hx]
      exact ⟨0, rfl, by rw [hx]; rfl⟩
    · rw [if_neg hx] at h ⊢
      obtain ⟨j, h1, h2⟩ := codeIn_at r (k + 1) t h
      exact ⟨j + 1, by omega, by simpa using h2⟩
/-- Each test stands where it says, behind what came before; the last offset. -/
def chkT (l : List Tk) : Int → List Tst → Int → Prop
  | last, [], r => r = last
  | last, t :: ts, r => (last < (t.at_ : Int) ∧ (tokAt l t.at_).kind = 1 ∧ (tokAt l t.at_).text = t.attr) ∧ chkT l t.at_ ts r
def chkG (l : List Tk) : Int → List (List Tst) → Int → Prop
  | last, [], r => r = last
  | last, g :: gs, r => g ≠ [] ∧ ∃ m, chkT l last g m ∧ chkG l m gs r
def chkI (l : List Tk) : Int → List Itm → Int → Prop
  | last, [], r => r = last
  | last, x :: xs, r => ((∃ j, x.kind = 1 + j ∧ kindsL[j]? = some (tokAt l x.at_).text) ∧ last < (x.at_ : Int)) ∧ ∃ m, chkG l x.at_ x.whn m ∧ chkI l m xs r
/-- These tokens stand in the list, rising, behind an offset. -/
structure Ahd (l : List Tk) (last : Int) (ts : List Tk) : Prop where
  mem : ∀ t ∈ ts, t ∈ l
  rise : Rising ts
  beh : ∀ t ∈ ts, last < (t.at_ : Int)
theorem Ahd.tl {l : List Tk} {last : Int} {u : Tk} {ts : List Tk} (h : Ahd l last (u :: ts)) : Ahd l u.at_ ts :=
  ⟨fun t ht => h.mem t (List.mem_cons_of_mem _ ht), (List.pairwise_cons.1 h.rise).2, fun t ht => by have := (List.pairwise_cons.1 h.rise).1 t ht; omega⟩
theorem chkT_of {l : List Tk} (hl : Rising l) : ∀ (g : List Tst) (ts us : List Tk) (last : Int), EL Et g ts → Ahd l last (ts ++ us) → ∃ m, chkT l last g m ∧ Ahd l m us
  | [], ts, us, last, h, ha => by
    cases h
    exact ⟨last, rfl, ha⟩
  | x :: g, ts, us, last, h, ha => by
    cases h with
    | cons h1 h2 =>
      obtain ⟨u, rfl, k1, k2, k3⟩ := h1
      rw [List.append_assoc, List.singleton_append] at ha
      obtain ⟨m, h3, h4⟩ := chkT_of hl g _ us _ h2 ha.tl
      have ht := tokAt_of hl (ha.mem u (List.mem_cons_self ..))
      refine ⟨m, ⟨⟨by rw [← k3]; exact ha.beh u (List.mem_cons_self ..), by rw [← k3, ht]; exact k1, by rw [← k3, ht]; exact k2⟩, by rw [← k3]; exact h3⟩, h4⟩
theorem chkG_of {l : List Tk} (hl : Rising l) : ∀ (gs : List (List Tst)) (ts us : List Tk) (last : Int), EL Er gs ts → Ahd l last (ts ++ us) → ∃ m, chkG l last gs m ∧ Ahd l m us
  | [], ts, us, last, h, ha => by
    cases h
    exact ⟨last, rfl, ha⟩
  | g :: gs, ts, us, last, h, ha => by
    cases h with
    | cons h1 h2 =>
      rw [List.append_assoc] at ha
      obtain ⟨m, h3, h4⟩ := chkT_of hl g _ _ _ h1.2 ha
      obtain ⟨n, h5, h6⟩ := chkG_of hl gs _ us _ h2 h4
      exact ⟨n, ⟨h1.1, m, h3, h5⟩, h6⟩
theorem chkI_of {l : List Tk} (hl : Rising l) : ∀ (xs : List Itm) (ts us : List Tk) (last : Int), EL Ei xs ts → Ahd l last (ts ++ us) → ∃ m, chkI l last xs m ∧ Ahd l m us
  | [], ts, us, last, h, ha => by
    cases h
    exact ⟨last, rfl, ha⟩
  | x :: xs, ts, us, last, h, ha => by
    cases h with
    | cons h1 h2 =>
      obtain ⟨u, q, rfl, k1, k2, k3, k4, k5⟩ := h1
      rw [List.append_assoc, List.cons_append] at ha
      have ht := tokAt_of hl (ha.mem u (List.mem_cons_self ..))
      obtain ⟨m, h3, h4⟩ := chkG_of hl x.whn _ _ _ k5 ha.tl
      obtain ⟨n, h5, h6⟩ := chkI_of hl xs _ us _ h2 h4
      have hk : kindc u.text ≠ 0 := by rw [k2]; exact k3
      obtain ⟨j, j1, j2⟩ := codeIn_at kindsL 1 u.text hk
      refine ⟨n, ⟨⟨⟨j, by rw [← k2]; exact j1, by rw [← k4, ht]; exact j2⟩, by rw [← k4]; exact ha.beh u (List.mem_cons_self ..)⟩, m, by rw [← k4]; exact h3, h5⟩, h6⟩
theorem offsets_law {s : Bytes} (h0 : (parse s).2.1 = 0) : (Lx.lex s).2.1 = 0 ∧ ∃ r, chkI (Lx.lex s).1 (-1) (parse s).1 r := by
  obtain ⟨l0, i0, _⟩ := parse_zero h0
  obtain ⟨_, cs, xs, g1, g2, g3, g4⟩ := items_ok _ _ _ _ _ i0
  rw [List.nil_append] at g4
  obtain ⟨ts, e1, e2⟩ := emits_segs g1
  rw [← g2] at e1
  obtain ⟨m, h1, _⟩ := chkI_of (Lx.lex_rising s) xs ts [] (-1) e2 (by
    rw [List.append_nil]
    exact ⟨fun t ht => e1.subset ht, (Lx.lex_rising s).sublist e1, fun t ht => by omega⟩)
  exact ⟨l0, m, by rw [g4]; exact h1⟩
end Rl
end Go.Proofs.YtmfjebpefneboaaDoor
