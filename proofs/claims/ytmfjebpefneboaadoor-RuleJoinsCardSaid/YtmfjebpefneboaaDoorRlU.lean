/-
  Rule: the plain law of RuleGaps.
-/
import Derived.Test.YtmfjebpefneboaaDoorRlT
namespace Go.Proofs.YtmfjebpefneboaaDoor
set_option linter.unusedVariables false
open Lx (Tk)
namespace Lx
/-- The text with a gap in front of each of these tokens; it begins at the offset o. -/
def wid (G : Bytes) : Nat → Bytes → List Tk → Bytes
  | _, s, [] => s
  | o, s, t :: l => s.take (t.at_ - o) ++ (G ++ wid G t.at_ (s.drop (t.at_ - o)) l)
def bz (l : List (Tk × Nat)) : List (Nat × Bytes × Nat) := l.map fun x => bare x.1
theorem bz_shift (d : Nat) (l : List (Tk × Nat)) : bz (l.map (shift d)) = bz l := by
  unfold bz
  rw [List.map_map]
  rfl
theorem sc_off0 (o : Nat) (s : Bytes) : sc o s = (sc 0 s).map (shift o) := by
  have := sc_shift o 0 s
  rwa [Nat.zero_add] at this
theorem bz_off (o : Nat) (s : Bytes) : bz (sc o s) = bz (sc 0 s) := by rw [sc_off0, bz_shift]
theorem good_off (o : Nat) (s : Bytes) : good (sc o s) = good (sc 0 s) := by rw [sc_off0, good_shift]
theorem gap_by {g : Bytes} (h : sc 0 g = []) (o : Nat) (r : Bytes) : sc o (10 :: (g ++ [10]) ++ r) = sc (o + 1 + g.length + 1) r := by
  have h1 : sc (o + 1) g = [] := by rw [sc_off0, h]; rfl
  rw [List.cons_append, sc_blank (by decide), List.append_assoc, List.singleton_append, sc_join, h1]
  rfl
theorem good_app {a b : List (Tk × Nat)} : good (a ++ b) = true ↔ good a = true ∧ good b = true := by
  unfold good
  rw [List.all_append, Bool.and_eq_true]
theorem wid_law {g : Bytes} (hg : sc 0 g = []) : ∀ (q : List (Tk × Nat)) (o : Nat) (s : Bytes) (p : List (Tk × Nat)), sc o s = p ++ q → good (p ++ q) = true →
    good (sc o (wid (10 :: (g ++ [10])) o s (q.map Prod.fst))) = true ∧ bz (sc o (wid (10 :: (g ++ [10])) o s (q.map Prod.fst))) = bz (p ++ q)
  | [], o, s, p, h, hh => by
    rw [List.map_nil, wid, h]
    exact ⟨hh, rfl⟩
  | (t, e) :: q, o, s, p, h, hh => by
    obtain ⟨i, h1, h2, h3, h4⟩ := sc_swap o s p t e q h (good_app.1 hh).1
    have hi : t.at_ - o = i := by omega
    rw [List.map_cons]
    unfold wid
    simp only
    rw [hi]
    have hb := h3 (10 :: (g ++ [10]) ++ wid (10 :: (g ++ [10])) t.at_ (s.drop i) (q.map Prod.fst)) (fun d r hd => .inl (by
      rw [List.cons_append, List.cons.injEq] at hd
      rw [← hd.1]
      decide))
    rw [hb, gap_by hg]
    have ih := wid_law hg q t.at_ (s.drop i) [(t, e)] (by rw [h1]; exact h4) (by have := (good_app.1 hh).2; exact this)
    rw [good_off, bz_off] at ih
    refine ⟨good_app.2 ⟨(good_app.1 hh).1, by rw [good_off]; exact ih.1⟩, ?_⟩
    unfold bz at ih ⊢
    rw [List.map_append, List.map_append]
    congr 1
    have h9 := bz_off (o + i + 1 + g.length + 1) (wid (10 :: (g ++ [10])) t.at_ (s.drop i) (q.map Prod.fst))
    unfold bz at h9
    rw [h9, ih.2]
    rfl
theorem wid_len (G : Bytes) : ∀ (l : List Tk) (o : Nat) (s : Bytes), (wid G o s l).length = s.length + l.length * G.length
  | [], o, s => by simp [wid]
  | t :: l, o, s => by
    unfold wid
    rw [List.length_append, List.length_append, wid_len G l, List.length_take, List.length_drop, List.length_cons, Nat.succ_mul]
    omega
theorem bare_ren {a b : List Tk} (h : a.map bare = b.map bare) : a.map (Rl.renT (fun _ => 0)) = b.map (Rl.renT (fun _ => 0)) := by
  have hf : ∀ t : Tk, Rl.renT (fun _ => 0) t = (fun z : Nat × Bytes × Nat => (⟨z.1, z.2.1, z.2.2, 0⟩ : Tk)) (bare t) := fun t => rfl
  have h2 := congrArg (List.map (fun z : Nat × Bytes × Nat => (⟨z.1, z.2.1, z.2.2, 0⟩ : Tk))) h
  rw [List.map_map, List.map_map] at h2
  exact h2
end Lx
namespace Rl
/-- Tokens that are alike apart from their offsets: the same rules apart from offsets, or the same error. -/
theorem parse_alike {s m : Bytes} (h0 : (Lx.lex s).2.1 = 0) (h1 : (Lx.lex m).2.1 = 0) (h : (Lx.lex m).1.map (renT (fun _ => 0)) = (Lx.lex s).1.map (renT (fun _ => 0))) :
    (parse m).2.1 = (parse s).2.1 ∧ (parse m).1.map (renI (fun _ => 0)) = (parse s).1.map (renI (fun _ => 0)) := by
  have e1 := eqv_items (fun _ => 0) 200 [] (Lx.lex s).1
  have e2 := eqv_items (fun _ => 0) 200 [] (Lx.lex m).1
  rw [h, e1] at e2
  rw [parse_of_lex h0, parse_of_lex h1]
  cases k1 : items 200 [] (Lx.lex s).1 with
  | ok z r =>
    cases k2 : items 200 [] (Lx.lex m).1 with
    | ok y q =>
      rw [k1, k2] at e2
      simp only [Out.ren, Out.ok.injEq] at e2
      exact ⟨rfl, e2.1.symm⟩
    | bad c q =>
      rw [k1, k2] at e2
      simp [Out.ren] at e2
  | bad d r =>
    cases k2 : items 200 [] (Lx.lex m).1 with
    | ok y q =>
      rw [k1, k2] at e2
      simp [Out.ren] at e2
    | bad c q =>
      rw [k1, k2] at e2
      simp only [Out.ren, Out.bad.injEq] at e2
      refine ⟨?_, rfl⟩
      have hne : r = [] ↔ q = [] := by rw [← List.map_eq_nil_iff (f := renT fun _ => 0), e2.2, List.map_eq_nil_iff]
      have hc : code d r = code c q := by
        unfold code
        rw [e2.1]
        cases r with
        | nil => rw [hne.1 rfl]
        | cons a r' => cases q with
          | nil => exact absurd (hne.2 rfl) (by simp)
          | cons b q' => rfl
      exact hc.symm
theorem gaps_law {s g : Bytes} (hgap : Lx.sc 0 g = []) (h0 : (Lx.lex s).2.1 = 0) (hm : (Lx.wid (10 :: (g ++ [10])) 0 s (Lx.lex s).1).length ≤ 20000) :
    (parse (Lx.wid (10 :: (g ++ [10])) 0 s (Lx.lex s).1)).2.1 = (parse s).2.1 ∧ (parse (Lx.wid (10 :: (g ++ [10])) 0 s (Lx.lex s).1)).1.map (renI (fun _ => 0)) = (parse s).1.map (renI (fun _ => 0)) := by
  obtain ⟨_, a1, a2, a3⟩ := Lx.lex_of_zero h0
  have hl : (Lx.lex s).1 = (Lx.sc 0 s).map Prod.fst := by rw [a3]
  obtain ⟨b1, b2⟩ := Lx.wid_law hgap (Lx.sc 0 s) 0 s [] (by rw [List.nil_append]) (by rw [List.nil_append]; exact a1)
  rw [hl] at hm ⊢
  have hln := congrArg List.length b2
  unfold Lx.bz at hln
  rw [List.length_map, List.length_map, List.nil_append] at hln
  have hz := Lx.lex_zero' hm b1 (by omega)
  refine parse_alike h0 (by rw [hz]) ?_
  rw [hz, hl]
  apply Lx.bare_ren
  unfold Lx.bz at b2
  rw [List.map_map, List.map_map]
  rw [List.nil_append] at b2
  exact b2
end Rl
end Go.Proofs.YtmfjebpefneboaaDoor
