/-
  Plan: the plain law of PlanGaps; halls that are alike but for At.
-/
import Derived.Test.YtocadlcglgpdcaaDoorPoE
import Derived.Test.YtocadlcglgpdcaaDoorPnZ
namespace Go.Proofs.YtocadlcglgpdcaaDoor
set_option linter.unusedVariables false
open Lx (Tk)
namespace Lx
/-- Tokens, each followed by a line feed. -/
def spc (l : List Tk) : Bytes := l.flatMap fun t => t.text ++ [10]
/-- The tokens where they stand then. -/
def sp : Nat → List Tk → List Tk
  | _, [] => []
  | o, t :: r => { t with at_ := o } :: sp (o + t.text.length + 1) r
theorem spc_cons (t : Tk) (r : List Tk) : spc (t :: r) = t.text ++ 10 :: spc r := by simp [spc]
theorem sc_spc : ∀ (l : List Tk) (o : Nat), (∀ t ∈ l, One t) → sc o (spc l) = (sp o l).map (fun t => (t, 0))
  | [], o, _ => rfl
  | t :: r, o, h => by
    have h1 := sc_spc r (o + t.text.length + 1) (fun u hu => h u (by simp [hu]))
    have hs : Sep (10 :: spc r) := fun c q hc => by
      rw [List.cons.injEq] at hc
      rw [← hc.1]
      exact .inl (by decide)
    rw [spc_cons, sc_one (h t (by simp)) hs, sc_blank (by decide), h1]
    rfl
theorem sp_len : ∀ (l : List Tk) (o : Nat), (sp o l).length = l.length
  | [], _ => rfl
  | t :: r, o => by
    show (sp _ r).length + 1 = _
    rw [sp_len r]
    rfl
theorem sp_ren : ∀ (l : List Tk) (o : Nat), (sp o l).map (Rl.renT (fun _ => 0)) = l.map (Rl.renT (fun _ => 0))
  | [], _ => rfl
  | t :: r, o => by
    show _ :: (sp _ r).map _ = _ :: r.map _
    rw [sp_ren r]
    rfl
theorem sp_get : ∀ (l : List Tk) (o k : Nat) (v : Tk), (sp o l)[k]? = some v → v.at_ = o + (spc (l.take k)).length
  | [], o, k, v, h => by simp [sp] at h
  | t :: r, o, 0, v, h => by
    simp [sp] at h
    rw [← h]
    simp [spc]
  | t :: r, o, k + 1, v, h => by
    have h1 := sp_get r (o + t.text.length + 1) k v (by simpa [sp] using h)
    rw [List.take_succ_cons, spc_cons]
    simp
    omega
theorem spc_len (l : List Tk) : (spc l).length = (wr l).length := by
  induction l with
  | nil => rfl
  | cons t r ih =>
    rw [spc_cons]
    show _ = ((t.text ++ [32]) ++ wr r).length
    simp
    omega
theorem lex_spc {s : Bytes} (h0 : (lex s).2.1 = 0) (hs : s.length ≤ 2000) : (spc (lex s).1).length ≤ 4000 ∧ lex (spc (lex s).1) = (sp 0 (lex s).1, 0, 0) := by
  obtain ⟨l1, g1, g2, e1⟩ := lex_of_zero h0
  have hl : (lex s).1 = (sc 0 s).map Prod.fst := by rw [e1]
  have h1 : (spc (lex s).1).length ≤ 4000 := by
    rw [spc_len, hl]
    have := wr_len 0 s g1
    omega
  refine ⟨h1, ?_⟩
  have h2 : sc 0 (spc (lex s).1) = (sp 0 (lex s).1).map (fun t => (t, 0)) := sc_spc _ _ fun t ht => by
    rw [hl] at ht
    obtain ⟨x, hx, rfl⟩ := List.mem_map.1 ht
    exact sc_ones _ 0 s rfl x hx (good_iff.1 g1 x hx)
  have h3 : good (sc 0 (spc (lex s).1)) = true := by
    rw [h2]
    refine good_iff.2 fun x hx => ?_
    obtain ⟨y, _, rfl⟩ := List.mem_map.1 hx
    rfl
  rw [lex_zero' (by omega) h3 (by rw [h2, List.length_map, sp_len, hl, List.length_map]; exact g2), h2, List.map_map]
  simp [Function.comp_def]
end Lx
namespace Pn
open Rl (Out)
theorem simL_ren {α : Type} {f : α → α} {R : α → α → Prop} (h : ∀ x y, f x = f y → R x y) {l m : List α} (he : l.map f = m.map f) : SimL R l m := by
  refine ⟨by simpa using congrArg List.length he, fun i x y hx hy => h x y ?_⟩
  have := congrArg (fun z => z[i]?) he
  simpa [hx, hy] using this
theorem simR_ren (x y : Rw) (h : renR (fun _ => 0) x = renR (fun _ => 0) y) : SimR false x y := by
  simp only [renR, Rw.mk.injEq] at h
  exact ⟨⟨h.1, h.2.1, h.2.2.1, h.2.2.2.1, h.2.2.2.2.1, h.2.2.2.2.2.1, h.2.2.2.2.2.2.1⟩, fun h => by cases h⟩
theorem simB_ren (x y : Bl) (h : renB (fun _ => 0) x = renB (fun _ => 0) y) : SimB false x y := by
  simp only [renB, Bl.mk.injEq] at h
  exact ⟨⟨h.1, simL_ren simR_ren h.2.1⟩, fun h => by cases h⟩
theorem simA_ren (x y : Ar) (h : renA (fun _ => 0) x = renA (fun _ => 0) y) : SimA false x y := by
  simp only [renA, Ar.mk.injEq] at h
  exact ⟨⟨h.1, h.2.1, h.2.2.1⟩, fun h => by cases h⟩
theorem simV_ren (x y : Lv) (h : renL (fun _ => 0) x = renL (fun _ => 0) y) : SimV false x y := by
  simp only [renL, Lv.mk.injEq] at h
  exact ⟨⟨h.1, h.2.1, simL_ren simB_ren h.2.2.1, simL_ren simA_ren h.2.2.2.1, h.2.2.2.2.1, h.2.2.2.2.2.1, h.2.2.2.2.2.2.1⟩, fun h => by cases h⟩
theorem simH_ren (x y : Hl) (h : renH (fun _ => 0) x = renH (fun _ => 0) y) : SimH false x y := by
  simp only [renH, Hl.mk.injEq] at h
  exact ⟨h.1, h.2.1, h.2.2.1, simL_ren simV_ren h.2.2.2⟩
theorem SimL.refl {α : Type} {R : α → α → Prop} (h : ∀ x, R x x) (l : List α) : SimL R l l := ⟨rfl, fun i x y hx hy => by
  rw [hx] at hy
  cases hy
  exact h x⟩
theorem simR_refl (b : Bool) (x : Rw) : SimR b x x := ⟨⟨rfl, rfl, rfl, rfl, rfl, rfl, rfl⟩, fun _ => rfl⟩
theorem simB_refl (b : Bool) (x : Bl) : SimB b x x := ⟨⟨rfl, SimL.refl (simR_refl b) _⟩, fun _ => rfl⟩
theorem simA_refl (b : Bool) (x : Ar) : SimA b x x := ⟨⟨rfl, rfl, rfl⟩, fun _ => rfl⟩
theorem simV_refl (b : Bool) (x : Lv) : SimV b x x := ⟨⟨rfl, rfl, SimL.refl (simB_refl b) _, SimL.refl (simA_refl b) _, rfl, rfl, rfl⟩, fun _ => rfl⟩
theorem simH_refl (b : Bool) (x : Hl) : SimH b x x := ⟨rfl, rfl, rfl, SimL.refl (simV_refl b) _⟩
/-- Two lists of tokens that are alike but for where they stand: what the parser makes of them. -/
theorem hall_alike {l m : List Tk} (h : l.map (Rl.renT (fun _ => 0)) = m.map (Rl.renT (fun _ => 0))) :
    (∃ x y r q, hall l = .ok x r ∧ hall m = .ok y q ∧ renH (fun _ => 0) x = renH (fun _ => 0) y) ∨
    (∃ k, hall l = .bad 4 (l.drop k) ∧ hall m = .bad 4 (m.drop k) ∧ l.length = m.length) := by
  have h1 := eqv_hall (fun _ => 0) l
  have h2 := eqv_hall (fun _ => 0) m
  rw [← h, h1] at h2
  have hln : l.length = m.length := by simpa using congrArg List.length h
  cases hl : hall l with
  | ok x r =>
    rw [hl] at h2
    cases hm : hall m with
    | bad e q => rw [hm] at h2; cases h2
    | ok y q =>
      rw [hm] at h2
      simp only [Out.ren, Out.ok.injEq] at h2
      exact .inl ⟨x, y, r, q, rfl, rfl, h2.1⟩
  | bad e r =>
    rw [hl] at h2
    cases hm : hall m with
    | ok y q => rw [hm] at h2; cases h2
    | bad e' q =>
      rw [hm] at h2
      simp only [Out.ren, Out.bad.injEq] at h2
      have e4 := errs_hall _ _ _ hl
      have e4' := errs_hall _ _ _ hm
      have s1 := nice_hall.suf l
      rw [hl] at s1
      have s2 := nice_hall.suf m
      rw [hm] at s2
      have hlr : r.length = q.length := by simpa using congrArg List.length h2.2
      have t1 : r = l.drop (l.length - r.length) := List.suffix_iff_eq_drop.1 s1
      have t2 : q = m.drop (m.length - q.length) := List.suffix_iff_eq_drop.1 s2
      refine .inr ⟨l.length - r.length, ?_, ?_, hln⟩
      · rw [e4, ← t1]
      · rw [e4', hln, hlr, ← t2]
theorem parse_nil_at {en : Nat} {l : List Tk} (h : l = []) (x : Hl) : fin en (.bad 4 l) = (hl0, 7, (en : Int)) := by rw [h]; rfl
theorem gaps_law {s : Bytes} (h0 : (Lx.lex s).2.1 = 0) (hs : s.length ≤ 2000) :
    (parse s).2.1 = (parse (Lx.spc (Lx.lex s).1)).2.1 ∧ SimH false (parse s).1 (parse (Lx.spc (Lx.lex s).1)).1 ∧
    (((parse s).2.1 = 0 ∧ (parse s).2.2 = 0 ∧ (parse (Lx.spc (Lx.lex s).1)).2.2 = 0) ∨
     ((parse s).2.1 = 7 ∧ (parse s).2.2 = (s.length : Int) ∧ (parse (Lx.spc (Lx.lex s).1)).2.2 = ((Lx.spc (Lx.lex s).1).length : Int)) ∨
     ((parse s).2.1 = 4 ∧ ∃ k u, (Lx.lex s).1[k]? = some u ∧ (parse s).2.2 = (u.at_ : Int) ∧ (parse (Lx.spc (Lx.lex s).1)).2.2 = ((Lx.spc ((Lx.lex s).1.take k)).length : Int))) := by
  obtain ⟨b1, b2⟩ := Lx.lex_spc h0 hs
  rw [parse_of_lex h0, parse_of_lex (by rw [b2]), b2]
  obtain ⟨l, hl⟩ : ∃ l, l = (Lx.lex s).1 := ⟨_, rfl⟩
  rw [← hl]
  rcases hall_alike (l := l) (m := Lx.sp 0 l) (Lx.sp_ren l 0).symm with ⟨x, y, r, q, e1, e2, e3⟩ | ⟨k, e1, e2, e3⟩
  · simp only [e1, e2]
    exact ⟨rfl, simH_ren x y e3, .inl ⟨rfl, rfl, rfl⟩⟩
  · simp only [e1, e2]
    refine ⟨?_, simH_refl _ _, .inr ?_⟩
    · by_cases hk : l.length ≤ k
      · rw [List.drop_of_length_le hk, List.drop_of_length_le (by omega)]
        rfl
      · have n1 : l.drop k ≠ [] := by simp; omega
        have n2 : (Lx.sp 0 l).drop k ≠ [] := by simp; omega
        show Rl.code _ _ = Rl.code _ _
        unfold Rl.code
        rw [if_neg n1, if_neg n2]
    · by_cases hk : l.length ≤ k
      · rw [List.drop_of_length_le hk, List.drop_of_length_le (by omega)]
        exact .inl ⟨rfl, rfl, rfl⟩
      · right
        obtain ⟨u, hu⟩ : ∃ u, l[k]? = some u := ⟨l[k], by simp⟩
        obtain ⟨v, hv⟩ : ∃ v, (Lx.sp 0 l)[k]? = some v := ⟨(Lx.sp 0 l)[k]'(by omega), by simp⟩
        have hd1 := drop_cons hu
        have hd2 := drop_cons hv
        rw [hd1, hd2]
        refine ⟨rfl, k, u, hu, rfl, ?_⟩
        show ((v.at_ : Nat) : Int) = _
        rw [Lx.sp_get l 0 k v hv, Nat.zero_add]
end Pn
end Go.Proofs.YtocadlcglgpdcaaDoor
