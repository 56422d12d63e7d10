/-
  Rule, layer 4: ratio, after.
-/
import Derived.Test.YtmfjebpefneboaaDoorRlC
namespace Go.Proofs.YtmfjebpefneboaaDoor
set_option linter.unusedVariables false
set_option linter.unusedSimpArgs false
open Go Go.RowKit Go.Shelf
open Lx (Tk)

def RatV (p : Nat × Nat) (v : Value) (w : World) : Prop := v = .agg #[.int .i64 (p.1 : Int), .int .i64 (p.2 : Int)]
theorem chg1 {b : Nat} {w w1 w2 : World} (h : Chg [b] w w1) (h2 : Chg [b] w1 w2) : Chg [b] w w2 := h.trans h2 (by simp)
theorem chg01 {b : Nat} {w w1 w2 : World} (h : Chg [] w w1) (h2 : Chg [b] w1 w2) : Chg [b] w w2 := (h.mono (by simp)).trans h2 (by simp)
theorem chg10 {b : Nat} {w w1 w2 : World} (h : Chg [b] w w1) (h2 : Chg [] w1 w2) : Chg [b] w w2 := h.trans h2 (by simp)
theorem TxtV.nil (w : World) : TxtV w (.slice none 0 0) none := rfl
theorem fld1 (a b c d : Value) (w : World) : (Instr.field 44 (.agg #[a, b, c, d]) 1).run Tryd.prog w = .ok b w := by kernel_rfl
theorem fld2 (a b c d : Value) (w : World) : (Instr.field 44 (.agg #[a, b, c, d]) 2).run Tryd.prog w = .ok c w := by kernel_rfl
/-- The next token, or the panic. -/
theorem next_two {w : World} {b en : Nat} {l : List Tk} (HP : Hid (Par w b l en)) {k : Nat} {x : Option Bytes} {v : Value} (HV : Hid (TxtV w v x)) {R : Ending → World → Prop}
    (hok : ∀ (t : Tk) (r : List Tk) (w' : World), Hid (Rl.nxt k x l = .ok t r) → Hid (Par w' b r en) → Hid (Chg [b] w w') → R (.returned (.agg #[.int .i64 t.kind, .string ⟨t.text.toArray⟩, .int .i64 t.n, .int .i64 t.at_])) w')
    (hbad : ∀ (c : Nat) (r : List Tk) (w' : World), Hid (Rl.nxt k x l = .bad c r) → Hid (Chg [b] w w') → R (.panicked [{ v := flt c r en, recovered := false }]) w') :
    Calls Tryd.prog 36 #[.pointer (some ⟨b, 0, none⟩), .int .i64 (k : Int), v] w R := by
  refine (next_spec w b en l HP k x v HV).mono ?_
  rintro e w' ⟨hc, hr⟩
  cases hn : Rl.nxt k x l with
  | ok t r =>
    rw [hn] at hr
    obtain ⟨u, rfl, rfl, hp⟩ := hr
    exact hok t r w' (Lib.hid hn) (Lib.hid hp) (Lib.hid hc)
  | bad c r =>
    rw [hn] at hr
    subst hr
    exact hbad c r w' (Lib.hid hn) (Lib.hid hc)
theorem pbad {α : Type} {w w' : World} {b en : Nat} {V : α → Value → World → Prop} {O : Rl.Out α} {c : Nat} {r : List Tk} (hc : Chg [b] w w') (h : O = .bad c r) : PRes w b en V O (.panicked [{ v := flt c r en, recovered := false }]) w' := by
  subst h
  exact ⟨hc, rfl⟩
theorem pok {α : Type} {w w' : World} {b en : Nat} {V : α → Value → World → Prop} {O : Rl.Out α} {a : α} {r : List Tk} {v : Value} (hc : Chg [b] w w') (hp : Par w' b r en) (hv : V a v w') (h : O = .ok a r) : PRes w b en V O (.returned v) w' := by
  subst h
  exact ⟨hc, v, rfl, hv, hp⟩
/-- What a part hands back, by cases. -/
theorem pres_two {α : Type} {w w' : World} {b en : Nat} {V : α → Value → World → Prop} {O : Rl.Out α} {e : Ending} {R : Ending → World → Prop} (h : PRes w b en V O e w')
    (hok : ∀ (a : α) (r : List Tk) (v : Value), Hid (O = .ok a r) → Hid (Par w' b r en) → Hid (Chg [b] w w') → V a v w' → R (.returned v) w')
    (hbad : ∀ (c : Nat) (r : List Tk), Hid (O = .bad c r) → Hid (Chg [b] w w') → R (.panicked [{ v := flt c r en, recovered := false }]) w') : R e w' := by
  obtain ⟨hc, hr⟩ := h
  cases hn : O with
  | ok a r =>
    rw [hn] at hr
    obtain ⟨v, rfl, hv, hp⟩ := hr
    exact hok a r v (Lib.hid hn) (Lib.hid hp) (Lib.hid hc) hv
  | bad c r =>
    rw [hn] at hr
    subst hr
    exact hbad c r (Lib.hid hn) (Lib.hid hc)
theorem Par.setCell {w : World} {b en g i : Nat} {l : List Tk} {v : Value} (h : Par w b l en) (hg : b < g) : Par (w.setCell ⟨g, i, none⟩ v) b l en :=
  h.keep (own := [g]) ((Chg.refl _ _).setCell _ _ (.inl (by simp))) (fun k hk => by simp at hk; omega)
theorem Par.alloc {w : World} {b en : Nat} {l : List Tk} (h : Par w b l en) (o : Obj) : Par (w.alloc o) b l en := h.quiet ((Chg.refl _ _).alloc _)
set_option maxRecDepth 100000 in
theorem ratio_spec (w : World) (b en : Nat) (l : List Tk) (HP : Hid (Par w b l en)) :
    Calls Tryd.prog 52 #[.pointer (some ⟨b, 0, none⟩)] w fun e w' => PRes w b en RatV (Rl.ratio l) e w' := by
  obtain ⟨O, hO⟩ : ∃ O, O = Rl.ratio l := ⟨_, rfl⟩
  rw [← hO]
  have HO := Lib.hid hO
  clear hO
  have hf2 := fld2
  go_enter Tryd.func52, Tryd.ntmps52
  go_upto_region 1 with fail
  obtain ⟨W, hW⟩ : ∃ W, W = w.alloc (.cells #[.int .i64 0, .int .i64 0] 40) := ⟨_, rfl⟩
  rw [← hW]
  obtain ⟨B, hB⟩ : ∃ B, B = w.heap.size := ⟨_, rfl⟩
  rw [← hB]
  have HC0 : Hid (Chg [] w W) := Lib.hid (by rw [hW]; exact (Chg.refl _ _).alloc _)
  have HK0 : Hid (Blk W B [.int .i64 0, .int .i64 0] 40) := Lib.hid (by rw [hW, hB]; exact Blk.new w _ _)
  have HN : Hid (b < B ∧ w.heap.size ≤ B) := Lib.hid (by have := HP.out.lt; omega)
  have HP0 : Hid (Par W b l en) := Lib.hid (HP.out.quiet HC0.out)
  clear hW hB
  go_wp2_with fail
  refine next_two HP0 (Lib.hid (TxtV.nil _)) (fun t r w1 HN1 HP1 HC1 => ?_) (fun c r w1 HN1 HC1 => ?_)
  · go_wp2_with fail
    have HT : Hid (Chg [] w1 (w1.alloc (.cells #[.string ⟨#[47]⟩] 9))) := Lib.hid ((Chg.refl _ _).alloc _)
    refine next_two (Lib.hid (HP1.out.quiet HT.out)) (Lib.hid (TxtV.one w1 [47] 9 1)) (fun t2 r2 w2 HN2 HP2 HC2 => ?_) (fun c r2 w2 HN2 HC2 => ?_)
    · go_wp2_with fail
      refine next_two HP2 (Lib.hid (TxtV.nil _)) (fun t3 r3 w3 HN3 HP3 HC3 => ?_) (fun c r3 w3 HN3 HC3 => ?_)
      · have HC : Hid (Chg [b] W w3) := Lib.hid (chg1 (chg1 HC1.out (chg01 HT.out HC2.out)) HC3.out)
        have hk := HC.out.blk HK0.out (by have := HN.out.1; simp; omega)
        have HK := Lib.hid hk
        have x0 := hk.cell (i := 0) rfl
        have x1 := hk.cell (i := 1) rfl
        have f0 := hk.free 0
        have f1 := hk.free 1
        clear hk
        go_wp2_with fail
        refine bodyPost_ret (v := .agg #[.int .i64 t.n, .int .i64 t3.n]) (by simp [results, Tryd.results52, go_sem, x0, x1]) rfl (pok ?_ ((HP3.out.setCell HN.out.1).setCell HN.out.1) (a := (t.n, t3.n)) rfl ?_)
        · exact ((chg01 HC0.out HC.out).setCell _ _ (.inr HN.out.2)).setCell _ _ (.inr HN.out.2)
        · rw [HO.out]
          unfold Rl.ratio
          rw [HN1.out]
          simp only [Rl.Out.bind]
          rw [HN2.out]
          simp only
          rw [HN3.out]
      · go_wp2_with fail
        exact ⟨rfl, pbad (chg01 HC0.out (chg1 (chg1 HC1.out (chg01 HT.out HC2.out)) HC3.out)) (by rw [HO.out]; unfold Rl.ratio; rw [HN1.out]; simp only [Rl.Out.bind]; rw [HN2.out]; simp only; rw [HN3.out])⟩
    · go_wp2_with fail
      exact ⟨rfl, pbad (chg01 HC0.out (chg1 HC1.out (chg01 HT.out HC2.out))) (by rw [HO.out]; unfold Rl.ratio; rw [HN1.out]; simp only [Rl.Out.bind]; rw [HN2.out])⟩
  · go_wp2_with fail
    exact ⟨rfl, pbad (chg01 HC0.out HC1.out) (by rw [HO.out]; unfold Rl.ratio; rw [HN1.out]; rfl)⟩
/-- A ratio, by cases. -/
theorem ratio_two {w : World} {b en : Nat} {l : List Tk} (HP : Hid (Par w b l en)) {R : Ending → World → Prop}
    (hok : ∀ (n d : Nat) (r : List Tk) (w' : World), Hid (Rl.ratio l = .ok (n, d) r) → Hid (Par w' b r en) → Hid (Chg [b] w w') → R (.returned (.agg #[.int .i64 n, .int .i64 d])) w')
    (hbad : ∀ (c : Nat) (r : List Tk) (w' : World), Hid (Rl.ratio l = .bad c r) → Hid (Chg [b] w w') → R (.panicked [{ v := flt c r en, recovered := false }]) w') :
    Calls Tryd.prog 52 #[.pointer (some ⟨b, 0, none⟩)] w R := by
  refine (ratio_spec w b en l HP).mono ?_
  rintro e w' h
  refine pres_two h (fun a r v h1 h2 h3 h4 => ?_) (fun c r h1 h2 => hbad c r w' h1 h2)
  obtain ⟨n, d⟩ := a
  have h4 : v = .agg #[.int .i64 n, .int .i64 d] := h4
  subst h4
  exact hok n d r w' h1 h2 h3
set_option maxRecDepth 100000 in
theorem after_spec (w : World) (b en : Nat) (l : List Tk) (s : Bytes) (HP : Hid (Par w b l en)) :
    Calls Tryd.prog 53 #[.pointer (some ⟨b, 0, none⟩), .string ⟨s.toArray⟩] w fun e w' => PRes w b en RatV (Rl.after s l) e w' := by
  obtain ⟨O, hO⟩ : ∃ O, O = Rl.after s l := ⟨_, rfl⟩
  rw [← hO]
  have HO := Lib.hid hO
  clear hO
  go_enter Tryd.func53, Tryd.ntmps53
  go_upto_region 1 with fail
  obtain ⟨W, hW⟩ : ∃ W, W = w.alloc (.cells #[.int .i64 0, .int .i64 0] 40) := ⟨_, rfl⟩
  rw [← hW]
  obtain ⟨B, hB⟩ : ∃ B, B = w.heap.size := ⟨_, rfl⟩
  rw [← hB]
  have HC0 : Hid (Chg [] w W) := Lib.hid (by rw [hW]; exact (Chg.refl _ _).alloc _)
  have HK0 : Hid (Blk W B [.int .i64 0, .int .i64 0] 40) := Lib.hid (by rw [hW, hB]; exact Blk.new w _ _)
  have HN : Hid (b < B ∧ w.heap.size ≤ B) := Lib.hid (by have := HP.out.lt; omega)
  have HP0 : Hid (Par W b l en) := Lib.hid (HP.out.quiet HC0.out)
  clear hW hB
  go_wp2_with fail
  have HT : Hid (Chg [] W (W.alloc (.cells #[.string ⟨s.toArray⟩] 9))) := Lib.hid ((Chg.refl _ _).alloc _)
  refine next_two (Lib.hid (HP0.out.quiet HT.out)) (Lib.hid (TxtV.one W s 9 1)) (fun t r w1 HN1 HP1 HC1 => ?_) (fun c r w1 HN1 HC1 => ?_)
  · go_wp2_with fail
    refine ratio_two HP1 (fun n d r2 w2 HN2 HP2 HC2 => ?_) (fun c r2 w2 HN2 HC2 => ?_)
    · have HC : Hid (Chg [b] W w2) := Lib.hid (chg1 (chg01 HT.out HC1.out) HC2.out)
      have hk := HC.out.blk HK0.out (by have := HN.out.1; simp; omega)
      have HK := Lib.hid hk
      have x0 := hk.cell (i := 0) rfl
      have x1 := hk.cell (i := 1) rfl
      have f0 := hk.free 0
      have f1 := hk.free 1
      clear hk
      go_wp2_with fail
      refine bodyPost_ret (v := .agg #[.int .i64 n, .int .i64 d]) (by simp [results, Tryd.results53, go_sem, x0, x1]) rfl (pok ?_ ((HP2.out.setCell HN.out.1).setCell HN.out.1) (a := (n, d)) rfl ?_)
      · exact ((chg01 HC0.out HC.out).setCell _ _ (.inr HN.out.2)).setCell _ _ (.inr HN.out.2)
      · rw [HO.out]
        unfold Rl.after
        rw [HN1.out]
        exact HN2.out
    · go_wp2_with fail
      exact ⟨rfl, pbad (chg01 HC0.out (chg1 (chg01 HT.out HC1.out) HC2.out)) (by rw [HO.out]; unfold Rl.after; rw [HN1.out]; exact HN2.out)⟩
  · go_wp2_with fail
    exact ⟨rfl, pbad (chg01 HC0.out (chg01 HT.out HC1.out)) (by rw [HO.out]; unfold Rl.after; rw [HN1.out]; rfl)⟩
theorem after_two {w : World} {b en : Nat} {l : List Tk} (HP : Hid (Par w b l en)) (s : Bytes) {R : Ending → World → Prop}
    (hok : ∀ (n d : Nat) (r : List Tk) (w' : World), Hid (Rl.after s l = .ok (n, d) r) → Hid (Par w' b r en) → Hid (Chg [b] w w') → R (.returned (.agg #[.int .i64 n, .int .i64 d])) w')
    (hbad : ∀ (c : Nat) (r : List Tk) (w' : World), Hid (Rl.after s l = .bad c r) → Hid (Chg [b] w w') → R (.panicked [{ v := flt c r en, recovered := false }]) w') :
    Calls Tryd.prog 53 #[.pointer (some ⟨b, 0, none⟩), .string ⟨s.toArray⟩] w R := by
  refine (after_spec w b en l s HP).mono ?_
  rintro e w' h
  refine pres_two h (fun a r v h1 h2 h3 h4 => ?_) (fun c r h1 h2 => hbad c r w' h1 h2)
  obtain ⟨n, d⟩ := a
  have h4 : v = .agg #[.int .i64 n, .int .i64 d] := h4
  subst h4
  exact hok n d r w' h1 h2 h3
end Go.Proofs.YtmfjebpefneboaaDoor
