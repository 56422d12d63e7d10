/-
  Plan, layer 2: the parser in memory; fail, at, take, is, must.
-/
import Derived.Test.YtocadlcglgpdcaaDoorPnA
import Derived.Test.YtocadlcglgpdcaaDoorLxI
import Derived.Recover
import Derived.Deep.DrawnRows
import Derived.Deep.RegionHeld3
namespace Go.Proofs.YtocadlcglgpdcaaDoor
set_option linter.unusedVariables false
set_option linter.unusedSimpArgs false
open Go Go.RowKit Go.Shelf
open Lx (Tk)

theorem TokS.keep {w w' : World} {ao : Option Addr} {m cap : Nat} {l : List Tk} {own : List Nat} (h : TokS w (.slice ao m cap) l) (hc : Chg own w w') (ho : l ≠ [] → ∀ ad, ao = some ad → ad.block ∉ own) : TokS w' (.slice ao m cap) l := by
  obtain ⟨ao', cap', h1, h2, h3⟩ := h
  cases h1
  refine ⟨ao, cap, rfl, h2, fun i t ht => ?_⟩
  obtain ⟨g, off, h4, h5, h6, h7, h8⟩ := h3 i t ht
  have hg := hc.block g (World.block_lt_of_cell? _ _ h5) (ho (by rintro rfl; simp at ht) _ h4)
  exact ⟨g, off, h4, (World.cell?_of_block (a := ⟨g, off + 4 * i, none⟩) hg).trans h5, (World.cell?_of_block (a := ⟨g, off + 4 * i + 1, none⟩) hg).trans h6, (World.cell?_of_block (a := ⟨g, off + 4 * i + 2, none⟩) hg).trans h7, (World.cell?_of_block (a := ⟨g, off + 4 * i + 3, none⟩) hg).trans h8⟩
theorem cell_quiet {w w' : World} {own : List Nat} (hc : Chg own w w') {a : Addr} {v : Value} (h : w.cell? a = some v) (hn : a.block ∉ own) : w'.cell? a = some v :=
  (World.cell?_of_block (hc.block a.block (World.block_lt_of_cell? _ _ h) hn)).trans h
theorem chg_drewN (w : World) (n : Nat) : Chg [] w (w.drewN n) := ⟨rfl, rfl, rfl, Nat.le_refl _, fun _ _ _ => rfl⟩
/-- A parser at block b: the tokens that are left (of all of them, with what is read already), and the length of the text. The tokens lie below it. -/
def Pp (w : World) (b : Nat) (l : List Tk) (en : Nat) : Prop := ∃ (L : List Tk) (i : Nat) (ao : Option Addr) (cap : Nat), l = L.drop i ∧ i ≤ L.length ∧ L.length ≤ 1000000 ∧ Blk w b [.slice ao L.length cap, .int .i64 (i : Int), .int .i64 (en : Int)] 69 ∧ TokS w (.slice ao L.length cap) L ∧ (L ≠ [] → ∀ ad, ao = some ad → ad.block < b)
theorem Pp.keep {w w' : World} {b en : Nat} {l : List Tk} {own : List Nat} (h : Pp w b l en) (hc : Chg own w w') (ho : ∀ k ∈ own, b < k) : Pp w' b l en := by
  obtain ⟨L, i, ao, cap, e1, e2, e3, h1, h2, h3⟩ := h
  refine ⟨L, i, ao, cap, e1, e2, e3, hc.blk h1 (fun hm => Nat.lt_irrefl _ (ho b hm)), h2.keep hc (fun hl ad ha hm => ?_), h3⟩
  have h4 := h3 hl ad ha
  have h5 := ho _ hm
  omega
theorem Pp.quiet {w w' : World} {b en : Nat} {l : List Tk} (h : Pp w b l en) (hc : Chg [] w w') : Pp w' b l en := h.keep hc (by simp)
theorem Pp.lt {w : World} {b en : Nat} {l : List Tk} (h : Pp w b l en) : b < w.heap.size := by
  obtain ⟨L, i, ao, cap, e1, e2, e3, h1, _⟩ := h
  exact h1.lt
/-- The parser's cells, all tokens read. -/
theorem Pp.nil {w : World} {b en : Nat} (h : Pp w b [] en) : ∃ n ao cap, Blk w b [.slice ao n cap, .int .i64 (n : Int), .int .i64 (en : Int)] 69 := by
  obtain ⟨L, i, ao, cap, e1, e2, e3, h1, _⟩ := h
  have : i = L.length := by
    have := congrArg List.length e1
    simp at this
    omega
  subst this
  exact ⟨_, ao, cap, h1⟩
/-- The parser's cells, and those of the next token. -/
theorem Pp.cons {w : World} {b en : Nat} {t : Tk} {r : List Tk} (h : Pp w b (t :: r) en) : ∃ (n i g off cap : Nat), i < n ∧ n ≤ 1000000 ∧ Blk w b [.slice (some ⟨g, off, none⟩) n cap, .int .i64 (i : Int), .int .i64 (en : Int)] 69 ∧ n ≤ cap ∧ g < b ∧
    (w.cell? ⟨g, off + i * 4, none⟩ = some (.int .i64 t.kind) ∧ w.cell? ⟨g, off + i * 4 + 1, none⟩ = some (.string ⟨t.text.toArray⟩) ∧ w.cell? ⟨g, off + i * 4 + 2, none⟩ = some (.int .i64 t.n) ∧ w.cell? ⟨g, off + i * 4 + 3, none⟩ = some (.int .i64 t.at_)) ∧
    ∀ w', Chg [b] w w' → Blk w' b [.slice (some ⟨g, off, none⟩) n cap, .int .i64 ((i : Int) + 1), .int .i64 (en : Int)] 69 → Pp w' b r en := by
  obtain ⟨L, i, ao, cap, e1, e2, e3, h1, h2, h3⟩ := h
  have hg : L[i]? = some t := by
    have := congrArg (fun x => x[0]?) e1
    simpa using this.symm
  have hi : i < L.length := (List.getElem?_eq_some_iff.1 hg).1
  have hr : r = L.drop (i + 1) := by
    have := congrArg List.tail e1
    simpa using this
  obtain ⟨ao', cap', he, h4, h5⟩ := h2
  cases he
  obtain ⟨g, off, rfl, k0, k1, k2, k3⟩ := h5 i t hg
  have hln : L ≠ [] := fun e => by rw [e] at hi; simp at hi
  have hgb : g < b := h3 hln ⟨g, off, none⟩ rfl
  rw [Nat.mul_comm 4 i] at k0 k1 k2 k3
  refine ⟨L.length, i, g, off, cap, hi, e3, h1, h4, hgb, ⟨k0, k1, k2, k3⟩, fun w' hc hb => ⟨L, i + 1, some ⟨g, off, none⟩, cap, hr, hi, e3, hb, ?_, h3⟩⟩
  exact TokS.keep ⟨_, _, rfl, h4, h5⟩ hc (fun _ ad ha => by cases ha; show g ∉ [b]; simp only [List.mem_cons, List.not_mem_nil, or_false]; exact Nat.ne_of_lt hgb)
/-- The panic that an error becomes. -/
def flt (e : Nat) (r : List Tk) (en : Nat) : Value := .iface 66 (.agg #[.int .i64 (Rl.code e r : Int), .int .i64 (Rl.place en r : Int)])
/-- What a part of the parser hands back. -/
def PRes {α : Type} (w : World) (b en : Nat) (V : α → Value → World → Prop) (o : Rl.Out α) (e : Ending) (w' : World) : Prop :=
  Chg [b] w w' ∧ match o with
  | .ok a r => ∃ v, e = .returned v ∧ V a v w' ∧ Pp w' b r en
  | .bad c r => e = .panicked [{ v := flt c r en, recovered := false }]
theorem fail_spec (w : World) (b en : Nat) (l : List Tk) (HP : Hid (Pp w b l en)) :
    Calls Tryd.prog 24 #[.pointer (some ⟨b, 0, none⟩)] w fun x w' => x = .panicked [{ v := flt 4 l en, recovered := false }] ∧ Chg [] w w' := by
  go_enter Tryd.func24, Tryd.ntmps24
  cases l with
  | nil =>
    obtain ⟨n, ao, cap, hb⟩ := HP.out.nil
    have c0 := hb.cell (i := 0) rfl
    have c1 := hb.cell (i := 1) rfl
    have c2 := hb.cell (i := 2) rfl
    have n0 : ((n : Int) == (n : Int)) = true := beq_self_eq_true _
    clear hb
    go_upto_region 0 with fail
    go_quiet (fail)
    go_wp2_with fail
    exact ⟨rfl, rfl, chg_drewN _ _⟩
  | cons t r =>
    obtain ⟨n, i, g, off, cap, hi, hn, hb, hcap, hgb, ⟨k0, k1, k2, k3⟩, -⟩ := HP.out.cons
    have c0 := hb.cell (i := 0) rfl
    have c1 := hb.cell (i := 1) rfl
    have n0 : ((i : Int) == (n : Int)) = false := beq_eq_false_iff_ne.2 (by omega)
    have n1 : (0 : Int) ≤ (i : Int) := by omega
    have n2 : (i : Int) < (n : Int) := by omega
    have n3 : ((i : Int)).toNat = i := by omega
    have HB0 := Lib.hid c0
    have HB1 := Lib.hid c1
    have HK3 := Lib.hid k3
    clear hb
    go_upto_region 0 with fail
    go_quiet (fail)
    go_upto_region 2 with fail
    clear c0 c1 k0 k1 k2 k3
    refine wp_region_held_drew (S := fun W' => Chg [] w W') (by kernel_rfl) ?hs0 (fun hHeld => ?_)
    case hs0 => exact (chg_drewN _ _).drew
    refine wpAnyH_take (i := 0) (v := ?vq0) rfl (by kernel_rfl) (by kernel_rfl) (by kernel_rfl) (fun _ _ _ h => h) (Or.inl ⟨by kernel_rfl, ?hyq0⟩) (by assumption) ?rsq0
    case hyq0 => (intro w9 hSw; skip; go_simp; try with_reducible rfl)
    try simp only [Act.put, List.setIfInBounds_toArray, List.set_cons_zero, List.set_cons_succ, List.getElem_toArray, List.getElem_cons_succ, List.getElem_cons_zero]
    refine wpAnyH_take (i := 1) (v := ?vq1) rfl (by kernel_rfl) (by kernel_rfl) (by kernel_rfl) (fun _ _ _ h => h) (Or.inl ⟨by kernel_rfl, ?hyq1⟩) (by assumption) ?rsq1
    case hyq1 => (intro w9 hSw; skip; go_simp; try with_reducible rfl)
    try simp only [Act.put, List.setIfInBounds_toArray, List.set_cons_zero, List.set_cons_succ, List.getElem_toArray, List.getElem_cons_succ, List.getElem_cons_zero]
    refine wpAnyH_take (i := 2) (v := ?vq2) rfl (by kernel_rfl) (by kernel_rfl) (by kernel_rfl) (fun _ _ _ h => h) (Or.inl ⟨by kernel_rfl, ?hyq2⟩) (by assumption) ?rsq2
    case hyq2 => (intro w9 hSw; skip; go_simp; try with_reducible rfl)
    try simp only [Act.put, List.setIfInBounds_toArray, List.set_cons_zero, List.set_cons_succ, List.getElem_toArray, List.getElem_cons_succ, List.getElem_cons_zero]
    refine wpAnyH_take (i := 3) (v := ?vq3) rfl (by kernel_rfl) (by kernel_rfl) (by kernel_rfl) (fun _ _ _ h => h) (Or.inl ⟨by kernel_rfl, ?hyq3⟩) (by assumption) ?rsq3
    case hyq3 => (intro w9 hSw; have e0 := cell_quiet hSw HB0.out (by simp); go_simp; try with_reducible rfl)
    try simp only [Act.put, List.setIfInBounds_toArray, List.set_cons_zero, List.set_cons_succ, List.getElem_toArray, List.getElem_cons_succ, List.getElem_cons_zero]
    refine wpAnyH_take (i := 4) (v := ?vq4) rfl (by kernel_rfl) (by kernel_rfl) (by kernel_rfl) (fun _ _ _ h => h) (Or.inl ⟨by kernel_rfl, ?hyq4⟩) (by assumption) ?rsq4
    case hyq4 => (intro w9 hSw; skip; go_simp; try with_reducible rfl)
    try simp only [Act.put, List.setIfInBounds_toArray, List.set_cons_zero, List.set_cons_succ, List.getElem_toArray, List.getElem_cons_succ, List.getElem_cons_zero]
    refine wpAnyH_take (i := 5) (v := ?vq5) rfl (by kernel_rfl) (by kernel_rfl) (by kernel_rfl) (fun _ _ _ h => h) (Or.inl ⟨by kernel_rfl, ?hyq5⟩) (by assumption) ?rsq5
    case hyq5 => (intro w9 hSw; skip; go_simp; try with_reducible rfl)
    try simp only [Act.put, List.setIfInBounds_toArray, List.set_cons_zero, List.set_cons_succ, List.getElem_toArray, List.getElem_cons_succ, List.getElem_cons_zero]
    refine wpAnyH_take (i := 6) (v := ?vq6) rfl (by kernel_rfl) (by kernel_rfl) (by kernel_rfl) (fun _ _ _ h => h) (Or.inl ⟨by kernel_rfl, ?hyq6⟩) (by assumption) ?rsq6
    case hyq6 => (intro w9 hSw; skip; go_simp; try with_reducible rfl)
    try simp only [Act.put, List.setIfInBounds_toArray, List.set_cons_zero, List.set_cons_succ, List.getElem_toArray, List.getElem_cons_succ, List.getElem_cons_zero]
    refine wpAnyH_take (i := 7) (v := ?vq7) rfl (by kernel_rfl) (by kernel_rfl) (by kernel_rfl) (fun _ _ _ h => h) (Or.inl ⟨by kernel_rfl, ?hyq7⟩) (by assumption) ?rsq7
    case hyq7 => (intro w9 hSw; have e0 := cell_quiet hSw HB1.out (by simp); go_simp; try with_reducible rfl)
    try simp only [Act.put, List.setIfInBounds_toArray, List.set_cons_zero, List.set_cons_succ, List.getElem_toArray, List.getElem_cons_succ, List.getElem_cons_zero]
    refine wpAnyH_take (i := 8) (v := ?vq8) rfl (by kernel_rfl) (by kernel_rfl) (by kernel_rfl) (fun _ _ _ h => h) (Or.inl ⟨by kernel_rfl, ?hyq8⟩) (by assumption) ?rsq8
    case hyq8 => (intro w9 hSw; skip; go_simp; try with_reducible rfl)
    try simp only [Act.put, List.setIfInBounds_toArray, List.set_cons_zero, List.set_cons_succ, List.getElem_toArray, List.getElem_cons_succ, List.getElem_cons_zero]
    refine wpAnyH_take (i := 9) (v := ?vq9) rfl (by kernel_rfl) (by kernel_rfl) (by kernel_rfl) (fun _ _ _ h => h) (Or.inl ⟨by kernel_rfl, ?hyq9⟩) (by assumption) ?rsq9
    case hyq9 => (intro w9 hSw; skip; go_simp; try with_reducible rfl)
    try simp only [Act.put, List.setIfInBounds_toArray, List.set_cons_zero, List.set_cons_succ, List.getElem_toArray, List.getElem_cons_succ, List.getElem_cons_zero]
    refine wpAnyH_take (i := 10) (v := ?vq10) rfl (by kernel_rfl) (by kernel_rfl) (by kernel_rfl) (fun _ _ _ h => h) (Or.inl ⟨by kernel_rfl, ?hyq10⟩) (by assumption) ?rsq10
    case hyq10 => (intro w9 hSw; have e0 := cell_quiet hSw HK3.out (by simp); go_simp; try with_reducible rfl)
    try simp only [Act.put, List.setIfInBounds_toArray, List.set_cons_zero, List.set_cons_succ, List.getElem_toArray, List.getElem_cons_succ, List.getElem_cons_zero]
    refine wpAnyH_take (i := 11) (v := ?vq11) rfl (by kernel_rfl) (by kernel_rfl) (by kernel_rfl) (fun _ _ _ h => h) (Or.inl ⟨by kernel_rfl, ?hyq11⟩) (by assumption) ?rsq11
    case hyq11 => (intro w9 hSw; skip; go_simp; try with_reducible rfl)
    try simp only [Act.put, List.setIfInBounds_toArray, List.set_cons_zero, List.set_cons_succ, List.getElem_toArray, List.getElem_cons_succ, List.getElem_cons_zero]
    refine wpAnyH_take (i := 12) (v := ?vq12) rfl (by kernel_rfl) (by kernel_rfl) (by kernel_rfl) (fun _ _ _ h => h) (Or.inl ⟨by kernel_rfl, ?hyq12⟩) (by assumption) ?rsq12
    case hyq12 => (intro w9 hSw; skip; go_simp; try with_reducible rfl)
    try simp only [Act.put, List.setIfInBounds_toArray, List.set_cons_zero, List.set_cons_succ, List.getElem_toArray, List.getElem_cons_succ, List.getElem_cons_zero]
    refine wpAnyH_ready (rs := [13]) (by kernel_rfl) (by simp) (AllReadyH.cons rfl (fun K hK => ?_) AllReadyH.nil)
    go_simp
    exact ⟨rfl, rfl, hHeld⟩
end Go.Proofs.YtocadlcglgpdcaaDoor
