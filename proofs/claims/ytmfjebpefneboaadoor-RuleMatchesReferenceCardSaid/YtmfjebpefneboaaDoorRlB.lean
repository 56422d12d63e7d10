/-
  Rule, layer 2: the parser in memory; peek, fail, next, skip.
-/
import Derived.Test.YtmfjebpefneboaaDoorRlA
import Derived.Test.YtmfjebpefneboaaDoorLxI
import Derived.Recover
namespace Go.Proofs.YtmfjebpefneboaaDoor
set_option linter.unusedVariables false
set_option linter.unusedSimpArgs false
open Go Go.RowKit Go.Shelf
open Lx (Tk)

/-- A parser at block b: the tokens that are left, and the length of the text. The tokens lie below it. -/
def Par (w : World) (b : Nat) (l : List Tk) (en : Nat) : Prop := ∃ ao cap, Blk w b [.slice ao l.length cap, .int .i64 (en : Int)] 59 ∧ TokS w (.slice ao l.length cap) l ∧ ∀ ad, ao = some ad → ad.block < b
theorem TokS.keep {w w' : World} {ao : Option Addr} {m cap : Nat} {l : List Tk} {own : List Nat} (h : TokS w (.slice ao m cap) l) (hc : Chg own w w') (ho : ∀ ad, ao = some ad → ad.block ∉ own) : TokS w' (.slice ao m cap) l := by
  obtain ⟨ao', cap', h1, h2, h3⟩ := h
  cases h1
  refine ⟨ao, cap, rfl, h2, fun i t ht => ?_⟩
  obtain ⟨g, off, h4, h5, h6, h7, h8⟩ := h3 i t ht
  have hg := hc.block g (World.block_lt_of_cell? _ _ h5) (ho _ h4)
  exact ⟨g, off, h4, (World.cell?_of_block (a := ⟨g, off + 4 * i, none⟩) hg).trans h5, (World.cell?_of_block (a := ⟨g, off + 4 * i + 1, none⟩) hg).trans h6, (World.cell?_of_block (a := ⟨g, off + 4 * i + 2, none⟩) hg).trans h7, (World.cell?_of_block (a := ⟨g, off + 4 * i + 3, none⟩) hg).trans h8⟩
theorem Par.keep {w w' : World} {b en : Nat} {l : List Tk} {own : List Nat} (h : Par w b l en) (hc : Chg own w w') (ho : ∀ k ∈ own, b < k) : Par w' b l en := by
  obtain ⟨ao, cap, h1, h2, h3⟩ := h
  refine ⟨ao, cap, hc.blk h1 (fun hm => Nat.lt_irrefl _ (ho b hm)), h2.keep hc (fun ad ha hm => ?_), h3⟩
  have h4 := h3 ad ha
  have h5 := ho _ hm
  omega
theorem Par.quiet {w w' : World} {b en : Nat} {l : List Tk} (h : Par w b l en) (hc : Chg [] w w') : Par w' b l en := h.keep hc (by simp)
theorem Par.lt {w : World} {b en : Nat} {l : List Tk} (h : Par w b l en) : b < w.heap.size := by
  obtain ⟨ao, cap, h1, _⟩ := h
  exact h1.lt
/-- A parser at whose next place a token stands. -/
theorem Par.cons {w : World} {b en : Nat} {t : Tk} {r : List Tk} (h : Par w b (t :: r) en) : ∃ g off cap, Blk w b [.slice (some ⟨g, off, none⟩) (r.length + 1) cap, .int .i64 (en : Int)] 59 ∧ r.length + 1 ≤ cap ∧ g < b ∧
    w.cell? ⟨g, off, none⟩ = some (.int .i64 t.kind) ∧ w.cell? ⟨g, off + 1, none⟩ = some (.string ⟨t.text.toArray⟩) ∧ w.cell? ⟨g, off + 2, none⟩ = some (.int .i64 t.n) ∧ w.cell? ⟨g, off + 3, none⟩ = some (.int .i64 t.at_) := by
  obtain ⟨ao, cap, h1, ⟨ao', cap', he, h2, h3⟩, h4⟩ := h
  cases he
  obtain ⟨g, off, rfl, h5, h6, h7, h8⟩ := h3 0 t rfl
  exact ⟨g, off, cap, h1, h2, h4 _ rfl, h5, h6, h7, h8⟩
theorem Par.nil {w : World} {b en : Nat} (h : Par w b [] en) : ∃ ao cap, Blk w b [.slice ao 0 cap, .int .i64 (en : Int)] 59 := by
  obtain ⟨ao, cap, h1, _⟩ := h
  exact ⟨ao, cap, h1⟩
/-- The parser behind its next token. -/
theorem Par.step {w w' : World} {b en g off cap off' cap' : Nat} {t : Tk} {r : List Tk} (h : Par w b (t :: r) en) (hb : Blk w b [.slice (some ⟨g, off, none⟩) (r.length + 1) cap, .int .i64 (en : Int)] 59)
    (hc : Chg [b] w w') (hb' : Blk w' b [.slice (some ⟨g, off', none⟩) r.length cap', .int .i64 (en : Int)] 59) (ho : r ≠ [] → off' = off + 4) (hl : r.length ≤ cap') : Par w' b r en := by
  obtain ⟨ao, cap1, h1, h2, h4⟩ := h
  have e := h1.same hb
  simp only [List.cons.injEq, Value.slice.injEq] at e
  obtain ⟨⟨rfl, _, rfl⟩, _⟩ := e
  have hg : g ≠ b := Nat.ne_of_lt (h4 _ rfl)
  obtain ⟨ao', cap2, he, h2, h3⟩ := h2
  cases he
  refine ⟨_, _, hb', ⟨_, _, rfl, hl, fun i u hu => ?_⟩, fun ad ha => by cases ha; exact h4 ⟨g, off, none⟩ rfl⟩
  have e4 := ho (by rintro rfl; simp at hu)
  subst e4
  obtain ⟨g', off', h5, a1, a2, a3, a4⟩ := h3 (i + 1) u (by simpa using hu)
  cases h5
  have hbk := hc.block g (World.block_lt_of_cell? _ _ a1) (by simpa using hg)
  have e4 : off + 4 + 4 * i = off + 4 * (i + 1) := by omega
  refine ⟨g, off + 4, rfl, ?_⟩
  rw [e4]
  exact ⟨(World.cell?_of_block (a := ⟨g, off + 4 * (i + 1), none⟩) hbk).trans a1, (World.cell?_of_block (a := ⟨g, off + 4 * (i + 1) + 1, none⟩) hbk).trans a2, (World.cell?_of_block (a := ⟨g, off + 4 * (i + 1) + 2, none⟩) hbk).trans a3, (World.cell?_of_block (a := ⟨g, off + 4 * (i + 1) + 3, none⟩) hbk).trans a4⟩
/-- The panic that an error becomes. -/
def flt (e : Nat) (r : List Tk) (en : Nat) : Value := .iface 55 (.agg #[.int .i64 (Rl.code e r : Int), .int .i64 (Rl.place en r : Int)])
/-- What a part of the parser hands back. -/
def PRes {α : Type} (w : World) (b en : Nat) (V : α → Value → World → Prop) (o : Rl.Out α) (e : Ending) (w' : World) : Prop :=
  Chg [b] w w' ∧ match o with
  | .ok a r => ∃ v, e = .returned v ∧ V a v w' ∧ Par w' b r en
  | .bad c r => e = .panicked [{ v := flt c r en, recovered := false }]
theorem fail_spec (w : World) (b en : Nat) (l : List Tk) (HP : Hid (Par w b l en)) (e : Nat) :
    Calls Tryd.prog 22 #[.pointer (some ⟨b, 0, none⟩), .int .i64 (e : Int)] w fun x w' => x = .panicked [{ v := flt e l en, recovered := false }] ∧ w' = w := by
  go_enter Tryd.func22, Tryd.ntmps22
  cases l with
  | nil =>
    obtain ⟨ao, cap, hb⟩ := HP.out.nil
    have c0 := hb.cell (i := 0) rfl
    have c1 := hb.cell (i := 1) rfl
    clear hb
    go_wp2_with fail
    exact ⟨rfl, rfl, rfl⟩
  | cons t r =>
    obtain ⟨g, off, cap, hb, hcap, hgb, k0, k1, k2, k3⟩ := HP.out.cons
    have c0 := hb.cell (i := 0) rfl
    have c1 := hb.cell (i := 1) rfl
    have n0 : (((r.length + 1 : Nat) : Int) == 0) = false := beq_eq_false_iff_ne.2 (by omega)
    clear hb
    go_wp2_with fail
    exact ⟨rfl, rfl, rfl⟩
theorem peek_any (w : World) (b en : Nat) (l : List Tk) (HP : Hid (Par w b l en)) (k : Nat) :
    Calls Tryd.prog 35 #[.pointer (some ⟨b, 0, none⟩), .int .i64 (k : Int), .slice none 0 0] w fun x w' => x = .returned (.bool (Rl.is k none l)) ∧ w' = w := by
  go_enter Tryd.func35, Tryd.ntmps35
  cases l with
  | nil =>
    obtain ⟨ao, cap, hb⟩ := HP.out.nil
    have c0 := hb.cell (i := 0) rfl
    clear hb
    go_wp2_with fail
    go_ret
    exact ⟨rfl, rfl⟩
  | cons t r =>
    obtain ⟨g, off, cap, hb, hcap, hgb, k0, k1, k2, k3⟩ := HP.out.cons
    have c0 := hb.cell (i := 0) rfl
    have n0 : (((r.length + 1 : Nat) : Int) == 0) = false := beq_eq_false_iff_ne.2 (by omega)
    clear hb
    by_cases hk : t.kind = k
    · have n1 : ((t.kind : Int) != (k : Int)) = false := by simp [hk]
      have HK := Lib.hid hk
      clear hk
      go_wp2_with fail
      go_loop [28] (fun i => i = .int .i64 0) (fun i => 0)
      case atStart => rfl
      case round =>
        subst hrel
        go_wp2_with fail
        go_ret
        exact ⟨by simp [Rl.is, HK.out], rfl⟩
    · have n1 : ((t.kind : Int) != (k : Int)) = true := bne_iff_ne.2 (by omega)
      have HK := Lib.hid hk
      clear hk
      go_wp2_with fail
      go_ret
      exact ⟨by simp [Rl.is, HK.out], rfl⟩
theorem peek_text (w : World) (b en : Nat) (l : List Tk) (HP : Hid (Par w b l en)) (k : Nat) (s : Bytes) (ad : Addr) (n : Nat) (hs : w.cell? ad = some (.string ⟨s.toArray⟩)) :
    Calls Tryd.prog 35 #[.pointer (some ⟨b, 0, none⟩), .int .i64 (k : Int), .slice (some ad) 1 n] w fun x w' => x = .returned (.bool (Rl.is k (some s) l)) ∧ w' = w := by
  obtain ⟨ab, ao, av⟩ := ad
  go_enter Tryd.func35, Tryd.ntmps35
  cases l with
  | nil =>
    obtain ⟨ao, cap, hb⟩ := HP.out.nil
    have c0 := hb.cell (i := 0) rfl
    clear hb
    go_wp2_with fail
    go_ret
    exact ⟨rfl, rfl⟩
  | cons t r =>
    obtain ⟨g, off, cap, hb, hcap, hgb, k0, k1, k2, k3⟩ := HP.out.cons
    have c0 := hb.cell (i := 0) rfl
    have n0 : (((r.length + 1 : Nat) : Int) == 0) = false := beq_eq_false_iff_ne.2 (by omega)
    clear hb
    by_cases hk : t.kind = k
    · have n1 : ((t.kind : Int) != (k : Int)) = false := by simp [hk]
      have HK := Lib.hid hk
      clear hk
      go_wp2_with fail
      by_cases ht : t.text = s
      · have n2 : (t.text == s) = true := beq_iff_eq.2 ht
        have HT := Lib.hid ht
        clear ht
        go_loop [28] (fun i => i = .int .i64 0) (fun i => 0)
        case atStart => rfl
        case round =>
          subst hrel
          go_wp2_with fail
          go_ret
          exact ⟨by simp [Rl.is, HK.out, HT.out], rfl⟩
      · have n2 : (t.text == s) = false := beq_eq_false_iff_ne.2 ht
        have HT := Lib.hid ht
        clear ht
        go_loop [28] (fun i => i = .int .i64 0 ∨ i = .int .i64 1) (fun i => 1 - (intOf i).toNat)
        case atStart => exact .inl rfl
        case round =>
          rcases hrel with rfl | rfl
          · go_wp2_with fail
            go_round
            case rel => exact .inr rfl
            case measure => simp [intOf]
          · go_wp2_with fail
            go_ret
            exact ⟨by simp [Rl.is, HK.out, HT.out], rfl⟩
    · have n1 : ((t.kind : Int) != (k : Int)) = true := bne_iff_ne.2 (by omega)
      have HK := Lib.hid hk
      clear hk
      go_wp2_with fail
      go_ret
      exact ⟨by simp [Rl.is, HK.out], rfl⟩
end Go.Proofs.YtmfjebpefneboaaDoor
