/-
  Plan, layer 20: what Parse keeps between its calls.
-/
import Derived.Test.YtocadlcglgpdcaaDoorPnT
import Derived.Test.YtocadlcglgpdcaaDoorLxJ
namespace Go.Proofs.YtocadlcglgpdcaaDoor
set_option linter.unusedVariables false
set_option linter.unusedSimpArgs false
open Go Go.RowKit Go.Shelf
open Lx (Tk)

theorem TokS.frm {w : World} {v : Value} {l : List Tk} (h : TokS w v l) : ∃ ao cap, v = .slice ao l.length cap := by
  obtain ⟨ao, cap, h1, _⟩ := h
  exact ⟨ao, cap, h1⟩
theorem toks_lt {w : World} {ao : Option Addr} {m cap : Nat} {l : List Tk} (h : TokS w (.slice ao m cap) l) (hne : l ≠ []) : ∃ g off, ao = some ⟨g, off, none⟩ ∧ g < w.heap.size := by
  obtain ⟨ao', cap', he, _, h3⟩ := h
  cases he
  cases l with
  | nil => exact absurd rfl hne
  | cons t r =>
    obtain ⟨g, off, h4, h5, _⟩ := h3 0 t rfl
    exact ⟨g, off, h4, World.block_lt_of_cell? _ _ h5⟩
/-- Tokens stay when boxes of one cell are written. -/
theorem toks_apart {w w' : World} {v : Value} {l : List Tk} {own : List Nat} (h : TokS w v l) (hc : Chg own w w') (ho : ∀ k ∈ own, ∃ x e, Blk w k [x] e) : TokS w' v l := by
  obtain ⟨ao, cap, rfl, h2, h3⟩ := h
  refine ⟨ao, cap, rfl, h2, fun i t ht => ?_⟩
  obtain ⟨g, off, h4, h5, h6, h7, h8⟩ := h3 i t ht
  have hno : g ∉ own := fun hm => by
    obtain ⟨x, e, hb⟩ := ho g hm
    unfold Blk at hb
    rw [cell_of_row w g _ _ e (0, 0) hb] at h6
    simp at h6
  have hg := hc.block g (World.block_lt_of_cell? _ _ h5) hno
  exact ⟨g, off, h4, (World.cell?_of_block (a := ⟨g, off + 4 * i, none⟩) hg).trans h5, (World.cell?_of_block (a := ⟨g, off + 4 * i + 1, none⟩) hg).trans h6, (World.cell?_of_block (a := ⟨g, off + 4 * i + 2, none⟩) hg).trans h7, (World.cell?_of_block (a := ⟨g, off + 4 * i + 3, none⟩) hg).trans h8⟩
theorem Lx.fin_len : ∀ (l : List (Tk × Nat)) (k : Nat) (out : List Tk), k ≤ 5000 → (Lx.fin k out l).1.length ≤ out.length + (5000 - k)
  | [], k, out, h => by simp [Lx.fin]
  | (t, e) :: r, k, out, h => by
    unfold Lx.fin
    split
    · simp
    · split
      · simp
      · have := Lx.fin_len r (k + 1) (out ++ [t]) (by omega)
        simp only [List.length_append, List.length_singleton] at this
        omega
theorem Lx.lex_len (s : Bytes) : (Lx.lex s).1.length ≤ 5000 := by
  unfold Lx.lex
  split
  · simp
  · simpa using Lx.fin_len (Lx.scan s.length 0 s) 0 [] (by omega)
/-- What Parse has at hand between two calls: its three results, the parser, and what has changed. -/
def Hs (w w3 wr : World) (b2 b3 b4 pb en er : Nat) (at9 : Int) (cs : List Value) (q : List Tk) : Prop :=
  Blk wr b2 cs 27 ∧ Blk wr b3 [.int .i64 (er : Nat)] 28 ∧ Blk wr b4 [.int .i64 at9] 3 ∧ Pp wr pb q en ∧ Chg [] w wr ∧ Chg [pb, b2] w3 wr ∧ (b2 = w.heap.size ∧ b3 = w.heap.size + 1 ∧ b4 = w.heap.size + 2 ∧ b4 < pb ∧ w3.heap.size = pb + 1)
theorem Hs.call {w w3 wr w' : World} {b2 b3 b4 pb en er : Nat} {at9 : Int} {cs : List Value} {q r : List Tk} (h : Hs w w3 wr b2 b3 b4 pb en er at9 cs q) (hp : Pp w' pb r en) (hc : Chg [pb] wr w') : Hs w w3 w' b2 b3 b4 pb en er at9 cs r := by
  obtain ⟨h1, h2, h3, h4, h5, h6, h7⟩ := h
  refine ⟨hc.blk h1 (by simp; omega), hc.blk h2 (by simp; omega), hc.blk h3 (by simp; omega), hp, h5.trans hc (fun k hk => .inr (by simp at hk; omega)), h6.trans hc (fun k hk => .inl (by simp at hk; simp [hk])), h7⟩
/-- What draws nothing of its own leaves all. -/
theorem Hs.quiet {w w3 wr w' : World} {b2 b3 b4 pb en er : Nat} {at9 : Int} {cs : List Value} {q : List Tk} (h : Hs w w3 wr b2 b3 b4 pb en er at9 cs q) (hc : Chg [] wr w') : Hs w w3 w' b2 b3 b4 pb en er at9 cs q :=
  h.call (h.2.2.2.1.quiet hc) (hc.mono (by simp))
/-- A write to the hall. -/
theorem Hs.put {w w3 wr : World} {b2 b3 b4 pb en er : Nat} {at9 : Int} {a : ByteArray} {x y : Int} {p : Option Addr} {n c : Nat} {q : List Tk} (h : Hs w w3 wr b2 b3 b4 pb en er at9 [.string a, .int .i64 x, .int .i64 y, .slice p n c] q) (i : Nat) (v : Value) : Hs w w3 (wr.setCell ⟨b2, i, none⟩ v) b2 b3 b4 pb en er at9 ([.string a, .int .i64 x, .int .i64 y, .slice p n c].set i v) q := by
  obtain ⟨h1, h2, h3, h4, h5, h6, h7⟩ := h
  exact ⟨h1.set i v, h2.other _ _ (show b3 ≠ b2 by omega), h3.other _ _ (show b4 ≠ b2 by omega), h4.hall h1 (by omega) ((Chg.refl _ _).setCell _ _ (.inl (by simp))), h5.setCell _ _ (.inr (by show _ ≤ b2; omega)), h6.setCell _ _ (.inl (by simp)), h7⟩
/-- The two numbers of the stage are read into the hall. -/
theorem Hs.stage {w w3 wr w' : World} {b2 b3 b4 pb en er : Nat} {at9 : Int} {cs cs' : List Value} {q r : List Tk} (h : Hs w w3 wr b2 b3 b4 pb en er at9 cs q) (hp : Pp w' pb r en) (hb : Blk w' b2 cs' 27) (hc : Chg [pb, b2] wr w') : Hs w w3 w' b2 b3 b4 pb en er at9 cs' r := by
  obtain ⟨h1, h2, h3, h4, h5, h6, h7⟩ := h
  refine ⟨hb, hc.blk h2 (by simp; omega), hc.blk h3 (by simp; omega), hp, h5.trans hc (fun k hk => .inr (by simp at hk; omega)), h6.trans hc (fun k hk => .inl hk), h7⟩
theorem Pn.parse_bad {s : Bytes} (h : (Lx.lex s).2.1 = 0) {c : Nat} {r : List Tk} (hi : Pn.hall (Lx.lex s).1 = .bad c r) : Pn.parse s = (Pn.hl0, Rl.code c r, (Rl.place s.length r : Int)) := by
  unfold Pn.parse
  rw [if_neg (by simpa using h), hi]
  rfl
theorem Pn.parse_ok {s : Bytes} (h : (Lx.lex s).2.1 = 0) {x : Pn.Hl} {r : List Tk} (hi : Pn.hall (Lx.lex s).1 = .ok x r) : Pn.parse s = (x, 0, 0) := by
  unfold Pn.parse
  rw [if_neg (by simpa using h), hi]
  rfl
/-- Parse ends in a panic of a part: the door behind it. -/
theorem Hs.pan {tmps : Array Value} {w w3 wr w' : World} {b2 b3 b4 pb er : Nat} {at9 : Int} {y0 y1 y2 y3 : Value} {s : Bytes} {q : List Tk} (h : Hs w w3 wr b2 b3 b4 pb s.length er at9 [y0, y1, y2, y3] q) {own : List Nat} (hc : Chg own wr w') (ho : own = [pb] ∨ own = []) (h0 : (Lx.lex s).2.1 = 0) {c : Nat} {r : List Tk} (hi : Pn.hall (Lx.lex s).1 = .bad c r)
    (t2 : tmps.getD 2 undef = .pointer (some ⟨b2, 0, none⟩)) (t3 : tmps.getD 3 undef = .pointer (some ⟨b3, 0, none⟩)) (t4 : tmps.getD 4 undef = .pointer (some ⟨b4, 0, none⟩)) :
    Leaves Tryd.prog Tryd.f10 tmps (Parsed w (Pn.parse s)) [{ target := .fn (.func 18) #[.pointer (some ⟨b2, 0, none⟩), .pointer (some ⟨b3, 0, none⟩), .pointer (some ⟨b4, 0, none⟩)], args := #[] }] (.panicking [{ v := flt c r s.length, recovered := false }]) w' := by
  have hc1 : Chg [pb] wr w' := by
    rcases ho with rfl | rfl
    · exact hc
    · exact hc.mono (by simp)
  obtain ⟨h1, h2, h3, h4, h5, h6, h7⟩ := h
  refine door_pan t2 t3 t4 (hc1.blk h1 (by simp; omega)) (hc1.blk h2 (by simp; omega)) (hc1.blk h3 (by simp; omega)) (by omega) (fun w5 hc5 => ?_)
  rw [Pn.parse_bad h0 hi]
  exact ⟨.slice none 0 0, rfl, ListS.nil _ _ _ _ _, (h5.trans hc1 (fun k hk => .inr (by simp at hk; omega))).trans hc5 (fun k hk => .inr (by simp at hk; omega))⟩
/-- The same behind the stage's numbers. -/
theorem Hs.pan2 {tmps : Array Value} {w w3 wr w' : World} {b2 b3 b4 pb er : Nat} {at9 : Int} {a : ByteArray} {x y : Int} {p : Option Addr} {n c0 : Nat} {s : Bytes} {q : List Tk} (h : Hs w w3 wr b2 b3 b4 pb s.length er at9 [.string a, .int .i64 x, .int .i64 y, .slice p n c0] q) (hc : Chg [pb, b2] wr w') (hb : ∃ z0 z1 z2 z3, Blk w' b2 [z0, z1, z2, z3] 27) (h0 : (Lx.lex s).2.1 = 0) {c : Nat} {r : List Tk} (hi : Pn.hall (Lx.lex s).1 = .bad c r)
    (t2 : tmps.getD 2 undef = .pointer (some ⟨b2, 0, none⟩)) (t3 : tmps.getD 3 undef = .pointer (some ⟨b3, 0, none⟩)) (t4 : tmps.getD 4 undef = .pointer (some ⟨b4, 0, none⟩)) :
    Leaves Tryd.prog Tryd.f10 tmps (Parsed w (Pn.parse s)) [{ target := .fn (.func 18) #[.pointer (some ⟨b2, 0, none⟩), .pointer (some ⟨b3, 0, none⟩), .pointer (some ⟨b4, 0, none⟩)], args := #[] }] (.panicking [{ v := flt c r s.length, recovered := false }]) w' := by
  obtain ⟨h1, h2, h3, h4, h5, h6, h7⟩ := h
  obtain ⟨z0, z1, z2, z3, hb⟩ := hb
  refine door_pan t2 t3 t4 hb (hc.blk h2 (by simp; omega)) (hc.blk h3 (by simp; omega)) (by omega) (fun w5 hc5 => ?_)
  rw [Pn.parse_bad h0 hi]
  exact ⟨.slice none 0 0, rfl, ListS.nil _ _ _ _ _, (h5.trans hc (fun k hk => .inr (by simp at hk; omega))).trans hc5 (fun k hk => .inr (by simp at hk; omega))⟩
/-- A parser stays, if its cells and what lies below it stay, but for the hall. -/
theorem Pp.via2 {W wo v : World} {b en k : Nat} {l : List Tk} {a : ByteArray} {x y : Int} {p : Option Addr} {n c : Nat} {E : TypeId} (h : Pp wo b l en) (hk : Blk wo k [.string a, .int .i64 x, .int .i64 y, .slice p n c] E) (h1 : Chg [b, k] W wo) (h2 : Chg [b, k] W v) (hB : ∀ ds S, Blk wo b ds S → Blk v b ds S) (hb : b < W.heap.size) : Pp v b l en := by
  obtain ⟨L, i, ao, cap, e1, e2, e3, k1, k2, k3⟩ := h
  refine ⟨L, i, ao, cap, e1, e2, e3, hB _ _ k1, ?_, k3⟩
  obtain ⟨ao', cap', j1, j2, j3⟩ := k2
  cases j1
  refine ⟨ao, cap, rfl, j2, fun j t ht => ?_⟩
  obtain ⟨g, off, j4, j5, j6, j7, j8⟩ := j3 j t ht
  have hgb : g < b := k3 (by rintro rfl; simp at ht) _ j4
  have hg0 : g ≠ k := fun e => by
    subst e
    unfold Blk at hk
    rw [cell_of_row wo g _ _ E (0, 0) hk] at j6
    obtain ⟨z, hz⟩ : ∃ z, off + 4 * j = z := ⟨_, rfl⟩
    rw [hz] at j6
    match z, j6 with
    | 0, j6 => simp at j6
    | 1, j6 => simp at j6
    | 2, j6 => simp at j6
    | z + 3, j6 => simp at j6
  have hno : g ∉ [b, k] := by simp; omega
  have hg : v.heap[g]? = wo.heap[g]? := (h2.block g (by omega) hno).trans (h1.block g (by omega) hno).symm
  exact ⟨g, off, j4, (World.cell?_of_block (a := ⟨g, off + 4 * j, none⟩) hg).trans j5, (World.cell?_of_block (a := ⟨g, off + 4 * j + 1, none⟩) hg).trans j6, (World.cell?_of_block (a := ⟨g, off + 4 * j + 2, none⟩) hg).trans j7, (World.cell?_of_block (a := ⟨g, off + 4 * j + 3, none⟩) hg).trans j8⟩
theorem Pn.short_hall {l r1 r2 r3 r4 r5 : List Tk} {t2 : Tk} {xy : Nat × Nat} {x1 x3 x5 : Bytes} (h1 : Pn.must x1 l = .ok () r1) (h2 : Rl.nxt 1 none r1 = .ok t2 r2) (h3 : Pn.must x3 r2 = .ok () r3) (h4 : Pn.num2 r3 = .ok xy r4) (h5 : Pn.must x5 r4 = .ok () r5) : r5.length ≤ l.length := by
  have e1 := Pn.eat_must x1 _ _ _ h1
  have e2 := Pn.eat_nxt 1 none _ _ _ h2
  have e3 := Pn.eat_must x3 _ _ _ h3
  have e4 := Pn.eat_num2 _ _ _ h4
  have e5 := Pn.eat_must x5 _ _ _ h5
  omega
end Go.Proofs.YtocadlcglgpdcaaDoor
