/-
  RnB, RnC, RnD, RnE in one text.
-/
import Derived.Test.YtmfjebpefneboaaDoorRnA
import Derived.Test.YtmfjebpefneboaaDoorRlM
import Derived.Laws.Rows
namespace Go.Proofs.YtmfjebpefneboaaDoor
set_option linter.unusedVariables false
set_option linter.unusedSimpArgs false
open Go Go.RowKit Go.Shelf
open Lx (Tk)
open Rl (RSt)

theorem TokS.hd {w : World} {ao : Option Addr} {m cap : Nat} {t : Tk} {r : List Tk} (h : TokS w (.slice ao m cap) (t :: r)) : ∃ g off, ao = some ⟨g, off, none⟩ ∧ m = r.length + 1 ∧ r.length + 1 ≤ cap ∧
    w.cell? ⟨g, off, none⟩ = some (.int .i64 t.kind) ∧ w.cell? ⟨g, off + 1, none⟩ = some (.string ⟨t.text.toArray⟩) ∧ w.cell? ⟨g, off + 2, none⟩ = some (.int .i64 t.n) ∧ w.cell? ⟨g, off + 3, none⟩ = some (.int .i64 t.at_) := by
  obtain ⟨ao', cap', e1, e2, e3⟩ := h
  obtain ⟨g, off, h4, h5, h6, h7, h8⟩ := e3 0 t rfl
  cases e1
  exact ⟨g, off, h4, rfl, e2, h5, h6, h7, h8⟩
/-- The tokens behind the first one. -/
theorem TokS.tl {w : World} {g off cap : Nat} {t : Tk} {r : List Tk} (h : TokS w (.slice (some ⟨g, off, none⟩) (r.length + 1) cap) (t :: r)) {off' cap' : Nat} (ho : r ≠ [] → off' = off + 4) (hc : r.length ≤ cap') : TokS w (.slice (some ⟨g, off', none⟩) r.length cap') r := by
  obtain ⟨ao, cap2, e1, e2, e3⟩ := h
  cases e1
  refine ⟨_, _, rfl, hc, fun i u hu => ?_⟩
  have e4 := ho (by rintro rfl; simp at hu)
  subst e4
  obtain ⟨g', off2, h5, a1, a2, a3, a4⟩ := e3 (i + 1) u (by simpa using hu)
  cases h5
  have e4 : off + 4 + 4 * i = off + 4 * (i + 1) := by omega
  refine ⟨g, off + 4, rfl, ?_⟩
  rw [e4]
  exact ⟨a1, a2, a3, a4⟩
theorem fail_spec7 (w : World) (en : Nat) (s : RSt) (ao : Option Addr) (cap : Nat) (HT : Hid (TokS w (.slice ao s.l.length cap) s.l)) (e : Nat) :
    Calls Tryd.prog 41 #[.agg #[.slice ao s.l.length cap, .int .i64 (en : Int), .int .i64 (s.err : Int), .int .i64 (s.at_ : Int)], .int .i64 (e : Int)] w fun x w' =>
      x = .returned (.agg #[.slice ao s.l.length cap, .int .i64 (en : Int), .int .i64 ((s.fail en e).err : Int), .int .i64 ((s.fail en e).at_ : Int)]) ∧ Chg [] w w' := by
  obtain ⟨l, er, at_⟩ := s
  go_enter Tryd.func41, Tryd.ntmps41
  by_cases h : er = 0
  · subst h
    cases l with
    | nil =>
      go_wp2_with fail
      refine bodyPost_ret (v := .agg #[.slice ao 0 cap, .int .i64 (en : Int), .int .i64 7, .int .i64 (en : Int)]) (by simp [results, Tryd.results41, go_sem]) rfl ?_
      exact ⟨rfl, ((Chg.refl _ _).alloc _).alloc _⟩
    | cons t r =>
      obtain ⟨g, off, rfl, hm, hc, k0, k1, k2, k3⟩ := HT.out.hd
      have n0 : ((r.length : Int) + 1 == 0) = false := beq_eq_false_iff_ne.2 (by omega)
      have n1 : (0 : Int) < (r.length : Int) + 1 := by omega
      have j3 := fun o o' : Obj => cell_quiet (((Chg.refl [] w).alloc o).alloc o') k3 (by simp)
      clear k0 k1 k2 k3
      go_wp2_with fail
      refine bodyPost_ret (v := .agg #[.slice (some ⟨g, off, none⟩) (r.length + 1) cap, .int .i64 (en : Int), .int .i64 (e : Int), .int .i64 (t.at_ : Int)]) (by simp [results, Tryd.results41, go_sem]) rfl ?_
      exact ⟨rfl, ((Chg.refl _ _).alloc _).alloc _⟩
  · have n1 : ((er : Int) != 0) = true := bne_iff_ne.2 (by omega)
    have e1 : RSt.fail en ⟨l, er, at_⟩ e = ⟨l, er, at_⟩ := by unfold RSt.fail; rw [if_neg h]
    rw [e1]
    clear e1
    go_wp2_with fail
    refine bodyPost_ret (v := .agg #[.slice ao l.length cap, .int .i64 (en : Int), .int .i64 (er : Int), .int .i64 (at_ : Int)]) (by simp [results, Tryd.results41, go_sem]) rfl ?_
    exact ⟨rfl, ((Chg.refl _ _).alloc _).alloc _⟩
theorem fail_l (en : Nat) (s : RSt) (e : Nat) : (s.fail en e).l = s.l := by
  unfold RSt.fail
  split <;> rfl
theorem is_spec7 (w : World) (en : Nat) (s : RSt) (ao : Option Addr) (cap : Nat) (HT : Hid (TokS w (.slice ao s.l.length cap) s.l)) (k : Nat) (x : Bytes) :
    Calls Tryd.prog 42 #[.agg #[.slice ao s.l.length cap, .int .i64 (en : Int), .int .i64 (s.err : Int), .int .i64 (s.at_ : Int)], .int .i64 (k : Int), .string ⟨x.toArray⟩] w fun e w' =>
      e = .returned (.bool (s.is k x)) ∧ Chg [] w w' := by
  obtain ⟨l, er, at_⟩ := s
  go_enter Tryd.func42, Tryd.ntmps42
  by_cases h : er = 0
  · subst h
    cases l with
    | nil =>
      go_wp2_with fail
      go_ret
      exact ⟨rfl, (Chg.refl _ _).alloc _⟩
    | cons t r =>
      obtain ⟨g, off, rfl, hm, hc, k0, k1, k2, k3⟩ := HT.out.hd
      have n0 : (0 : Int) < (r.length : Int) + 1 := by omega
      have j0 := fun o : Obj => cell_quiet ((Chg.refl [] w).alloc o) k0 (by simp)
      have j1 := fun o : Obj => cell_quiet ((Chg.refl [] w).alloc o) k1 (by simp)
      clear k0 k1 k2 k3
      by_cases hk : t.kind = k
      · have n2 : ((t.kind : Int) == (k : Int)) = true := by rw [hk]; exact beq_self_eq_true _
        have HK := Lib.hid hk
        clear hk
        cases x with
        | nil =>
          go_wp2_with fail
          go_ret
          exact ⟨by simp [RSt.is, HK.out], (Chg.refl _ _).alloc _⟩
        | cons c z =>
          by_cases ht : t.text = c :: z
          · have n4 : (t.text == c :: z) = true := beq_iff_eq.2 ht
            have HTT := Lib.hid ht
            clear ht
            go_wp2_with fail
            go_ret
            exact ⟨by simp [RSt.is, HK.out, HTT.out], (Chg.refl _ _).alloc _⟩
          · have n4 : (t.text == c :: z) = false := beq_eq_false_iff_ne.2 ht
            have HTT := Lib.hid ht
            clear ht
            go_wp2_with fail
            go_ret
            exact ⟨by simp [RSt.is, HTT.out], (Chg.refl _ _).alloc _⟩
      · have n2 : ((t.kind : Int) == (k : Int)) = false := beq_eq_false_iff_ne.2 (by omega)
        have HK := Lib.hid hk
        clear hk
        go_wp2_with fail
        go_ret
        exact ⟨by simp [RSt.is, HK.out], (Chg.refl _ _).alloc _⟩
  · have n1 : ((er : Int) == 0) = false := beq_eq_false_iff_ne.2 (by omega)
    have HER := Lib.hid h
    clear h
    go_wp2_with fail
    go_ret
    exact ⟨by simp [RSt.is, HER.out], (Chg.refl _ _).alloc _⟩
/-- In whatever world the one list of tokens lies, the other one lies too. -/
def Suf (ao : Option Addr) (cap : Nat) (l : List Tk) (ao' : Option Addr) (cap' : Nat) (l' : List Tk) : Prop := ∀ v, TokS v (.slice ao l.length cap) l → TokS v (.slice ao' l'.length cap') l'
/-- is, with a letter for what it says. -/
theorem is_r {w : World} {en : Nat} {s : RSt} {ao : Option Addr} {cap : Nat} (HT : Hid (TokS w (.slice ao s.l.length cap) s.l)) (k : Nat) (x : Bytes) {R : Ending → World → Prop}
    (h : ∀ (b : Bool) (w' : World), Hid (s.is k x = b) → Hid (Chg [] w w') → R (.returned (.bool b)) w') :
    Calls Tryd.prog 42 #[.agg #[.slice ao s.l.length cap, .int .i64 (en : Int), .int .i64 (s.err : Int), .int .i64 (s.at_ : Int)], .int .i64 (k : Int), .string ⟨x.toArray⟩] w R := by
  refine (is_spec7 w en s ao cap HT k x).mono ?_
  rintro e w' ⟨rfl, hc⟩
  exact h _ w' (Lib.hid rfl) (Lib.hid hc)
/-- fail, with a letter for the state. -/
theorem fail_r {w : World} {en : Nat} {s : RSt} {ao : Option Addr} {cap : Nat} (HT : Hid (TokS w (.slice ao s.l.length cap) s.l)) (e : Nat) {R : Ending → World → Prop}
    (h : ∀ (s' : RSt) (w' : World), Hid (s.fail en e = s') → Hid (Suf ao cap s.l ao cap s'.l) → Hid (Chg [] w w') → R (.returned (.agg #[.slice ao s'.l.length cap, .int .i64 (en : Int), .int .i64 (s'.err : Int), .int .i64 (s'.at_ : Int)])) w') :
    Calls Tryd.prog 41 #[.agg #[.slice ao s.l.length cap, .int .i64 (en : Int), .int .i64 (s.err : Int), .int .i64 (s.at_ : Int)], .int .i64 (e : Int)] w R := by
  refine (fail_spec7 w en s ao cap HT e).mono ?_
  rintro x w' ⟨rfl, hc⟩
  have := h (s.fail en e) w' (Lib.hid rfl) (Lib.hid (fun v hv => by rw [fail_l]; exact hv)) (Lib.hid hc)
  rw [fail_l] at this
  exact this
theorem key_r {w : World} {en : Nat} {s : RSt} {ao : Option Addr} {cap : Nat} (HT : Hid (TokS w (.slice ao s.l.length cap) s.l)) (x : Bytes) {R : Ending → World → Prop}
    (h : ∀ (b : Bool) (w' : World), Hid (s.key x = b) → Hid (Chg [] w w') → R (.returned (.bool b)) w') :
    Calls Tryd.prog 59 #[.agg #[.slice ao s.l.length cap, .int .i64 (en : Int), .int .i64 (s.err : Int), .int .i64 (s.at_ : Int)], .string ⟨x.toArray⟩] w R := by
  refine (show Calls Tryd.prog 59 #[.agg #[.slice ao s.l.length cap, .int .i64 (en : Int), .int .i64 (s.err : Int), .int .i64 (s.at_ : Int)], .string ⟨x.toArray⟩] w (fun e w' => e = .returned (.bool (s.key x)) ∧ Chg [] w w') from ?_).mono (fun e w' h12 => by obtain ⟨h1, h2⟩ := h12; subst h1; exact h _ w' (Lib.hid rfl) (Lib.hid h2))
  clear h
  go_enter Tryd.func59, Tryd.ntmps59
  go_wp2_with fail
  have HT1 := Lib.hid (HT.out.quiet ((Chg.refl [] w).alloc (.cells #[.slice ao s.l.length cap, .int .i64 (en : Int), .int .i64 (s.err : Int), .int .i64 (s.at_ : Int)] 63)))
  refine is_r HT1 1 x (fun b w1 HB1 HC1 => ?_)
  have hb := HC1.out.blk (Blk.new w [.slice ao s.l.length cap, .int .i64 (en : Int), .int .i64 (s.err : Int), .int .i64 (s.at_ : Int)] 63) (by simp)
  have c0 := hb.cell (i := 0) rfl
  have c1 := hb.cell (i := 1) rfl
  have c2 := hb.cell (i := 2) rfl
  have c3 := hb.cell (i := 3) rfl
  clear hb
  have HCW : Hid (Chg [] w w1) := Lib.hid (((Chg.refl [] w).alloc _).trans HC1.out (by simp))
  cases b with
  | true =>
    go_wp2_with fail
    go_ret
    exact ⟨by simp [RSt.key, HB1.out], HCW.out⟩
  | false =>
    go_wp2_with fail
    refine is_r (Lib.hid (HT1.out.quiet HC1.out)) 3 x (fun b w2 HB2 HC2 => ?_)
    go_wp2_with fail
    go_ret
    exact ⟨by simp [RSt.key, HB1.out, HB2.out], HCW.out.trans HC2.out (by simp)⟩
end Go.Proofs.YtmfjebpefneboaaDoor
namespace Go.Proofs.YtmfjebpefneboaaDoor
set_option linter.unusedVariables false
set_option linter.unusedSimpArgs false
open Go Go.RowKit Go.Shelf
open Lx (Tk)
open Rl (RSt)

theorem results_cell_row2 {P : Program} {fn : Func} {p q : Tmp} {ty ty2 : TypeId} (h : fn.results = #[.cell p ty, .cell q ty2]) (tmps : Array Value) (w : World) (g g2 : Nat) (t t2 : TypeId) (cs cs2 : Array Value) (fr fr2 : Nat × Nat) (d d2 : TypeDesc)
    (hp : tmps.getD p undef = .pointer (some ⟨g, 0, none⟩)) (hg : w.heap[g]? = some (.cells cs t fr)) (hq : tmps.getD q undef = .pointer (some ⟨g2, 0, none⟩)) (hg2 : w.heap[g2]? = some (.cells cs2 t2 fr2))
    (hu : P.underlying ty = some d) (hd : (match d with | .struct _ | .array _ _ => true | _ => false) = true) (hi : (P.info? ty).map (·.size) = some cs.size)
    (hu2 : P.underlying ty2 = some d2) (hd2 : (match d2 with | .struct _ | .array _ _ => true | _ => false) = true) (hi2 : (P.info? ty2).map (·.size) = some cs2.size) :
    (results fn tmps).run P w = .ok (.tuple #[.agg cs, .agg cs2]) w := by
  have hp' : tmps[p]?.getD undef = .pointer (some ⟨g, 0, none⟩) := by simpa using hp
  have hq' : tmps[q]?.getD undef = .pointer (some ⟨g2, 0, none⟩) := by simpa using hq
  simp [results, h, hp', hq', asAddr, Sem.run_bind, Result.andThen, run_loadVar_row w g t ty cs fr d hg hu hd hi, run_loadVar_row w g2 t2 ty2 cs2 fr2 d2 hg2 hu2 hd2 hi2]
theorem Blk.set4 {w : World} {b : Nat} {x0 x1 x2 x3 : Value} {T : TypeId} (h : Blk w b [x0, x1, x2, x3] T) (a0 a1 a2 a3 : Value) : Blk ((((w.setCell ⟨b, 0, none⟩ (a0)).setCell ⟨b, 1, none⟩ (a1)).setCell ⟨b, 2, none⟩ (a2)).setCell ⟨b, 3, none⟩ (a3)) b [a0, a1, a2, a3] T := (((h.set 0 a0).set 1 a1).set 2 a2).set 3 a3
theorem Blk.other4 {w : World} {b c : Nat} {cs : List Value} {T : TypeId} (h : Blk w b cs T) (hn : b ≠ c) (a0 a1 a2 a3 : Value) : Blk ((((w.setCell ⟨c, 0, none⟩ (a0)).setCell ⟨c, 1, none⟩ (a1)).setCell ⟨c, 2, none⟩ (a2)).setCell ⟨c, 3, none⟩ (a3)) b cs T := (((h.other _ _ hn).other _ _ hn).other _ _ hn).other _ _ hn
theorem Chg.set4 {own : List Nat} {w w' : World} (h : Chg own w w') (b : Nat) (hb : b ∈ own ∨ w.heap.size ≤ b) (a0 a1 a2 a3 : Value) : Chg own w ((((w'.setCell ⟨b, 0, none⟩ (a0)).setCell ⟨b, 1, none⟩ (a1)).setCell ⟨b, 2, none⟩ (a2)).setCell ⟨b, 3, none⟩ (a3)) := (((h.setCell _ _ hb).setCell _ _ hb).setCell _ _ hb).setCell _ _ hb
theorem is_cons {s : RSt} {k : Nat} {x : Bytes} (h : s.is k x = true) : s.err = 0 ∧ ∃ t r, s.l = t :: r ∧ t.kind = k ∧ (x = [] ∨ t.text = x) := by
  unfold RSt.is at h
  simp only [Bool.and_eq_true, decide_eq_true_eq] at h
  refine ⟨h.1, ?_⟩
  cases hl : s.l with
  | nil => rw [hl] at h; exact absurd h.2 (by simp)
  | cons t r =>
    rw [hl] at h
    simp only [Bool.and_eq_true, Bool.or_eq_true, decide_eq_true_eq] at h
    exact ⟨t, r, rfl, h.2.1, h.2.2⟩
theorem key_cons {s : RSt} {x : Bytes} (h : s.key x = true) : s.err = 0 ∧ ∃ t r, s.l = t :: r := by
  unfold RSt.key at h
  rw [Bool.or_eq_true] at h
  rcases h with h | h
  · obtain ⟨h1, t, r, h2, _⟩ := is_cons h
    exact ⟨h1, t, r, h2⟩
  · obtain ⟨h1, t, r, h2, _⟩ := is_cons h
    exact ⟨h1, t, r, h2⟩
set_option maxHeartbeats 1000000 in
set_option maxRecDepth 100000 in
theorem take_r {w : World} {en : Nat} {s : RSt} {ao : Option Addr} {cap : Nat} (HT : Hid (TokS w (.slice ao s.l.length cap) s.l)) (k : Nat) {R : Ending → World → Prop}
    (h : ∀ (t : Tk) (s' : RSt) (ao' : Option Addr) (cap' : Nat) (w' : World), Hid (s.take en k = (t, s')) → Hid (Suf ao cap s.l ao' cap' s'.l) → Hid (Chg [] w w') → R (.returned (.tuple #[.agg #[.int .i64 (t.kind : Nat), .string ⟨t.text.toArray⟩, .int .i64 (t.n : Nat), .int .i64 (t.at_ : Nat)], .agg #[.slice ao' s'.l.length cap', .int .i64 (en : Int), .int .i64 (s'.err : Int), .int .i64 (s'.at_ : Int)]])) w') :
    Calls Tryd.prog 43 #[.agg #[.slice ao s.l.length cap, .int .i64 (en : Int), .int .i64 (s.err : Int), .int .i64 (s.at_ : Int)], .int .i64 (k : Int)] w R := by
  refine (show Calls Tryd.prog 43 #[.agg #[.slice ao s.l.length cap, .int .i64 (en : Int), .int .i64 (s.err : Int), .int .i64 (s.at_ : Int)], .int .i64 (k : Int)] w (fun e w' => ∃ t s' ao' cap', Hid (s.take en k = (t, s')) ∧ Hid (Suf ao cap s.l ao' cap' s'.l) ∧ Hid (Chg [] w w') ∧ e = .returned (.tuple #[.agg #[.int .i64 (t.kind : Nat), .string ⟨t.text.toArray⟩, .int .i64 (t.n : Nat), .int .i64 (t.at_ : Nat)], .agg #[.slice ao' s'.l.length cap', .int .i64 (en : Int), .int .i64 (s'.err : Int), .int .i64 (s'.at_ : Int)]])) from ?_).mono (fun e w' hx => by obtain ⟨t, s', ao', cap', h1, h2, h3, h4⟩ := hx; subst h4; exact h t s' ao' cap' w' h1 h2 h3)
  clear h
  go_enter Tryd.func43, Tryd.ntmps43
  go_upto_region 1 with fail
  obtain ⟨W0, hW⟩ : ∃ W, W = (((w.alloc (.cells #[.slice ao s.l.length cap, .int .i64 (en : Int), .int .i64 (s.err : Int), .int .i64 (s.at_ : Int)] 63)).alloc (.cells #[.int .i64 0, .string ⟨#[]⟩, .int .i64 0, .int .i64 0] 44)).alloc (.cells #[.slice none 0 0, .int .i64 0, .int .i64 0, .int .i64 0] 63)) := ⟨_, rfl⟩
  rw [← hW]
  obtain ⟨B5, hB5⟩ : ∃ T, T = w.heap.size + 1 + 1 := ⟨_, rfl⟩
  try rw [← hB5]
  obtain ⟨B4, hB4⟩ : ∃ T, T = w.heap.size + 1 := ⟨_, rfl⟩
  try rw [← hB4]
  obtain ⟨B2, hB2⟩ : ∃ T, T = w.heap.size := ⟨_, rfl⟩
  try rw [← hB2]
  have C0 : Hid (Chg [] w W0) := Lib.hid (by rw [hW]; exact ((((Chg.refl _ _).alloc _).alloc _).alloc _))
  have HB2 : Hid (Blk W0 B2 [.slice ao s.l.length cap, .int .i64 (en : Int), .int .i64 (s.err : Int), .int .i64 (s.at_ : Int)] 63) := Lib.hid (by rw [hW, hB2]; have := (((Blk.new w [.slice ao s.l.length cap, .int .i64 (en : Int), .int .i64 (s.err : Int), .int .i64 (s.at_ : Int)] 63).alloc (.cells #[.int .i64 0, .string ⟨#[]⟩, .int .i64 0, .int .i64 0] 44)).alloc (.cells #[.slice none 0 0, .int .i64 0, .int .i64 0, .int .i64 0] 63)); simpa using this)
  have HB4 : Hid (Blk W0 B4 [.int .i64 0, .string ⟨#[]⟩, .int .i64 0, .int .i64 0] 44) := Lib.hid (by rw [hW, hB4]; have := ((Blk.new (w.alloc (.cells #[.slice ao s.l.length cap, .int .i64 (en : Int), .int .i64 (s.err : Int), .int .i64 (s.at_ : Int)] 63)) [.int .i64 0, .string ⟨#[]⟩, .int .i64 0, .int .i64 0] 44).alloc (.cells #[.slice none 0 0, .int .i64 0, .int .i64 0, .int .i64 0] 63)); simpa using this)
  have HB5 : Hid (Blk W0 B5 [.slice none 0 0, .int .i64 0, .int .i64 0, .int .i64 0] 63) := Lib.hid (by rw [hW, hB5]; have := (Blk.new ((w.alloc (.cells #[.slice ao s.l.length cap, .int .i64 (en : Int), .int .i64 (s.err : Int), .int .i64 (s.at_ : Int)] 63)).alloc (.cells #[.int .i64 0, .string ⟨#[]⟩, .int .i64 0, .int .i64 0] 44)) [.slice none 0 0, .int .i64 0, .int .i64 0, .int .i64 0] 63); simpa using this)
  have GC0 : Hid (w.heap.size ≤ B2 ∧ w.heap.size ≤ B4 ∧ w.heap.size ≤ B5 ∧ B2 < B4 ∧ B4 < B5) := Lib.hid (by refine ⟨?_, ?_, ?_, ?_, ?_⟩ <;> omega)
  clear hW hB2 hB4 hB5
  have c0 := HB2.out.cell (i := 0) rfl
  have c1 := HB2.out.cell (i := 1) rfl
  have c2 := HB2.out.cell (i := 2) rfl
  have c3 := HB2.out.cell (i := 3) rfl
  go_wp2_with fail
  clear c0 c1 c2 c3
  refine is_r (Lib.hid (HT.out.quiet C0.out)) k [] (fun b w1 HB C1 => ?_)
  have HB2' : Hid (Blk w1 B2 [.slice ao s.l.length cap, .int .i64 (en : Int), .int .i64 (s.err : Int), .int .i64 (s.at_ : Int)] 63) := Lib.hid (C1.out.blk HB2.out (by simp))
  have HB4' : Hid (Blk w1 B4 [.int .i64 0, .string ⟨#[]⟩, .int .i64 0, .int .i64 0] 44) := Lib.hid (C1.out.blk HB4.out (by simp))
  have HB5' : Hid (Blk w1 B5 [.slice none 0 0, .int .i64 0, .int .i64 0, .int .i64 0] 63) := Lib.hid (C1.out.blk HB5.out (by simp))
  have CW : Hid (Chg [] w w1) := Lib.hid (C0.out.trans C1.out (by simp))
  have c0 := HB2'.out.cell (i := 0) rfl
  have c1 := HB2'.out.cell (i := 1) rfl
  have c2 := HB2'.out.cell (i := 2) rfl
  have c3 := HB2'.out.cell (i := 3) rfl
  have hne : B5 ≠ B4 := by have := GC0.out; omega
  have hne' : B4 ≠ B5 := hne.symm
  cases b with
  | false =>
    go_wp2_with fail
    refine fail_r (Lib.hid (HT.out.quiet CW.out)) 4 (fun s' w2 HS HT2 C2 => ?_)
    clear c0 c1 c2 c3
    have D4 : Hid (Blk w2 B4 [.int .i64 0, .string ⟨#[]⟩, .int .i64 0, .int .i64 0] 44) := Lib.hid (C2.out.blk HB4'.out (by simp))
    have D5 : Hid (Blk w2 B5 [.slice none 0 0, .int .i64 0, .int .i64 0, .int .i64 0] 63) := Lib.hid (C2.out.blk HB5'.out (by simp))
    have x0 := D4.out.cell (i := 0) rfl
    have x1 := D4.out.cell (i := 1) rfl
    have x2 := D4.out.cell (i := 2) rfl
    have x3 := D4.out.cell (i := 3) rfl
    have xf0 := D4.out.free 0
    have xf1 := D4.out.free 1
    have xf2 := D4.out.free 2
    have xf3 := D4.out.free 3
    have y0 := D5.out.cell (i := 0) rfl
    have y1 := D5.out.cell (i := 1) rfl
    have y2 := D5.out.cell (i := 2) rfl
    have y3 := D5.out.cell (i := 3) rfl
    have yf0 := D5.out.free 0
    have yf1 := D5.out.free 1
    have yf2 := D5.out.free 2
    have yf3 := D5.out.free 3
    go_wp2_with fail
    clear x0 x1 x2 x3 xf0 xf1 xf2 xf3 y0 y1 y2 y3 yf0 yf1 yf2 yf3
    (try simp only [Exit.inBlock, Exit.then])
    obtain ⟨W3, hW3⟩ : ∃ W, W = ((((((((w2.setCell ⟨B4, 0, none⟩ (.int .i64 0)).setCell ⟨B4, 1, none⟩ (.string ⟨#[]⟩)).setCell ⟨B4, 2, none⟩ (.int .i64 0)).setCell ⟨B4, 3, none⟩ (.int .i64 0)).setCell ⟨B5, 0, none⟩ (.slice ao s'.l.length cap)).setCell ⟨B5, 1, none⟩ (.int .i64 (en : Int))).setCell ⟨B5, 2, none⟩ (.int .i64 (s'.err : Int))).setCell ⟨B5, 3, none⟩ (.int .i64 (s'.at_ : Int))) := ⟨_, rfl⟩
    rw [← hW3]
    have E4 : Hid (Blk W3 B4 [.int .i64 0, .string ⟨#[]⟩, .int .i64 0, .int .i64 0] 44) := Lib.hid (by rw [hW3]; exact (D4.out.set4 _ _ _ _).other4 hne' _ _ _ _)
    have E5 : Hid (Blk W3 B5 [.slice ao s'.l.length cap, .int .i64 (en : Int), .int .i64 (s'.err : Int), .int .i64 (s'.at_ : Int)] 63) := Lib.hid (by rw [hW3]; exact (D5.out.other4 hne _ _ _ _).set4 _ _ _ _)
    have C3 : Hid (Chg [] w W3) := Lib.hid (by rw [hW3]; exact ((CW.out.trans C2.out (by simp)).set4 B4 (.inr (by have := GC0.out; omega)) _ _ _ _).set4 B5 (.inr (by have := GC0.out; omega)) _ _ _ _)
    clear hW3
    refine bodyPost_ret (results_cell_row2 rfl _ _ B4 B5 44 63 #[.int .i64 0, .string ⟨#[]⟩, .int .i64 0, .int .i64 0] #[.slice ao s'.l.length cap, .int .i64 (en : Int), .int .i64 (s'.err : Int), .int .i64 (s'.at_ : Int)] (0, 0) (0, 0) _ _ rfl E4.out rfl E5.out Tryd.underlying44 rfl (by kernel_rfl) Tryd.underlying63 rfl (by kernel_rfl)) rfl ?_
    refine ⟨Rl.tk0, s', ao, cap, Lib.hid ?_, HT2, C3, rfl⟩
    unfold RSt.take
    rw [if_neg (by rw [HB.out]; simp), HS.out]
  | true =>
    obtain ⟨he, t, r, hl, -⟩ := is_cons HB.out
    obtain ⟨l, er, at_⟩ := s
    simp only at he hl
    subst hl
    subst he
    have HTK := Lib.hid (HT.out.quiet CW.out)
    obtain ⟨g, off, rfl, hm, hcap, k0, k1, k2, k3⟩ := HTK.out.hd
    have q0 : (0 : Int) < (r.length : Int) + 1 := by omega
    have htk : RSt.take en ⟨t :: r, 0, at_⟩ k = (t, ⟨r, 0, at_⟩) := by
      unfold RSt.take
      rw [if_pos HB.out]
      rfl
    have HTKE := Lib.hid htk
    have HCAP := Lib.hid hcap
    clear htk
    go_upto_region 4 with fail
    clear k0 k1 k2 k3 c0 c1 c2 c3
    obtain ⟨W2, hW2⟩ : ∃ W, W = w1.alloc (.cells #[.int .i64 (t.kind : Nat), .string ⟨t.text.toArray⟩, .int .i64 (t.n : Nat), .int .i64 (t.at_ : Nat)] 44) := ⟨_, rfl⟩
    rw [← hW2]
    obtain ⟨B6, hB6⟩ : ∃ B, B = w1.heap.size := ⟨_, rfl⟩
    rw [← hB6]
    have HB6 : Hid (Blk W2 B6 [.int .i64 (t.kind : Nat), .string ⟨t.text.toArray⟩, .int .i64 (t.n : Nat), .int .i64 (t.at_ : Nat)] 44) := Lib.hid (by rw [hW2, hB6]; exact Blk.new w1 _ _)
    have C2 : Hid (Chg [] w1 W2) := Lib.hid (by rw [hW2]; exact (Chg.refl _ _).alloc _)
    have G6 : Hid (B5 < B6) := Lib.hid (by rw [hB6]; exact HB5'.out.lt)
    clear hW2 hB6
    have D2 : Hid (Blk W2 B2 [.slice (some ⟨g, off, none⟩) (⟨t :: r, 0, at_⟩ : RSt).l.length cap, .int .i64 (en : Int), .int .i64 ((⟨t :: r, 0, at_⟩ : RSt).err : Int), .int .i64 ((⟨t :: r, 0, at_⟩ : RSt).at_ : Int)] 63) := Lib.hid (C2.out.blk HB2'.out (by simp))
    have D4 : Hid (Blk W2 B4 [.int .i64 0, .string ⟨#[]⟩, .int .i64 0, .int .i64 0] 44) := Lib.hid (C2.out.blk HB4'.out (by simp))
    have D5 : Hid (Blk W2 B5 [.slice none 0 0, .int .i64 0, .int .i64 0, .int .i64 0] 63) := Lib.hid (C2.out.blk HB5'.out (by simp))
    have d0 := D2.out.cell (i := 0) rfl
    have f0 := D2.out.free 0
    go_cut [20] from 18 (fun v wc => ∃ off' cap', v = .slice (some ⟨g, off', none⟩) r.length cap' ∧ (r ≠ [] → off' = off + 4) ∧ r.length ≤ cap' ∧ wc = W2.setCell ⟨B2, 0, none⟩ (.slice (some ⟨g, off', none⟩) r.length cap'))
    case first =>
      have hcap := HCAP.out
      by_cases hc1 : cap = 1
      · subst hc1
        obtain rfl : r = [] := List.eq_nil_of_length_eq_zero (by omega)
        go_wp2_with fail
        go_meet
        case rel => exact ⟨off, 0, rfl, fun h => absurd rfl h, Nat.le_refl _, rfl⟩
      · obtain ⟨c, rfl⟩ : ∃ c, cap = c + 2 := ⟨cap - 2, by omega⟩
        go_wp2_with fail
        go_meet
        case rel => exact ⟨off + 4, c + 1, rfl, fun _ => rfl, by omega, rfl⟩
    case rest =>
      obtain ⟨off', cap', rfl, hof, hcp, hwc⟩ := hcut
      have HTL : Hid (Suf (some ⟨g, off, none⟩) cap (t :: r) (some ⟨g, off', none⟩) cap' r) := Lib.hid (fun v hv => TokS.tl hv hof hcp)
      have D2' : Hid (Blk wc B2 [.slice (some ⟨g, off', none⟩) (⟨r, 0, at_⟩ : RSt).l.length cap', .int .i64 (en : Int), .int .i64 ((⟨r, 0, at_⟩ : RSt).err : Int), .int .i64 ((⟨r, 0, at_⟩ : RSt).at_ : Int)] 63) := Lib.hid (by rw [hwc]; exact D2.out.set 0 _)
      have hn24 : B4 ≠ B2 := by have := GC0.out; omega
      have hn25 : B5 ≠ B2 := by have := GC0.out; omega
      have hn26 : B6 ≠ B2 := by have := GC0.out; have := G6.out; omega
      have hn46 : B6 ≠ B4 := by have := GC0.out; have := G6.out; omega
      have hn56 : B6 ≠ B5 := by have := GC0.out; have := G6.out; omega
      have D4' : Hid (Blk wc B4 [.int .i64 0, .string ⟨#[]⟩, .int .i64 0, .int .i64 0] 44) := Lib.hid (by rw [hwc]; exact D4.out.other _ _ hn24)
      have D5' : Hid (Blk wc B5 [.slice none 0 0, .int .i64 0, .int .i64 0, .int .i64 0] 63) := Lib.hid (by rw [hwc]; exact D5.out.other _ _ hn25)
      have D6' : Hid (Blk wc B6 [.int .i64 (t.kind : Nat), .string ⟨t.text.toArray⟩, .int .i64 (t.n : Nat), .int .i64 (t.at_ : Nat)] 44) := Lib.hid (by rw [hwc]; exact HB6.out.other _ _ hn26)
      have C3 : Hid (Chg [] w wc) := Lib.hid (by rw [hwc]; exact (CW.out.trans C2.out (by simp)).setCell _ _ (.inr (by have := GC0.out; show _ ≤ B2; omega)))
      have HN : Hid (B2 ∉ [B4, B5] ∧ B6 ∉ [B4, B5]) := Lib.hid ⟨by simp only [List.mem_cons, List.not_mem_nil, or_false]; omega, by simp only [List.mem_cons, List.not_mem_nil, or_false]; omega⟩
      clear hwc hof hcp hn24 hn25 hn26 hn46 hn56 d0 f0
      go_upto_region 5 with fail
      refine wp_region_held_drew (S := fun W' => Chg [B4, B5] wc W') (by kernel_rfl) (Chg.refl _ _).drew (fun hHeld => ?_)
      refine wpAnyH_take (i := 0) (v := ?vt0) rfl (by kernel_rfl) (by kernel_rfl) (by kernel_rfl) (fun _ _ _ h => h) (Or.inl ⟨by kernel_rfl, ?hyt0⟩) (by assumption) ?rst0
      case hyt0 => (intro w9 hSw; have e0 := cell_quiet hSw (D6'.out.cell (i := 0) rfl) HN.out.2; have e1 := cell_quiet hSw (D6'.out.cell (i := 1) rfl) HN.out.2; have e2 := cell_quiet hSw (D6'.out.cell (i := 2) rfl) HN.out.2; have e3 := cell_quiet hSw (D6'.out.cell (i := 3) rfl) HN.out.2; go_simp; try with_reducible rfl)
      try simp only [Act.put, List.setIfInBounds_toArray, List.set_cons_zero, List.set_cons_succ, List.getElem_toArray, List.getElem_cons_succ, List.getElem_cons_zero]
      refine wpAnyH_take (i := 1) (v := ?vt1) rfl (by kernel_rfl) (by kernel_rfl) (by kernel_rfl) (fun _ _ _ h => h) (Or.inl ⟨by kernel_rfl, ?hyt1⟩) (by assumption) ?rst1
      case hyt1 => (intro w9 hSw; have e0 := cell_quiet hSw (D2'.out.cell (i := 0) rfl) HN.out.1; have e1 := cell_quiet hSw (D2'.out.cell (i := 1) rfl) HN.out.1; have e2 := cell_quiet hSw (D2'.out.cell (i := 2) rfl) HN.out.1; have e3 := cell_quiet hSw (D2'.out.cell (i := 3) rfl) HN.out.1; go_simp; try with_reducible rfl)
      try simp only [Act.put, List.setIfInBounds_toArray, List.set_cons_zero, List.set_cons_succ, List.getElem_toArray, List.getElem_cons_succ, List.getElem_cons_zero]
      obtain ⟨Z0, hZ0⟩ : ∃ Z, Z = wc.drew := ⟨_, rfl⟩
      rw [← hZ0] at hHeld ⊢
      have X4 : Hid (Blk Z0 B4 [.int .i64 0, .string ⟨#[]⟩, .int .i64 0, .int .i64 0] 44) := Lib.hid (by rw [hZ0]; exact D4'.out.drew)
      have X5 : Hid (Blk Z0 B5 [.slice none 0 0, .int .i64 0, .int .i64 0, .int .i64 0] 63) := Lib.hid (by rw [hZ0]; exact D5'.out.drew)
      clear hZ0
      refine wpAnyH_ready (rs := [2]) (by kernel_rfl) (by simp) (AllReadyH.cons rfl (fun K hK => ?_) AllReadyH.nil)
      have x0 := X4.out.cell (i := 0) rfl
      have x1 := X4.out.cell (i := 1) rfl
      have x2 := X4.out.cell (i := 2) rfl
      have x3 := X4.out.cell (i := 3) rfl
      have xf0 := X4.out.free 0
      have xf1 := X4.out.free 1
      have xf2 := X4.out.free 2
      have xf3 := X4.out.free 3
      go_simp
      refine hK.out _ _ (hHeld.set4 B4 (.inl (by simp)) _ _ _ _) (fun hHeld => ?_)
      clear hK K x0 x1 x2 x3 xf0 xf1 xf2 xf3
      try simp only [Act.put, List.setIfInBounds_toArray, List.set_cons_zero, List.set_cons_succ, List.getElem_toArray, List.getElem_cons_succ, List.getElem_cons_zero]
      obtain ⟨Z1, hZ1⟩ : ∃ Z, Z = ((((Z0.setCell ⟨B4, 0, none⟩ (.int .i64 (t.kind : Nat))).setCell ⟨B4, 1, none⟩ (.string ⟨t.text.toArray⟩)).setCell ⟨B4, 2, none⟩ (.int .i64 (t.n : Nat))).setCell ⟨B4, 3, none⟩ (.int .i64 (t.at_ : Nat))) := ⟨_, rfl⟩
      rw [← hZ1] at hHeld ⊢
      have Y4 : Hid (Blk Z1 B4 [.int .i64 (t.kind : Nat), .string ⟨t.text.toArray⟩, .int .i64 (t.n : Nat), .int .i64 (t.at_ : Nat)] 44) := Lib.hid (by rw [hZ1]; exact X4.out.set4 _ _ _ _)
      have Y5 : Hid (Blk Z1 B5 [.slice none 0 0, .int .i64 0, .int .i64 0, .int .i64 0] 63) := Lib.hid (by rw [hZ1]; exact X5.out.other4 hne _ _ _ _)
      clear hZ1
      refine wpAnyH_ready (rs := [3]) (by kernel_rfl) (by simp) (AllReadyH.cons rfl (fun K hK => ?_) AllReadyH.nil)
      have x0 := Y5.out.cell (i := 0) rfl
      have x1 := Y5.out.cell (i := 1) rfl
      have x2 := Y5.out.cell (i := 2) rfl
      have x3 := Y5.out.cell (i := 3) rfl
      have xf0 := Y5.out.free 0
      have xf1 := Y5.out.free 1
      have xf2 := Y5.out.free 2
      have xf3 := Y5.out.free 3
      go_simp
      refine hK.out _ _ (hHeld.set4 B5 (.inl (by simp)) _ _ _ _) (fun hHeld => ?_)
      clear hK K x0 x1 x2 x3 xf0 xf1 xf2 xf3
      try simp only [Act.put, List.setIfInBounds_toArray, List.set_cons_zero, List.set_cons_succ, List.getElem_toArray, List.getElem_cons_succ, List.getElem_cons_zero]
      obtain ⟨Z2, hZ2⟩ : ∃ Z, Z = ((((Z1.setCell ⟨B5, 0, none⟩ (.slice (some ⟨g, off', none⟩) r.length cap')).setCell ⟨B5, 1, none⟩ (.int .i64 (en : Int))).setCell ⟨B5, 2, none⟩ (.int .i64 0)).setCell ⟨B5, 3, none⟩ (.int .i64 (at_ : Int))) := ⟨_, rfl⟩
      rw [← hZ2] at hHeld ⊢
      have V4 : Hid (Blk Z2 B4 [.int .i64 (t.kind : Nat), .string ⟨t.text.toArray⟩, .int .i64 (t.n : Nat), .int .i64 (t.at_ : Nat)] 44) := Lib.hid (by rw [hZ2]; exact Y4.out.other4 hne' _ _ _ _)
      have V5 : Hid (Blk Z2 B5 [.slice (some ⟨g, off', none⟩) r.length cap', .int .i64 (en : Int), .int .i64 0, .int .i64 (at_ : Int)] 63) := Lib.hid (by rw [hZ2]; exact Y5.out.set4 _ _ _ _)
      clear hZ2
      refine wpAnyH_done (by kernel_rfl) ?_ _
      try simp only [Act.put, List.setIfInBounds_toArray, List.set_cons_zero, List.set_cons_succ, List.getElem_toArray, List.getElem_cons_succ, List.getElem_cons_zero]
      have HH := Lib.hid hHeld
      clear hHeld
      go_wp2_with fail
      (try simp only [Exit.inBlock, Exit.then])
      refine bodyPost_ret (results_cell_row2 rfl _ _ B4 B5 44 63 #[.int .i64 (t.kind : Nat), .string ⟨t.text.toArray⟩, .int .i64 (t.n : Nat), .int .i64 (t.at_ : Nat)] #[.slice (some ⟨g, off', none⟩) r.length cap', .int .i64 (en : Int), .int .i64 0, .int .i64 (at_ : Int)] (0, 0) (0, 0) _ _ rfl V4.out rfl V5.out Tryd.underlying44 rfl (by kernel_rfl) Tryd.underlying63 rfl (by kernel_rfl)) rfl ?_
      have C4 := C3.out.trans HH.out (fun k hk => .inr (by have := GC0.out; simp only [List.mem_cons, List.not_mem_nil, or_false] at hk; omega))
      first | exact ⟨t, RSt.mk r 0 at_, some ⟨g, off', none⟩, cap', HTKE, HTL, Lib.hid C4, rfl⟩ | exact ⟨t, RSt.mk r 0 at_, HTKE, some ⟨g, off', none⟩, cap', HTL, Lib.hid C4, rfl⟩
end Go.Proofs.YtmfjebpefneboaaDoor
namespace Go.Proofs.YtmfjebpefneboaaDoor
set_option linter.unusedVariables false
set_option linter.unusedSimpArgs false
open Go Go.RowKit Go.Shelf
open Lx (Tk)
open Rl (RSt)
set_option maxHeartbeats 1000000 in
set_option maxRecDepth 100000 in
theorem word_r {w : World} {en : Nat} {s : RSt} {ao : Option Addr} {cap : Nat} (HT : Hid (TokS w (.slice ao s.l.length cap) s.l)) (x : Bytes) {R : Ending → World → Prop}
    (h : ∀ (s' : RSt) (ao' : Option Addr) (cap' : Nat) (w' : World), Hid (s.word en x = s') → Hid (Suf ao cap s.l ao' cap' s'.l) → Hid (Chg [] w w') → R (.returned (.agg #[.slice ao' s'.l.length cap', .int .i64 (en : Int), .int .i64 (s'.err : Int), .int .i64 (s'.at_ : Int)])) w') :
    Calls Tryd.prog 44 #[.agg #[.slice ao s.l.length cap, .int .i64 (en : Int), .int .i64 (s.err : Int), .int .i64 (s.at_ : Int)], .string ⟨x.toArray⟩] w R := by
  refine (show Calls Tryd.prog 44 #[.agg #[.slice ao s.l.length cap, .int .i64 (en : Int), .int .i64 (s.err : Int), .int .i64 (s.at_ : Int)], .string ⟨x.toArray⟩] w (fun e w' => ∃ s' ao' cap', Hid (s.word en x = s') ∧ Hid (Suf ao cap s.l ao' cap' s'.l) ∧ Hid (Chg [] w w') ∧ e = .returned (.agg #[.slice ao' s'.l.length cap', .int .i64 (en : Int), .int .i64 (s'.err : Int), .int .i64 (s'.at_ : Int)])) from ?_).mono (fun e w' hx => by obtain ⟨s', ao', cap', h1, h2, h3, h4⟩ := hx; subst h4; exact h s' ao' cap' w' h1 h2 h3)
  clear h
  go_enter Tryd.func44, Tryd.ntmps44
  go_upto_region 1 with fail
  obtain ⟨W0, hW⟩ : ∃ W, W = ((w.alloc (.cells #[.slice ao s.l.length cap, .int .i64 (en : Int), .int .i64 (s.err : Int), .int .i64 (s.at_ : Int)] 63)).alloc (.cells #[.slice none 0 0, .int .i64 0, .int .i64 0, .int .i64 0] 63)) := ⟨_, rfl⟩
  rw [← hW]
  obtain ⟨B4, hB4⟩ : ∃ T, T = w.heap.size + 1 := ⟨_, rfl⟩
  try rw [← hB4]
  obtain ⟨B2, hB2⟩ : ∃ T, T = w.heap.size := ⟨_, rfl⟩
  try rw [← hB2]
  have C0 : Hid (Chg [] w W0) := Lib.hid (by rw [hW]; exact (((Chg.refl _ _).alloc _).alloc _))
  have HB2 : Hid (Blk W0 B2 [.slice ao s.l.length cap, .int .i64 (en : Int), .int .i64 (s.err : Int), .int .i64 (s.at_ : Int)] 63) := Lib.hid (by rw [hW, hB2]; have := ((Blk.new w [.slice ao s.l.length cap, .int .i64 (en : Int), .int .i64 (s.err : Int), .int .i64 (s.at_ : Int)] 63).alloc (.cells #[.slice none 0 0, .int .i64 0, .int .i64 0, .int .i64 0] 63)); simpa using this)
  have HB4 : Hid (Blk W0 B4 [.slice none 0 0, .int .i64 0, .int .i64 0, .int .i64 0] 63) := Lib.hid (by rw [hW, hB4]; have := (Blk.new (w.alloc (.cells #[.slice ao s.l.length cap, .int .i64 (en : Int), .int .i64 (s.err : Int), .int .i64 (s.at_ : Int)] 63)) [.slice none 0 0, .int .i64 0, .int .i64 0, .int .i64 0] 63); simpa using this)
  have GC0 : Hid (w.heap.size ≤ B2 ∧ w.heap.size ≤ B4 ∧ B2 < B4) := Lib.hid (by refine ⟨?_, ?_, ?_⟩ <;> omega)
  clear hW hB2 hB4
  have c0 := HB2.out.cell (i := 0) rfl
  have c1 := HB2.out.cell (i := 1) rfl
  have c2 := HB2.out.cell (i := 2) rfl
  have c3 := HB2.out.cell (i := 3) rfl
  go_wp2_with fail
  clear c0 c1 c2 c3
  refine key_r (Lib.hid (HT.out.quiet C0.out)) x (fun b w1 HB C1 => ?_)
  have HB2' : Hid (Blk w1 B2 [.slice ao s.l.length cap, .int .i64 (en : Int), .int .i64 (s.err : Int), .int .i64 (s.at_ : Int)] 63) := Lib.hid (C1.out.blk HB2.out (by simp))
  have HB4' : Hid (Blk w1 B4 [.slice none 0 0, .int .i64 0, .int .i64 0, .int .i64 0] 63) := Lib.hid (C1.out.blk HB4.out (by simp))
  have CW : Hid (Chg [] w w1) := Lib.hid (C0.out.trans C1.out (by simp))
  have c0 := HB2'.out.cell (i := 0) rfl
  have c1 := HB2'.out.cell (i := 1) rfl
  have c2 := HB2'.out.cell (i := 2) rfl
  have c3 := HB2'.out.cell (i := 3) rfl
  have hne : B4 ≠ B2 := by have := GC0.out; omega
  have hne' : B2 ≠ B4 := hne.symm
  cases b with
  | false =>
    go_wp2_with fail
    refine fail_r (Lib.hid (HT.out.quiet CW.out)) 4 (fun s' w2 HS HT2 C2 => ?_)
    clear c0 c1 c2 c3
    have D4 : Hid (Blk w2 B4 [.slice none 0 0, .int .i64 0, .int .i64 0, .int .i64 0] 63) := Lib.hid (C2.out.blk HB4'.out (by simp))
    have x0 := D4.out.cell (i := 0) rfl
    have x1 := D4.out.cell (i := 1) rfl
    have x2 := D4.out.cell (i := 2) rfl
    have x3 := D4.out.cell (i := 3) rfl
    have xf0 := D4.out.free 0
    have xf1 := D4.out.free 1
    have xf2 := D4.out.free 2
    have xf3 := D4.out.free 3
    go_wp2_with fail
    clear x0 x1 x2 x3 xf0 xf1 xf2 xf3
    (try simp only [Exit.inBlock, Exit.then])
    obtain ⟨W3, hW3⟩ : ∃ W, W = ((((w2.setCell ⟨B4, 0, none⟩ (.slice ao s'.l.length cap)).setCell ⟨B4, 1, none⟩ (.int .i64 (en : Int))).setCell ⟨B4, 2, none⟩ (.int .i64 (s'.err : Int))).setCell ⟨B4, 3, none⟩ (.int .i64 (s'.at_ : Int))) := ⟨_, rfl⟩
    rw [← hW3]
    have E4 : Hid (Blk W3 B4 [.slice ao s'.l.length cap, .int .i64 (en : Int), .int .i64 (s'.err : Int), .int .i64 (s'.at_ : Int)] 63) := Lib.hid (by rw [hW3]; exact D4.out.set4 _ _ _ _)
    have C3 : Hid (Chg [] w W3) := Lib.hid (by rw [hW3]; exact (CW.out.trans C2.out (by simp)).set4 B4 (.inr (by have := GC0.out; omega)) _ _ _ _)
    clear hW3
    refine bodyPost_ret (results_cell_row rfl _ _ B4 63 #[.slice ao s'.l.length cap, .int .i64 (en : Int), .int .i64 (s'.err : Int), .int .i64 (s'.at_ : Int)] (0, 0) _ rfl E4.out Tryd.underlying63 rfl (by kernel_rfl)) rfl ?_
    have hs : s.word en x = s' := by
      unfold RSt.word
      rw [if_neg (by rw [HB.out]; simp), HS.out]
    exact ⟨s', ao, cap, Lib.hid hs, HT2, C3, rfl⟩
  | true =>
    obtain ⟨he, t, r, hl⟩ := key_cons HB.out
    obtain ⟨l, er, at_⟩ := s
    simp only at he hl
    subst hl
    subst he
    obtain ⟨g, off, rfl, hm, hcap, k0, k1, k2, k3⟩ := HT.out.hd
    clear k0 k1 k2 k3
    have htk : RSt.word en ⟨t :: r, 0, at_⟩ x = ⟨r, 0, at_⟩ := by
      unfold RSt.word
      rw [if_pos HB.out]
      rfl
    have HTKE := Lib.hid htk
    have HCAP := Lib.hid hcap
    clear htk
    have f0 := HB2'.out.free 0
    go_upto_region 3 with fail
    go_cut [13] from 9 (fun v wc => ∃ off' cap', v = .slice (some ⟨g, off', none⟩) r.length cap' ∧ (r ≠ [] → off' = off + 4) ∧ r.length ≤ cap' ∧ wc = w1.setCell ⟨B2, 0, none⟩ (.slice (some ⟨g, off', none⟩) r.length cap'))
    case first =>
      have hcap := HCAP.out
      by_cases hc1 : cap = 1
      · subst hc1
        obtain rfl : r = [] := List.eq_nil_of_length_eq_zero (by omega)
        go_wp2_with fail
        go_meet
        case rel => exact ⟨off, 0, rfl, fun h => absurd rfl h, Nat.le_refl _, rfl⟩
      · obtain ⟨c, rfl⟩ : ∃ c, cap = c + 2 := ⟨cap - 2, by omega⟩
        go_wp2_with fail
        go_meet
        case rel => exact ⟨off + 4, c + 1, rfl, fun _ => rfl, by omega, rfl⟩
    case rest =>
      obtain ⟨off', cap', rfl, hof, hcp, hwc⟩ := hcut
      have HTL : Hid (Suf (some ⟨g, off, none⟩) cap (t :: r) (some ⟨g, off', none⟩) cap' r) := Lib.hid (fun v hv => TokS.tl hv hof hcp)
      have D2 : Hid (Blk wc B2 [.slice (some ⟨g, off', none⟩) r.length cap', .int .i64 (en : Int), .int .i64 0, .int .i64 (at_ : Int)] 63) := Lib.hid (by rw [hwc]; exact HB2'.out.set 0 _)
      have D4 : Hid (Blk wc B4 [.slice none 0 0, .int .i64 0, .int .i64 0, .int .i64 0] 63) := Lib.hid (by rw [hwc]; exact HB4'.out.other _ _ hne)
      have C3 : Hid (Chg [] w wc) := Lib.hid (by rw [hwc]; exact CW.out.setCell _ _ (.inr (by have := GC0.out; show _ ≤ B2; omega)))
      clear hwc hof hcp c0 c1 c2 c3 f0
      have c0 := D2.out.cell (i := 0) rfl
      have c1 := D2.out.cell (i := 1) rfl
      have c2 := D2.out.cell (i := 2) rfl
      have c3 := D2.out.cell (i := 3) rfl
      have x0 := D4.out.cell (i := 0) rfl
      have x1 := D4.out.cell (i := 1) rfl
      have x2 := D4.out.cell (i := 2) rfl
      have x3 := D4.out.cell (i := 3) rfl
      have xf0 := D4.out.free 0
      have xf1 := D4.out.free 1
      have xf2 := D4.out.free 2
      have xf3 := D4.out.free 3
      go_wp2_with fail
      clear x0 x1 x2 x3 xf0 xf1 xf2 xf3 c0 c1 c2 c3
      (try simp only [Exit.inBlock, Exit.then])
      obtain ⟨W3, hW3⟩ : ∃ W, W = ((((wc.setCell ⟨B4, 0, none⟩ (.slice (some ⟨g, off', none⟩) r.length cap')).setCell ⟨B4, 1, none⟩ (.int .i64 (en : Int))).setCell ⟨B4, 2, none⟩ (.int .i64 0)).setCell ⟨B4, 3, none⟩ (.int .i64 (at_ : Int))) := ⟨_, rfl⟩
      rw [← hW3]
      have E4 : Hid (Blk W3 B4 [.slice (some ⟨g, off', none⟩) r.length cap', .int .i64 (en : Int), .int .i64 0, .int .i64 (at_ : Int)] 63) := Lib.hid (by rw [hW3]; exact D4.out.set4 _ _ _ _)
      have C4 : Hid (Chg [] w W3) := Lib.hid (by rw [hW3]; exact C3.out.set4 B4 (.inr (by have := GC0.out; omega)) _ _ _ _)
      clear hW3
      refine bodyPost_ret (results_cell_row rfl _ _ B4 63 #[.slice (some ⟨g, off', none⟩) r.length cap', .int .i64 (en : Int), .int .i64 0, .int .i64 (at_ : Int)] (0, 0) _ rfl E4.out Tryd.underlying63 rfl (by kernel_rfl)) rfl ?_
      first | exact ⟨RSt.mk r 0 at_, some ⟨g, off', none⟩, cap', HTKE, HTL, C4, rfl⟩ | exact ⟨RSt.mk r 0 at_, HTKE, some ⟨g, off', none⟩, cap', HTL, C4, rfl⟩
set_option maxHeartbeats 1000000 in
set_option maxRecDepth 100000 in
theorem limit_r {w : World} {en : Nat} {s : RSt} {ao : Option Addr} {cap : Nat} (HT : Hid (TokS w (.slice ao s.l.length cap) s.l)) (n m : Nat) {R : Ending → World → Prop}
    (h : ∀ (s' : RSt) (w' : World), Hid (s.lim en n m = s') → Hid (Suf ao cap s.l ao cap s'.l) → Hid (Chg [] w w') → R (.returned (.agg #[.slice ao s'.l.length cap, .int .i64 (en : Int), .int .i64 (s'.err : Int), .int .i64 (s'.at_ : Int)])) w') :
    Calls Tryd.prog 25 #[.agg #[.slice ao s.l.length cap, .int .i64 (en : Int), .int .i64 (s.err : Int), .int .i64 (s.at_ : Int)], .int .i64 (n : Int), .int .i64 (m : Int)] w R := by
  refine (show Calls Tryd.prog 25 #[.agg #[.slice ao s.l.length cap, .int .i64 (en : Int), .int .i64 (s.err : Int), .int .i64 (s.at_ : Int)], .int .i64 (n : Int), .int .i64 (m : Int)] w (fun e w' => ∃ s', Hid (s.lim en n m = s') ∧ Hid (Suf ao cap s.l ao cap s'.l) ∧ Hid (Chg [] w w') ∧ e = .returned (.agg #[.slice ao s'.l.length cap, .int .i64 (en : Int), .int .i64 (s'.err : Int), .int .i64 (s'.at_ : Int)])) from ?_).mono (fun e w' hx => by obtain ⟨s', h1, h2, h3, h4⟩ := hx; subst h4; exact h s' w' h1 h2 h3)
  clear h
  go_enter Tryd.func25, Tryd.ntmps25
  go_upto_region 1 with fail
  obtain ⟨W0, hW⟩ : ∃ W, W = ((w.alloc (.cells #[.slice ao s.l.length cap, .int .i64 (en : Int), .int .i64 (s.err : Int), .int .i64 (s.at_ : Int)] 63)).alloc (.cells #[.slice none 0 0, .int .i64 0, .int .i64 0, .int .i64 0] 63)) := ⟨_, rfl⟩
  rw [← hW]
  obtain ⟨B6, hB6⟩ : ∃ T, T = w.heap.size + 1 := ⟨_, rfl⟩
  try rw [← hB6]
  obtain ⟨B3, hB3⟩ : ∃ T, T = w.heap.size := ⟨_, rfl⟩
  try rw [← hB3]
  have C0 : Hid (Chg [] w W0) := Lib.hid (by rw [hW]; exact (((Chg.refl _ _).alloc _).alloc _))
  have HB3 : Hid (Blk W0 B3 [.slice ao s.l.length cap, .int .i64 (en : Int), .int .i64 (s.err : Int), .int .i64 (s.at_ : Int)] 63) := Lib.hid (by rw [hW, hB3]; have := ((Blk.new w [.slice ao s.l.length cap, .int .i64 (en : Int), .int .i64 (s.err : Int), .int .i64 (s.at_ : Int)] 63).alloc (.cells #[.slice none 0 0, .int .i64 0, .int .i64 0, .int .i64 0] 63)); simpa using this)
  have HB6 : Hid (Blk W0 B6 [.slice none 0 0, .int .i64 0, .int .i64 0, .int .i64 0] 63) := Lib.hid (by rw [hW, hB6]; have := (Blk.new (w.alloc (.cells #[.slice ao s.l.length cap, .int .i64 (en : Int), .int .i64 (s.err : Int), .int .i64 (s.at_ : Int)] 63)) [.slice none 0 0, .int .i64 0, .int .i64 0, .int .i64 0] 63); simpa using this)
  have GC0 : Hid (w.heap.size ≤ B3 ∧ w.heap.size ≤ B6 ∧ B3 < B6) := Lib.hid (by refine ⟨?_, ?_, ?_⟩ <;> omega)
  clear hW hB3 hB6
  have c0 := HB3.out.cell (i := 0) rfl
  have c1 := HB3.out.cell (i := 1) rfl
  have c2 := HB3.out.cell (i := 2) rfl
  have c3 := HB3.out.cell (i := 3) rfl
  by_cases hb : n = m ∧ s.l ≠ []
  · have q0 : ((n : Int) == (m : Int)) = true := by rw [hb.1]; exact beq_self_eq_true _
    have q1 : (0 : Int) < (s.l.length : Int) := by have := List.length_pos_iff.2 hb.2; omega
    have HBB := Lib.hid hb
    clear hb
    go_wp2_with fail
    refine fail_r (Lib.hid (HT.out.quiet C0.out)) 3 (fun s' w2 HS HT2 C2 => ?_)
    clear c0 c1 c2 c3
    have D4 : Hid (Blk w2 B6 [.slice none 0 0, .int .i64 0, .int .i64 0, .int .i64 0] 63) := Lib.hid (C2.out.blk HB6.out (by simp))
    have x0 := D4.out.cell (i := 0) rfl
    have x1 := D4.out.cell (i := 1) rfl
    have x2 := D4.out.cell (i := 2) rfl
    have x3 := D4.out.cell (i := 3) rfl
    have xf0 := D4.out.free 0
    have xf1 := D4.out.free 1
    have xf2 := D4.out.free 2
    have xf3 := D4.out.free 3
    go_wp2_with fail
    clear x0 x1 x2 x3 xf0 xf1 xf2 xf3
    (try simp only [Exit.inBlock, Exit.then])
    obtain ⟨W3, hW3⟩ : ∃ W, W = ((((w2.setCell ⟨B6, 0, none⟩ (.slice ao s'.l.length cap)).setCell ⟨B6, 1, none⟩ (.int .i64 (en : Int))).setCell ⟨B6, 2, none⟩ (.int .i64 (s'.err : Int))).setCell ⟨B6, 3, none⟩ (.int .i64 (s'.at_ : Int))) := ⟨_, rfl⟩
    rw [← hW3]
    have E4 : Hid (Blk W3 B6 [.slice ao s'.l.length cap, .int .i64 (en : Int), .int .i64 (s'.err : Int), .int .i64 (s'.at_ : Int)] 63) := Lib.hid (by rw [hW3]; exact D4.out.set4 _ _ _ _)
    have C3 : Hid (Chg [] w W3) := Lib.hid (by rw [hW3]; exact (C0.out.trans C2.out (by simp)).set4 B6 (.inr (by have := GC0.out; omega)) _ _ _ _)
    clear hW3
    refine bodyPost_ret (results_cell_row rfl _ _ B6 63 #[.slice ao s'.l.length cap, .int .i64 (en : Int), .int .i64 (s'.err : Int), .int .i64 (s'.at_ : Int)] (0, 0) _ rfl E4.out Tryd.underlying63 rfl (by kernel_rfl)) rfl ?_
    have hs : s.lim en n m = s' := by
      unfold RSt.lim
      rw [if_pos HBB.out, HS.out]
    exact ⟨s', Lib.hid hs, HT2, C3, rfl⟩
  · have hs : s.lim en n m = s := by
      unfold RSt.lim
      rw [if_neg hb]
    have HS := Lib.hid hs
    clear hs
    have fin : ∀ W3, Chg [] w W3 → ∃ s', Hid (s.lim en n m = s') ∧ Hid (Suf ao cap s.l ao cap s'.l) ∧ Hid (Chg [] w W3) ∧ Ending.returned (.agg #[.slice ao s.l.length cap, .int .i64 (en : Int), .int .i64 (s.err : Int), .int .i64 (s.at_ : Int)]) = .returned (.agg #[.slice ao s'.l.length cap, .int .i64 (en : Int), .int .i64 (s'.err : Int), .int .i64 (s'.at_ : Int)]) := fun W3 hc => ⟨s, HS, Lib.hid (fun v hv => hv), Lib.hid hc, rfl⟩
    have FIN := Lib.hid fin
    clear fin
    have x0 := HB6.out.cell (i := 0) rfl
    have x1 := HB6.out.cell (i := 1) rfl
    have x2 := HB6.out.cell (i := 2) rfl
    have x3 := HB6.out.cell (i := 3) rfl
    have xf0 := HB6.out.free 0
    have xf1 := HB6.out.free 1
    have xf2 := HB6.out.free 2
    have xf3 := HB6.out.free 3
    by_cases hnm : n = m
    · have q0 : ((n : Int) == (m : Int)) = true := by rw [hnm]; exact beq_self_eq_true _
      have q1 : ¬ (0 : Int) < (s.l.length : Int) := by
        have hl : s.l = [] := Decidable.byContradiction fun h => hb ⟨hnm, h⟩
        rw [hl]
        decide
      clear hb hnm
      go_wp2_with fail
      clear x0 x1 x2 x3 xf0 xf1 xf2 xf3 c0 c1 c2 c3
      (try simp only [Exit.inBlock, Exit.then])
      obtain ⟨W3, hW3⟩ : ∃ W, W = ((((W0.setCell ⟨B6, 0, none⟩ (.slice ao s.l.length cap)).setCell ⟨B6, 1, none⟩ (.int .i64 (en : Int))).setCell ⟨B6, 2, none⟩ (.int .i64 (s.err : Int))).setCell ⟨B6, 3, none⟩ (.int .i64 (s.at_ : Int))) := ⟨_, rfl⟩
      rw [← hW3]
      have E4 : Hid (Blk W3 B6 [.slice ao s.l.length cap, .int .i64 (en : Int), .int .i64 (s.err : Int), .int .i64 (s.at_ : Int)] 63) := Lib.hid (by rw [hW3]; exact HB6.out.set4 _ _ _ _)
      have C3 : Hid (Chg [] w W3) := Lib.hid (by rw [hW3]; exact C0.out.set4 B6 (.inr (by have := GC0.out; omega)) _ _ _ _)
      clear hW3
      refine bodyPost_ret (results_cell_row rfl _ _ B6 63 #[.slice ao s.l.length cap, .int .i64 (en : Int), .int .i64 (s.err : Int), .int .i64 (s.at_ : Int)] (0, 0) _ rfl E4.out Tryd.underlying63 rfl (by kernel_rfl)) rfl ?_
      exact FIN.out _ C3.out
    · have q0 : ((n : Int) == (m : Int)) = false := beq_eq_false_iff_ne.2 (by omega)
      clear hb hnm
      go_wp2_with fail
      clear x0 x1 x2 x3 xf0 xf1 xf2 xf3 c0 c1 c2 c3
      (try simp only [Exit.inBlock, Exit.then])
      obtain ⟨W3, hW3⟩ : ∃ W, W = ((((W0.setCell ⟨B6, 0, none⟩ (.slice ao s.l.length cap)).setCell ⟨B6, 1, none⟩ (.int .i64 (en : Int))).setCell ⟨B6, 2, none⟩ (.int .i64 (s.err : Int))).setCell ⟨B6, 3, none⟩ (.int .i64 (s.at_ : Int))) := ⟨_, rfl⟩
      rw [← hW3]
      have E4 : Hid (Blk W3 B6 [.slice ao s.l.length cap, .int .i64 (en : Int), .int .i64 (s.err : Int), .int .i64 (s.at_ : Int)] 63) := Lib.hid (by rw [hW3]; exact HB6.out.set4 _ _ _ _)
      have C3 : Hid (Chg [] w W3) := Lib.hid (by rw [hW3]; exact C0.out.set4 B6 (.inr (by have := GC0.out; omega)) _ _ _ _)
      clear hW3
      refine bodyPost_ret (results_cell_row rfl _ _ B6 63 #[.slice ao s.l.length cap, .int .i64 (en : Int), .int .i64 (s.err : Int), .int .i64 (s.at_ : Int)] (0, 0) _ rfl E4.out Tryd.underlying63 rfl (by kernel_rfl)) rfl ?_
      exact FIN.out _ C3.out
end Go.Proofs.YtmfjebpefneboaaDoor
namespace Go.Proofs.YtmfjebpefneboaaDoor
set_option linter.unusedVariables false
set_option linter.unusedSimpArgs false
open Go Go.RowKit Go.Shelf
open Lx (Tk)
open Rl (RSt)
theorem Suf.to {ao ao' : Option Addr} {cap cap' : Nat} {l l' : List Tk} (h : Suf ao cap l ao' cap' l') {w w' : World} (ht : TokS w (.slice ao l.length cap) l) (hc : Chg [] w w') : TokS w' (.slice ao' l'.length cap') l' := (h w ht).quiet hc
theorem Suf.trans {a b c : Option Addr} {m n p : Nat} {l k q : List Tk} (h : Suf a m l b n k) (h' : Suf b n k c p q) : Suf a m l c p q := fun v hv => h' v (h v hv)
set_option maxHeartbeats 1000000 in
set_option maxRecDepth 100000 in
theorem ratio_r {w : World} {en : Nat} {s : RSt} {ao : Option Addr} {cap : Nat} (HT : Hid (TokS w (.slice ao s.l.length cap) s.l)) {R : Ending → World → Prop}
    (h : ∀ (p q : Nat) (s' : RSt) (ao' : Option Addr) (cap' : Nat) (w' : World), Hid (s.ratio en = ((p, q), s')) → Hid (Suf ao cap s.l ao' cap' s'.l) → Hid (Chg [] w w') → R (.returned (.tuple #[.agg #[.int .i64 (p : Nat), .int .i64 (q : Nat)], .agg #[.slice ao' s'.l.length cap', .int .i64 (en : Int), .int .i64 (s'.err : Int), .int .i64 (s'.at_ : Int)]])) w') :
    Calls Tryd.prog 45 #[.agg #[.slice ao s.l.length cap, .int .i64 (en : Int), .int .i64 (s.err : Int), .int .i64 (s.at_ : Int)]] w R := by
  refine (show Calls Tryd.prog 45 #[.agg #[.slice ao s.l.length cap, .int .i64 (en : Int), .int .i64 (s.err : Int), .int .i64 (s.at_ : Int)]] w (fun e w' => ∃ p q s' ao' cap', Hid (s.ratio en = ((p, q), s')) ∧ Hid (Suf ao cap s.l ao' cap' s'.l) ∧ Hid (Chg [] w w') ∧ e = .returned (.tuple #[.agg #[.int .i64 (p : Nat), .int .i64 (q : Nat)], .agg #[.slice ao' s'.l.length cap', .int .i64 (en : Int), .int .i64 (s'.err : Int), .int .i64 (s'.at_ : Int)]])) from ?_).mono (fun e w' hx => by obtain ⟨p, q, s', ao', cap', h1, h2, h3, h4⟩ := hx; subst h4; exact h p q s' ao' cap' w' h1 h2 h3)
  clear h
  go_enter Tryd.func45, Tryd.ntmps45
  go_upto_region 1 with fail
  obtain ⟨W1, hW⟩ : ∃ W, W = (((w.alloc (.cells #[.slice ao s.l.length cap, .int .i64 (en : Int), .int .i64 (s.err : Int), .int .i64 (s.at_ : Int)] 63)).alloc (.cells #[.int .i64 0, .int .i64 0] 40)).alloc (.cells #[.slice none 0 0, .int .i64 0, .int .i64 0, .int .i64 0] 63)) := ⟨_, rfl⟩
  rw [← hW]
  obtain ⟨X3, hX3⟩ : ∃ T, T = w.heap.size + 1 + 1 := ⟨_, rfl⟩
  try rw [← hX3]
  obtain ⟨X2, hX2⟩ : ∃ T, T = w.heap.size + 1 := ⟨_, rfl⟩
  try rw [← hX2]
  obtain ⟨X1, hX1⟩ : ∃ T, T = w.heap.size := ⟨_, rfl⟩
  try rw [← hX1]
  have OX1 : Hid (w.heap.size ≤ X1) := Lib.hid (by rw [hX1]; exact Nat.le_refl _)
  have OX2 : Hid (X1 < X2) := Lib.hid (by rw [hX2, hX1]; omega)
  have OX3 : Hid (X2 < X3) := Lib.hid (by rw [hX3, hX2]; omega)
  have HX1_1 : Hid (Blk W1 X1 [.slice ao s.l.length cap, .int .i64 (en : Int), .int .i64 (s.err : Int), .int .i64 (s.at_ : Int)] 63) := Lib.hid (by
    have h1 := Blk.new w [.slice ao s.l.length cap, .int .i64 (en : Int), .int .i64 (s.err : Int), .int .i64 (s.at_ : Int)] 63
    have h2 : w.heap.size = X1 := by simp [hX1]
    rw [h2] at h1
    rw [hW]
    exact ((h1.alloc _).alloc _))
  have HX2_1 : Hid (Blk W1 X2 [.int .i64 0, .int .i64 0] 40) := Lib.hid (by
    have h1 := Blk.new (w.alloc (.cells #[.slice ao s.l.length cap, .int .i64 (en : Int), .int .i64 (s.err : Int), .int .i64 (s.at_ : Int)] 63)) [.int .i64 0, .int .i64 0] 40
    have h2 : (w.alloc (.cells #[.slice ao s.l.length cap, .int .i64 (en : Int), .int .i64 (s.err : Int), .int .i64 (s.at_ : Int)] 63)).heap.size = X2 := by simp [hX2]
    rw [h2] at h1
    rw [hW]
    exact (h1.alloc _))
  have HX3_1 : Hid (Blk W1 X3 [.slice none 0 0, .int .i64 0, .int .i64 0, .int .i64 0] 63) := Lib.hid (by
    have h1 := Blk.new ((w.alloc (.cells #[.slice ao s.l.length cap, .int .i64 (en : Int), .int .i64 (s.err : Int), .int .i64 (s.at_ : Int)] 63)).alloc (.cells #[.int .i64 0, .int .i64 0] 40)) [.slice none 0 0, .int .i64 0, .int .i64 0, .int .i64 0] 63
    have h2 : ((w.alloc (.cells #[.slice ao s.l.length cap, .int .i64 (en : Int), .int .i64 (s.err : Int), .int .i64 (s.at_ : Int)] 63)).alloc (.cells #[.int .i64 0, .int .i64 0] 40)).heap.size = X3 := by simp [hX3]
    rw [h2] at h1
    rw [hW]
    exact h1)
  have C1 : Hid (Chg [] w W1) := Lib.hid (by rw [hW]; exact ((((Chg.refl [] w).alloc _).alloc _).alloc _))
  clear hW hX1 hX2 hX3
  have cX1_0 := HX1_1.out.cell (i := 0) rfl
  have cX1_1 := HX1_1.out.cell (i := 1) rfl
  have cX1_2 := HX1_1.out.cell (i := 2) rfl
  have cX1_3 := HX1_1.out.cell (i := 3) rfl
  go_wp2_with fail
  clear cX1_0 cX1_1 cX1_2 cX1_3
  refine take_r (Lib.hid (HT.out.quiet C1.out)) 2 (fun t1 s1 ao1 cap1 w1 HE1 HS1 D1 => ?_)
  have HX1_2 : Hid (Blk w1 X1 [.slice ao s.l.length cap, .int .i64 (en : Int), .int .i64 (s.err : Int), .int .i64 (s.at_ : Int)] 63) := Lib.hid (D1.out.blk HX1_1.out (by simp))
  have HX2_2 : Hid (Blk w1 X2 [.int .i64 0, .int .i64 0] 40) := Lib.hid (D1.out.blk HX2_1.out (by simp))
  have HX3_2 : Hid (Blk w1 X3 [.slice none 0 0, .int .i64 0, .int .i64 0, .int .i64 0] 63) := Lib.hid (D1.out.blk HX3_1.out (by simp))
  have C2 : Hid (Chg [] w w1) := Lib.hid (C1.out.trans D1.out (by simp))
  have cX1_0 := fun o0 : Obj => (HX1_2.out.alloc o0).cell (i := 0) rfl
  have cX1_1 := fun o0 : Obj => (HX1_2.out.alloc o0).cell (i := 1) rfl
  have cX1_2 := fun o0 : Obj => (HX1_2.out.alloc o0).cell (i := 2) rfl
  have cX1_3 := fun o0 : Obj => (HX1_2.out.alloc o0).cell (i := 3) rfl
  have cX1_f0 := fun o0 : Obj => (HX1_2.out.alloc o0).free 0
  have cX1_f1 := fun o0 : Obj => (HX1_2.out.alloc o0).free 1
  have cX1_f2 := fun o0 : Obj => (HX1_2.out.alloc o0).free 2
  have cX1_f3 := fun o0 : Obj => (HX1_2.out.alloc o0).free 3
  go_upto_region 2 with fail
  clear cX1_0 cX1_1 cX1_2 cX1_3 cX1_f0 cX1_f1 cX1_f2 cX1_f3
  have NX2_X1 : X2 ≠ X1 := by have OX1_ := OX1.out; have OX2_ := OX2.out; have OX3_ := OX3.out; omega
  have NX1_X2 : X1 ≠ X2 := NX2_X1.symm
  have NX3_X1 : X3 ≠ X1 := by have OX1_ := OX1.out; have OX2_ := OX2.out; have OX3_ := OX3.out; omega
  have NX1_X3 : X1 ≠ X3 := NX3_X1.symm
  obtain ⟨W3, hW⟩ : ∃ W, W = (((((w1.alloc (.cells #[.int .i64 (t1.kind : Nat), .string ⟨t1.text.toArray⟩, .int .i64 (t1.n : Nat), .int .i64 (t1.at_ : Nat)] 44)).setCell ⟨X1, 0, none⟩ (.slice ao1 s1.l.length cap1)).setCell ⟨X1, 1, none⟩ (.int .i64 (en : Int))).setCell ⟨X1, 2, none⟩ (.int .i64 (s1.err : Int))).setCell ⟨X1, 3, none⟩ (.int .i64 (s1.at_ : Int))) := ⟨_, rfl⟩
  rw [← hW]
  obtain ⟨X4, hX4⟩ : ∃ T, T = w1.heap.size := ⟨_, rfl⟩
  try rw [← hX4]
  have OX4 : Hid (X3 < X4) := Lib.hid (by rw [hX4]; exact HX3_2.out.lt)
  have NX4_X1 : X4 ≠ X1 := by have OX1_ := OX1.out; have OX2_ := OX2.out; have OX3_ := OX3.out; have OX4_ := OX4.out; omega
  have NX1_X4 : X1 ≠ X4 := NX4_X1.symm
  have HX1_3 : Hid (Blk W3 X1 [.slice ao1 s1.l.length cap1, .int .i64 (en : Int), .int .i64 (s1.err : Int), .int .i64 (s1.at_ : Int)] 63) := Lib.hid (by rw [hW]; exact (((((HX1_2.out.alloc _).set 0 (.slice ao1 s1.l.length cap1)).set 1 (.int .i64 (en : Int))).set 2 (.int .i64 (s1.err : Int))).set 3 (.int .i64 (s1.at_ : Int))))
  have HX2_3 : Hid (Blk W3 X2 [.int .i64 0, .int .i64 0] 40) := Lib.hid (by rw [hW]; exact (((((HX2_2.out.alloc _).other _ _ NX2_X1).other _ _ NX2_X1).other _ _ NX2_X1).other _ _ NX2_X1))
  have HX3_3 : Hid (Blk W3 X3 [.slice none 0 0, .int .i64 0, .int .i64 0, .int .i64 0] 63) := Lib.hid (by rw [hW]; exact (((((HX3_2.out.alloc _).other _ _ NX3_X1).other _ _ NX3_X1).other _ _ NX3_X1).other _ _ NX3_X1))
  have HX4_3 : Hid (Blk W3 X4 [.int .i64 (t1.kind : Nat), .string ⟨t1.text.toArray⟩, .int .i64 (t1.n : Nat), .int .i64 (t1.at_ : Nat)] 44) := Lib.hid (by
    have h1 := Blk.new w1 [.int .i64 (t1.kind : Nat), .string ⟨t1.text.toArray⟩, .int .i64 (t1.n : Nat), .int .i64 (t1.at_ : Nat)] 44
    have h2 : w1.heap.size = X4 := by simp [hX4]
    rw [h2] at h1
    rw [hW]
    exact ((((h1.other _ _ NX4_X1).other _ _ NX4_X1).other _ _ NX4_X1).other _ _ NX4_X1))
  have C3 : Hid (Chg [] w W3) := Lib.hid (by rw [hW]; exact (((((C2.out.alloc _).setCell _ _ (.inr (by have OX1_ := OX1.out; have OX2_ := OX2.out; have OX3_ := OX3.out; have OX4_ := OX4.out; show w.heap.size ≤ X1; omega))).setCell _ _ (.inr (by have OX1_ := OX1.out; have OX2_ := OX2.out; have OX3_ := OX3.out; have OX4_ := OX4.out; show w.heap.size ≤ X1; omega))).setCell _ _ (.inr (by have OX1_ := OX1.out; have OX2_ := OX2.out; have OX3_ := OX3.out; have OX4_ := OX4.out; show w.heap.size ≤ X1; omega))).setCell _ _ (.inr (by have OX1_ := OX1.out; have OX2_ := OX2.out; have OX3_ := OX3.out; have OX4_ := OX4.out; show w.heap.size ≤ X1; omega))))
  clear hW hX4
  have cX1_0 := HX1_3.out.cell (i := 0) rfl
  have cX1_1 := HX1_3.out.cell (i := 1) rfl
  have cX1_2 := HX1_3.out.cell (i := 2) rfl
  have cX1_3 := HX1_3.out.cell (i := 3) rfl
  go_wp2_with fail
  clear cX1_0 cX1_1 cX1_2 cX1_3
  refine word_r (Lib.hid (HS1.out.to HT.out C3.out)) [47] (fun s2 ao2 cap2 w2 HE2 HS2 D2 => ?_)
  have HX1_4 : Hid (Blk w2 X1 [.slice ao1 s1.l.length cap1, .int .i64 (en : Int), .int .i64 (s1.err : Int), .int .i64 (s1.at_ : Int)] 63) := Lib.hid (D2.out.blk HX1_3.out (by simp))
  have HX2_4 : Hid (Blk w2 X2 [.int .i64 0, .int .i64 0] 40) := Lib.hid (D2.out.blk HX2_3.out (by simp))
  have HX3_4 : Hid (Blk w2 X3 [.slice none 0 0, .int .i64 0, .int .i64 0, .int .i64 0] 63) := Lib.hid (D2.out.blk HX3_3.out (by simp))
  have HX4_4 : Hid (Blk w2 X4 [.int .i64 (t1.kind : Nat), .string ⟨t1.text.toArray⟩, .int .i64 (t1.n : Nat), .int .i64 (t1.at_ : Nat)] 44) := Lib.hid (D2.out.blk HX4_3.out (by simp))
  have C4 : Hid (Chg [] w w2) := Lib.hid (C3.out.trans D2.out (by simp))
  have cX1_0 := HX1_4.out.cell (i := 0) rfl
  have cX1_1 := HX1_4.out.cell (i := 1) rfl
  have cX1_2 := HX1_4.out.cell (i := 2) rfl
  have cX1_3 := HX1_4.out.cell (i := 3) rfl
  have cX1_f0 := HX1_4.out.free 0
  have cX1_f1 := HX1_4.out.free 1
  have cX1_f2 := HX1_4.out.free 2
  have cX1_f3 := HX1_4.out.free 3
  go_upto_region 3 with fail
  clear cX1_0 cX1_1 cX1_2 cX1_3 cX1_f0 cX1_f1 cX1_f2 cX1_f3
  obtain ⟨W5, hW⟩ : ∃ W, W = ((((w2.setCell ⟨X1, 0, none⟩ (.slice ao2 s2.l.length cap2)).setCell ⟨X1, 1, none⟩ (.int .i64 (en : Int))).setCell ⟨X1, 2, none⟩ (.int .i64 (s2.err : Int))).setCell ⟨X1, 3, none⟩ (.int .i64 (s2.at_ : Int))) := ⟨_, rfl⟩
  rw [← hW]
  have HX1_5 : Hid (Blk W5 X1 [.slice ao2 s2.l.length cap2, .int .i64 (en : Int), .int .i64 (s2.err : Int), .int .i64 (s2.at_ : Int)] 63) := Lib.hid (by rw [hW]; exact ((((HX1_4.out.set 0 (.slice ao2 s2.l.length cap2)).set 1 (.int .i64 (en : Int))).set 2 (.int .i64 (s2.err : Int))).set 3 (.int .i64 (s2.at_ : Int))))
  have HX2_5 : Hid (Blk W5 X2 [.int .i64 0, .int .i64 0] 40) := Lib.hid (by rw [hW]; exact ((((HX2_4.out.other _ _ NX2_X1).other _ _ NX2_X1).other _ _ NX2_X1).other _ _ NX2_X1))
  have HX3_5 : Hid (Blk W5 X3 [.slice none 0 0, .int .i64 0, .int .i64 0, .int .i64 0] 63) := Lib.hid (by rw [hW]; exact ((((HX3_4.out.other _ _ NX3_X1).other _ _ NX3_X1).other _ _ NX3_X1).other _ _ NX3_X1))
  have HX4_5 : Hid (Blk W5 X4 [.int .i64 (t1.kind : Nat), .string ⟨t1.text.toArray⟩, .int .i64 (t1.n : Nat), .int .i64 (t1.at_ : Nat)] 44) := Lib.hid (by rw [hW]; exact ((((HX4_4.out.other _ _ NX4_X1).other _ _ NX4_X1).other _ _ NX4_X1).other _ _ NX4_X1))
  have C5 : Hid (Chg [] w W5) := Lib.hid (by rw [hW]; exact ((((C4.out.setCell _ _ (.inr (by have OX1_ := OX1.out; have OX2_ := OX2.out; have OX3_ := OX3.out; have OX4_ := OX4.out; show w.heap.size ≤ X1; omega))).setCell _ _ (.inr (by have OX1_ := OX1.out; have OX2_ := OX2.out; have OX3_ := OX3.out; have OX4_ := OX4.out; show w.heap.size ≤ X1; omega))).setCell _ _ (.inr (by have OX1_ := OX1.out; have OX2_ := OX2.out; have OX3_ := OX3.out; have OX4_ := OX4.out; show w.heap.size ≤ X1; omega))).setCell _ _ (.inr (by have OX1_ := OX1.out; have OX2_ := OX2.out; have OX3_ := OX3.out; have OX4_ := OX4.out; show w.heap.size ≤ X1; omega))))
  clear hW
  have cX1_0 := HX1_5.out.cell (i := 0) rfl
  have cX1_1 := HX1_5.out.cell (i := 1) rfl
  have cX1_2 := HX1_5.out.cell (i := 2) rfl
  have cX1_3 := HX1_5.out.cell (i := 3) rfl
  go_wp2_with fail
  clear cX1_0 cX1_1 cX1_2 cX1_3
  refine take_r (Lib.hid ((HS1.out.trans HS2.out).to HT.out C5.out)) 2 (fun t3 s3 ao3 cap3 w3 HE3 HS3 D3 => ?_)
  have HX1_6 : Hid (Blk w3 X1 [.slice ao2 s2.l.length cap2, .int .i64 (en : Int), .int .i64 (s2.err : Int), .int .i64 (s2.at_ : Int)] 63) := Lib.hid (D3.out.blk HX1_5.out (by simp))
  have HX2_6 : Hid (Blk w3 X2 [.int .i64 0, .int .i64 0] 40) := Lib.hid (D3.out.blk HX2_5.out (by simp))
  have HX3_6 : Hid (Blk w3 X3 [.slice none 0 0, .int .i64 0, .int .i64 0, .int .i64 0] 63) := Lib.hid (D3.out.blk HX3_5.out (by simp))
  have HX4_6 : Hid (Blk w3 X4 [.int .i64 (t1.kind : Nat), .string ⟨t1.text.toArray⟩, .int .i64 (t1.n : Nat), .int .i64 (t1.at_ : Nat)] 44) := Lib.hid (D3.out.blk HX4_5.out (by simp))
  have C6 : Hid (Chg [] w w3) := Lib.hid (C5.out.trans D3.out (by simp))
  have cX1_0 := fun o0 : Obj => (HX1_6.out.alloc o0).cell (i := 0) rfl
  have cX1_1 := fun o0 : Obj => (HX1_6.out.alloc o0).cell (i := 1) rfl
  have cX1_2 := fun o0 : Obj => (HX1_6.out.alloc o0).cell (i := 2) rfl
  have cX1_3 := fun o0 : Obj => (HX1_6.out.alloc o0).cell (i := 3) rfl
  have cX1_f0 := fun o0 : Obj => (HX1_6.out.alloc o0).free 0
  have cX1_f1 := fun o0 : Obj => (HX1_6.out.alloc o0).free 1
  have cX1_f2 := fun o0 : Obj => (HX1_6.out.alloc o0).free 2
  have cX1_f3 := fun o0 : Obj => (HX1_6.out.alloc o0).free 3
  go_upto_region 4 with fail
  clear cX1_0 cX1_1 cX1_2 cX1_3 cX1_f0 cX1_f1 cX1_f2 cX1_f3
  obtain ⟨W7, hW⟩ : ∃ W, W = (((((w3.alloc (.cells #[.int .i64 (t3.kind : Nat), .string ⟨t3.text.toArray⟩, .int .i64 (t3.n : Nat), .int .i64 (t3.at_ : Nat)] 44)).setCell ⟨X1, 0, none⟩ (.slice ao3 s3.l.length cap3)).setCell ⟨X1, 1, none⟩ (.int .i64 (en : Int))).setCell ⟨X1, 2, none⟩ (.int .i64 (s3.err : Int))).setCell ⟨X1, 3, none⟩ (.int .i64 (s3.at_ : Int))) := ⟨_, rfl⟩
  rw [← hW]
  obtain ⟨X5, hX5⟩ : ∃ T, T = w3.heap.size := ⟨_, rfl⟩
  try rw [← hX5]
  have OX5 : Hid (X4 < X5) := Lib.hid (by rw [hX5]; exact HX4_6.out.lt)
  have NX5_X1 : X5 ≠ X1 := by have OX1_ := OX1.out; have OX2_ := OX2.out; have OX3_ := OX3.out; have OX4_ := OX4.out; have OX5_ := OX5.out; omega
  have NX1_X5 : X1 ≠ X5 := NX5_X1.symm
  have HX1_7 : Hid (Blk W7 X1 [.slice ao3 s3.l.length cap3, .int .i64 (en : Int), .int .i64 (s3.err : Int), .int .i64 (s3.at_ : Int)] 63) := Lib.hid (by rw [hW]; exact (((((HX1_6.out.alloc _).set 0 (.slice ao3 s3.l.length cap3)).set 1 (.int .i64 (en : Int))).set 2 (.int .i64 (s3.err : Int))).set 3 (.int .i64 (s3.at_ : Int))))
  have HX2_7 : Hid (Blk W7 X2 [.int .i64 0, .int .i64 0] 40) := Lib.hid (by rw [hW]; exact (((((HX2_6.out.alloc _).other _ _ NX2_X1).other _ _ NX2_X1).other _ _ NX2_X1).other _ _ NX2_X1))
  have HX3_7 : Hid (Blk W7 X3 [.slice none 0 0, .int .i64 0, .int .i64 0, .int .i64 0] 63) := Lib.hid (by rw [hW]; exact (((((HX3_6.out.alloc _).other _ _ NX3_X1).other _ _ NX3_X1).other _ _ NX3_X1).other _ _ NX3_X1))
  have HX4_7 : Hid (Blk W7 X4 [.int .i64 (t1.kind : Nat), .string ⟨t1.text.toArray⟩, .int .i64 (t1.n : Nat), .int .i64 (t1.at_ : Nat)] 44) := Lib.hid (by rw [hW]; exact (((((HX4_6.out.alloc _).other _ _ NX4_X1).other _ _ NX4_X1).other _ _ NX4_X1).other _ _ NX4_X1))
  have HX5_7 : Hid (Blk W7 X5 [.int .i64 (t3.kind : Nat), .string ⟨t3.text.toArray⟩, .int .i64 (t3.n : Nat), .int .i64 (t3.at_ : Nat)] 44) := Lib.hid (by
    have h1 := Blk.new w3 [.int .i64 (t3.kind : Nat), .string ⟨t3.text.toArray⟩, .int .i64 (t3.n : Nat), .int .i64 (t3.at_ : Nat)] 44
    have h2 : w3.heap.size = X5 := by simp [hX5]
    rw [h2] at h1
    rw [hW]
    exact ((((h1.other _ _ NX5_X1).other _ _ NX5_X1).other _ _ NX5_X1).other _ _ NX5_X1))
  have C7 : Hid (Chg [] w W7) := Lib.hid (by rw [hW]; exact (((((C6.out.alloc _).setCell _ _ (.inr (by have OX1_ := OX1.out; have OX2_ := OX2.out; have OX3_ := OX3.out; have OX4_ := OX4.out; have OX5_ := OX5.out; show w.heap.size ≤ X1; omega))).setCell _ _ (.inr (by have OX1_ := OX1.out; have OX2_ := OX2.out; have OX3_ := OX3.out; have OX4_ := OX4.out; have OX5_ := OX5.out; show w.heap.size ≤ X1; omega))).setCell _ _ (.inr (by have OX1_ := OX1.out; have OX2_ := OX2.out; have OX3_ := OX3.out; have OX4_ := OX4.out; have OX5_ := OX5.out; show w.heap.size ≤ X1; omega))).setCell _ _ (.inr (by have OX1_ := OX1.out; have OX2_ := OX2.out; have OX3_ := OX3.out; have OX4_ := OX4.out; have OX5_ := OX5.out; show w.heap.size ≤ X1; omega))))
  clear hW hX5
  have NX2_X3 : X2 ≠ X3 := by have OX1_ := OX1.out; have OX2_ := OX2.out; have OX3_ := OX3.out; have OX4_ := OX4.out; have OX5_ := OX5.out; omega
  have NX3_X2 : X3 ≠ X2 := NX2_X3.symm
  have NX4_X2 : X4 ≠ X2 := by have OX1_ := OX1.out; have OX2_ := OX2.out; have OX3_ := OX3.out; have OX4_ := OX4.out; have OX5_ := OX5.out; omega
  have NX2_X4 : X2 ≠ X4 := NX4_X2.symm
  have NX4_X3 : X4 ≠ X3 := by have OX1_ := OX1.out; have OX2_ := OX2.out; have OX3_ := OX3.out; have OX4_ := OX4.out; have OX5_ := OX5.out; omega
  have NX3_X4 : X3 ≠ X4 := NX4_X3.symm
  have NX5_X2 : X5 ≠ X2 := by have OX1_ := OX1.out; have OX2_ := OX2.out; have OX3_ := OX3.out; have OX4_ := OX4.out; have OX5_ := OX5.out; omega
  have NX2_X5 : X2 ≠ X5 := NX5_X2.symm
  have NX5_X3 : X5 ≠ X3 := by have OX1_ := OX1.out; have OX2_ := OX2.out; have OX3_ := OX3.out; have OX4_ := OX4.out; have OX5_ := OX5.out; omega
  have NX3_X5 : X3 ≠ X5 := NX5_X3.symm
  have MtX4_1 : X4 ∉ [X2, X3] := by simp [NX4_X2, NX4_X3]
  have MtX5_3 : X5 ∉ [X2, X3] := by simp [NX5_X2, NX5_X3]
  have MtX1_5 : X1 ∉ [X2, X3] := by simp [NX1_X2, NX1_X3]
  refine wp_region_held_drew (S := fun W' => Chg [X2, X3] W7 W') (by kernel_rfl) (Chg.refl _ _).drew (fun hHeld => ?_)
  refine wpAnyH_take (i := 0) (v := ?vt0) rfl (by kernel_rfl) (by kernel_rfl) (by kernel_rfl) (fun _ _ _ h => h) (Or.inl ⟨by kernel_rfl, ?hyt0⟩) (by assumption) ?rst0
  case hyt0 => (intro w9 hSw; skip; go_simp; try with_reducible rfl)
  try simp only [Act.put, List.setIfInBounds_toArray, List.set_cons_zero, List.set_cons_succ, List.getElem_toArray, List.getElem_cons_succ, List.getElem_cons_zero]
  refine wpAnyH_take (i := 1) (v := ?vt1) rfl (by kernel_rfl) (by kernel_rfl) (by kernel_rfl) (fun _ _ _ h => h) (Or.inl ⟨by kernel_rfl, ?hyt1⟩) (by assumption) ?rst1
  case hyt1 => (intro w9 hSw; have e0 := cell_quiet hSw (HX4_7.out.cell (i := 0) rfl) MtX4_1; have e1 := cell_quiet hSw (HX4_7.out.cell (i := 1) rfl) MtX4_1; have e2 := cell_quiet hSw (HX4_7.out.cell (i := 2) rfl) MtX4_1; have e3 := cell_quiet hSw (HX4_7.out.cell (i := 3) rfl) MtX4_1; go_simp; try with_reducible rfl)
  try simp only [Act.put, List.setIfInBounds_toArray, List.set_cons_zero, List.set_cons_succ, List.getElem_toArray, List.getElem_cons_succ, List.getElem_cons_zero]
  refine wpAnyH_take (i := 2) (v := ?vt2) rfl (by kernel_rfl) (by kernel_rfl) (by kernel_rfl) (fun _ _ _ h => h) (Or.inl ⟨by kernel_rfl, ?hyt2⟩) (by assumption) ?rst2
  case hyt2 => (intro w9 hSw; skip; go_simp; try with_reducible rfl)
  try simp only [Act.put, List.setIfInBounds_toArray, List.set_cons_zero, List.set_cons_succ, List.getElem_toArray, List.getElem_cons_succ, List.getElem_cons_zero]
  refine wpAnyH_take (i := 3) (v := ?vt3) rfl (by kernel_rfl) (by kernel_rfl) (by kernel_rfl) (fun _ _ _ h => h) (Or.inl ⟨by kernel_rfl, ?hyt3⟩) (by assumption) ?rst3
  case hyt3 => (intro w9 hSw; have e0 := cell_quiet hSw (HX5_7.out.cell (i := 0) rfl) MtX5_3; have e1 := cell_quiet hSw (HX5_7.out.cell (i := 1) rfl) MtX5_3; have e2 := cell_quiet hSw (HX5_7.out.cell (i := 2) rfl) MtX5_3; have e3 := cell_quiet hSw (HX5_7.out.cell (i := 3) rfl) MtX5_3; go_simp; try with_reducible rfl)
  try simp only [Act.put, List.setIfInBounds_toArray, List.set_cons_zero, List.set_cons_succ, List.getElem_toArray, List.getElem_cons_succ, List.getElem_cons_zero]
  refine wpAnyH_take (i := 4) (v := ?vt4) rfl (by kernel_rfl) (by kernel_rfl) (by kernel_rfl) (fun _ _ _ h => h) (Or.inl ⟨by kernel_rfl, ?hyt4⟩) (by assumption) ?rst4
  case hyt4 => (intro w9 hSw; skip; go_simp; try with_reducible rfl)
  try simp only [Act.put, List.setIfInBounds_toArray, List.set_cons_zero, List.set_cons_succ, List.getElem_toArray, List.getElem_cons_succ, List.getElem_cons_zero]
  refine wpAnyH_take (i := 5) (v := ?vt5) rfl (by kernel_rfl) (by kernel_rfl) (by kernel_rfl) (fun _ _ _ h => h) (Or.inl ⟨by kernel_rfl, ?hyt5⟩) (by assumption) ?rst5
  case hyt5 => (intro w9 hSw; have e0 := cell_quiet hSw (HX1_7.out.cell (i := 0) rfl) MtX1_5; have e1 := cell_quiet hSw (HX1_7.out.cell (i := 1) rfl) MtX1_5; have e2 := cell_quiet hSw (HX1_7.out.cell (i := 2) rfl) MtX1_5; have e3 := cell_quiet hSw (HX1_7.out.cell (i := 3) rfl) MtX1_5; go_simp; try with_reducible rfl)
  try simp only [Act.put, List.setIfInBounds_toArray, List.set_cons_zero, List.set_cons_succ, List.getElem_toArray, List.getElem_cons_succ, List.getElem_cons_zero]
  obtain ⟨Zt0, hZ⟩ : ∃ Z, Z = W7.drew := ⟨_, rfl⟩
  rw [← hZ] at hHeld ⊢
  have QtX2_0 : Hid (Blk Zt0 X2 [.int .i64 0, .int .i64 0] 40) := Lib.hid (by rw [hZ]; exact HX2_7.out.drew)
  have QtX3_0 : Hid (Blk Zt0 X3 [.slice none 0 0, .int .i64 0, .int .i64 0, .int .i64 0] 63) := Lib.hid (by rw [hZ]; exact HX3_7.out.drew)
  clear hZ
  refine wpAnyH_ready (rs := [6]) (by kernel_rfl) (by simp) (AllReadyH.cons rfl (fun K hK => ?_) AllReadyH.nil)
  have x0 := QtX2_0.out.cell (i := 0) rfl
  have xf0 := QtX2_0.out.free 0
  have x1 := QtX2_0.out.cell (i := 1) rfl
  have xf1 := QtX2_0.out.free 1
  go_simp
  refine hK.out _ _ ((hHeld.setCell _ _ (.inl (by simp))).setCell _ _ (.inl (by simp))) (fun hHeld => ?_)
  clear hK K x0 xf0 x1 xf1
  try simp only [Act.put, List.setIfInBounds_toArray, List.set_cons_zero, List.set_cons_succ, List.getElem_toArray, List.getElem_cons_succ, List.getElem_cons_zero]
  obtain ⟨Zt1, hZ⟩ : ∃ Z, Z = ((Zt0.setCell ⟨X2, 0, none⟩ (.int .i64 (t1.n : Nat))).setCell ⟨X2, 1, none⟩ (.int .i64 (t3.n : Nat))) := ⟨_, rfl⟩
  rw [← hZ] at hHeld ⊢
  have QtX2_1 : Hid (Blk Zt1 X2 [.int .i64 (t1.n : Nat), .int .i64 (t3.n : Nat)] 40) := Lib.hid (by rw [hZ]; exact ((QtX2_0.out.set 0 (.int .i64 (t1.n : Nat))).set 1 (.int .i64 (t3.n : Nat))))
  have QtX3_1 : Hid (Blk Zt1 X3 [.slice none 0 0, .int .i64 0, .int .i64 0, .int .i64 0] 63) := Lib.hid (by rw [hZ]; exact ((QtX3_0.out.other _ _ NX3_X2).other _ _ NX3_X2))
  clear hZ
  refine wpAnyH_ready (rs := [7]) (by kernel_rfl) (by simp) (AllReadyH.cons rfl (fun K hK => ?_) AllReadyH.nil)
  have x0 := QtX3_1.out.cell (i := 0) rfl
  have xf0 := QtX3_1.out.free 0
  have x1 := QtX3_1.out.cell (i := 1) rfl
  have xf1 := QtX3_1.out.free 1
  have x2 := QtX3_1.out.cell (i := 2) rfl
  have xf2 := QtX3_1.out.free 2
  have x3 := QtX3_1.out.cell (i := 3) rfl
  have xf3 := QtX3_1.out.free 3
  go_simp
  refine hK.out _ _ ((((hHeld.setCell _ _ (.inl (by simp))).setCell _ _ (.inl (by simp))).setCell _ _ (.inl (by simp))).setCell _ _ (.inl (by simp))) (fun hHeld => ?_)
  clear hK K x0 xf0 x1 xf1 x2 xf2 x3 xf3
  try simp only [Act.put, List.setIfInBounds_toArray, List.set_cons_zero, List.set_cons_succ, List.getElem_toArray, List.getElem_cons_succ, List.getElem_cons_zero]
  obtain ⟨Zt2, hZ⟩ : ∃ Z, Z = ((((Zt1.setCell ⟨X3, 0, none⟩ (.slice ao3 s3.l.length cap3)).setCell ⟨X3, 1, none⟩ (.int .i64 (en : Int))).setCell ⟨X3, 2, none⟩ (.int .i64 (s3.err : Int))).setCell ⟨X3, 3, none⟩ (.int .i64 (s3.at_ : Int))) := ⟨_, rfl⟩
  rw [← hZ] at hHeld ⊢
  have QtX2_2 : Hid (Blk Zt2 X2 [.int .i64 (t1.n : Nat), .int .i64 (t3.n : Nat)] 40) := Lib.hid (by rw [hZ]; exact ((((QtX2_1.out.other _ _ NX2_X3).other _ _ NX2_X3).other _ _ NX2_X3).other _ _ NX2_X3))
  have QtX3_2 : Hid (Blk Zt2 X3 [.slice ao3 s3.l.length cap3, .int .i64 (en : Int), .int .i64 (s3.err : Int), .int .i64 (s3.at_ : Int)] 63) := Lib.hid (by rw [hZ]; exact ((((QtX3_1.out.set 0 (.slice ao3 s3.l.length cap3)).set 1 (.int .i64 (en : Int))).set 2 (.int .i64 (s3.err : Int))).set 3 (.int .i64 (s3.at_ : Int))))
  clear hZ
  refine wpAnyH_done (by kernel_rfl) ?_ _
  try simp only [Act.put, List.setIfInBounds_toArray, List.set_cons_zero, List.set_cons_succ, List.getElem_toArray, List.getElem_cons_succ, List.getElem_cons_zero]
  have HH := Lib.hid hHeld
  clear hHeld
  go_wp2_with fail
  (try simp only [Exit.inBlock, Exit.then])
  refine bodyPost_ret (results_cell_row2 rfl _ _ X2 X3 40 63 #[.int .i64 (t1.n : Nat), .int .i64 (t3.n : Nat)] #[.slice ao3 s3.l.length cap3, .int .i64 (en : Int), .int .i64 (s3.err : Int), .int .i64 (s3.at_ : Int)] (0, 0) (0, 0) _ _ rfl QtX2_2.out rfl QtX3_2.out Tryd.underlying40 rfl (by kernel_rfl) Tryd.underlying63 rfl (by kernel_rfl)) rfl ?_
  have CF : Hid (Chg [] w Zt2) := Lib.hid (C7.out.trans HH.out (fun k hk => .inr (by have OX1_ := OX1.out; have OX2_ := OX2.out; have OX3_ := OX3.out; have OX4_ := OX4.out; have OX5_ := OX5.out; simp only [List.mem_cons, List.not_mem_nil, or_false] at hk; omega)))
  have hs : s.ratio en = ((t1.n, t3.n), s3) := by
    unfold RSt.ratio
    rw [HE1.out]
    simp only
    rw [HE2.out, HE3.out]
  first | exact ⟨t1.n, t3.n, s3, ao3, cap3, Lib.hid hs, Lib.hid ((HS1.out.trans HS2.out).trans HS3.out), CF, rfl⟩ | exact ⟨t1.n, t3.n, s3, Lib.hid hs, ao3, cap3, Lib.hid ((HS1.out.trans HS2.out).trans HS3.out), CF, rfl⟩
end Go.Proofs.YtmfjebpefneboaaDoor

