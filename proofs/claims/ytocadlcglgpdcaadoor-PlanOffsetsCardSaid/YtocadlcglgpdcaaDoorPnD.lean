/-
  Plan, layer 4: take. Printed by genpnd06.py.
-/
import Derived.Test.YtocadlcglgpdcaaDoorPnC
namespace Go.Proofs.YtocadlcglgpdcaaDoor
set_option linter.unusedVariables false
set_option linter.unusedSimpArgs false
open Go Go.RowKit Go.Shelf
open Lx (Tk)
theorem nxt_bad {k : Nat} {x : Option Bytes} {l : List Tk} (h : Rl.is k x l = false) : Rl.nxt k x l = .bad 4 l := by
  cases l with
  | nil => rfl
  | cons t r =>
    show (if Rl.is k x (t :: r) = true then Rl.Out.ok t r else Rl.Out.bad 4 (t :: r)) = _
    rw [h]
    rfl
set_option maxHeartbeats 1000000 in
theorem take_two {w : World} {b en : Nat} {l : List Tk} (HP : Hid (Pp w b l en)) (k : Nat) {R : Ending → World → Prop}
    (hok : ∀ (t : Tk) (r : List Tk) (w' : World), Hid (Rl.nxt k none l = .ok t r) → Hid (Pp w' b r en) → Hid (Chg [b] w w') → R (.returned (.agg #[.int .i64 (t.kind : Nat), .string ⟨t.text.toArray⟩, .int .i64 (t.n : Nat), .int .i64 (t.at_ : Nat)])) w')
    (hbad : ∀ (c : Nat) (r : List Tk) (w' : World), Hid (Rl.nxt k none l = .bad c r) → Hid (Chg [b] w w') → R (.panicked [{ v := flt c r en, recovered := false }]) w') :
    Calls Tryd.prog 20 #[.pointer (some ⟨b, 0, none⟩), .int .i64 (k : Int)] w R := by
  refine (show Calls Tryd.prog 20 #[.pointer (some ⟨b, 0, none⟩), .int .i64 (k : Int)] w (fun e w' => (∃ t r, e = .returned (.agg #[.int .i64 (t.kind : Nat), .string ⟨t.text.toArray⟩, .int .i64 (t.n : Nat), .int .i64 (t.at_ : Nat)]) ∧ Rl.nxt k none l = .ok t r ∧ Pp w' b r en ∧ Chg [b] w w') ∨ (∃ c r, e = .panicked [{ v := flt c r en, recovered := false }] ∧ Rl.nxt k none l = .bad c r ∧ Chg [b] w w')) from ?_).mono (fun e w' hx => by
    rcases hx with ⟨t, r, rfl, h1, h2, h3⟩ | ⟨c, r, rfl, h1, h2⟩
    · exact hok t r w' (Lib.hid h1) (Lib.hid h2) (Lib.hid h3)
    · exact hbad c r w' (Lib.hid h1) (Lib.hid h2))
  clear hok hbad
  have HBW : Hid (b < w.heap.size) := Lib.hid HP.out.lt
  go_enter Tryd.func20, Tryd.ntmps20
  go_upto_region 1 with fail
  obtain ⟨W1, hW⟩ : ∃ W, W = (w.alloc (.cells #[.int .i64 0, .string ⟨#[]⟩, .int .i64 0, .int .i64 0] 40)) := ⟨_, rfl⟩
  rw [← hW]
  obtain ⟨T4, hT4⟩ : ∃ T, T = w.heap.size := ⟨_, rfl⟩
  try rw [← hT4]
  have OT4 : Hid (w.heap.size ≤ T4) := Lib.hid (by rw [hT4]; exact Nat.le_refl _)
  have HT4_1 : Hid (Blk W1 T4 [.int .i64 0, .string ⟨#[]⟩, .int .i64 0, .int .i64 0] 40) := Lib.hid (by
    have h1 := Blk.new w [.int .i64 0, .string ⟨#[]⟩, .int .i64 0, .int .i64 0] 40
    have h2 : w.heap.size = T4 := by simp [hT4]
    rw [h2] at h1
    rw [hW]
    exact h1)
  have C1 : Hid (Chg [] w W1) := Lib.hid (by rw [hW]; exact ((Chg.refl [] w).alloc _))
  clear hW hT4
  have HP1 : Hid (Pp W1 b l en) := Lib.hid (HP.out.quiet C1.out)
  cases l with
  | nil =>
    obtain ⟨n, ao, cap, hb⟩ := HP1.out.nil
    have c0 := hb.cell (i := 0) rfl
    have c1 := hb.cell (i := 1) rfl
    have n0 : ((n : Int) == (n : Int)) = true := beq_self_eq_true _
    have HI : Hid (Rl.is k none [] = false) := Lib.hid rfl
    clear hb
    go_quiet (fail)
    go_wp2_with fail
    refine fail_r (Lib.hid (HP1.out.quiet (chg_drewN _ _))) (fun w' HC => ?_)
    go_wp2_with fail
    exact ⟨rfl, .inr ⟨4, [], rfl, nxt_bad HI.out, chg01 C1.out (chg01 ((chg_drewN _ _).trans HC.out (by simp)) (Chg.refl _ _))⟩⟩
  | cons t r =>
    obtain ⟨n, i, g, off, cap, hi, hn, hb, hcap, hgb, ⟨k0, k1, k2, k3⟩, hstep⟩ := HP1.out.cons
    have HB := Lib.hid hb
    have HST := Lib.hid hstep
    have c0 := hb.cell (i := 0) rfl
    have c1 := hb.cell (i := 1) rfl
    have w1 := hb.free 1
    have n0 : ((i : Int) == (n : Int)) = false := beq_eq_false_iff_ne.2 (by omega)
    have n1 : (0 : Int) ≤ (i : Int) := by omega
    have n2 : (i : Int) < (n : Int) := by omega
    have n3 : ((i : Int)).toNat = i := by omega
    have HK0 := Lib.hid k0
    have HK1 := Lib.hid k1
    have HK2 := Lib.hid k2
    have HK3 := Lib.hid k3
    clear hb hstep
    by_cases hk : t.kind = k
    · skip
      have m0 : ((t.kind : Int) != (k : Int)) = false := by simp [hk]
      have HI : Hid (Rl.is k none (t :: r) = true) := Lib.hid (by simp [Rl.is, hk])
      clear hk
      go_quiet (fail)
      go_upto_region 4 with fail
      clear c0 c1 w1 k0 k1 k2 k3 m0
      obtain ⟨W2, hW⟩ : ∃ X, X = (W1.drewN nq).setCell ⟨b, 1, none⟩ (.int .i64 ((i : Int) + 1)) := ⟨_, rfl⟩
      rw [← hW]
      have HC2 : Hid (Chg [b] W1 W2) := Lib.hid (by rw [hW]; exact (chg01 (chg_drewN _ nq) (Chg.refl _ _)).setCell _ _ (.inl (by simp)))
      have HB2 : Hid (Blk W2 b [.slice (some ⟨g, off, none⟩) n cap, .int .i64 ((i : Int) + 1), .int .i64 (en : Int)] 69) := Lib.hid (by rw [hW]; exact ((chg_drewN _ nq).blk HB.out (by simp)).set 1 _)
      have HP2 : Hid (Pp W2 b r en) := Lib.hid (HST.out _ HC2.out HB2.out)
      clear hW
      have NT4_b : T4 ≠ b := by have := HBW.out; have := OT4.out; omega
      have Ngb : g ≠ b := Nat.ne_of_lt hgb
      have NgT : g ≠ T4 := by have := HBW.out; have := OT4.out; omega
      have NbT : b ≠ T4 := NT4_b.symm
      have HT4 : Hid (Blk W2 T4 [.int .i64 0, .string ⟨#[]⟩, .int .i64 0, .int .i64 0] 40) := Lib.hid (HC2.out.blk HT4_1.out (by simp [NT4_b]))
      have HJ0 := Lib.hid (cell_quiet HC2.out HK0.out (by simp [Ngb]))
      have HJ1 := Lib.hid (cell_quiet HC2.out HK1.out (by simp [Ngb]))
      have HJ2 := Lib.hid (cell_quiet HC2.out HK2.out (by simp [Ngb]))
      have HJ3 := Lib.hid (cell_quiet HC2.out HK3.out (by simp [Ngb]))
      have Z0 := Lib.hid (HB2.out.cell (i := 0) rfl)
      have Z1 := Lib.hid (HB2.out.cell (i := 1) rfl)
      have qs : IntKind.i64.wrap (i : Int) = (i : Int) := IntWalk.i64_in _ (by omega)
      refine wp_region_held_drew (S := fun W' => Chg [T4] W2 W') (by kernel_rfl) (Chg.refl _ _).drew (fun hHeld => ?_)
      refine wpAnyH_take (i := 0) (v := ?vt0) rfl (by kernel_rfl) (by kernel_rfl) (by kernel_rfl) (fun _ _ _ h => h) (Or.inl ⟨by kernel_rfl, ?hyt0⟩) (by assumption) ?rst0
      case hyt0 => (intro w9 hSw; skip; go_simp; try with_reducible rfl)
      try simp only [Act.put, List.setIfInBounds_toArray, List.set_cons_zero, List.set_cons_succ, List.getElem_toArray, List.getElem_cons_succ, List.getElem_cons_zero]
      refine wpAnyH_take (i := 1) (v := ?vt1) rfl (by kernel_rfl) (by kernel_rfl) (by kernel_rfl) (fun _ _ _ h => h) (Or.inl ⟨by kernel_rfl, ?hyt1⟩) (by assumption) ?rst1
      case hyt1 => (intro w9 hSw; skip; go_simp; try with_reducible rfl)
      try simp only [Act.put, List.setIfInBounds_toArray, List.set_cons_zero, List.set_cons_succ, List.getElem_toArray, List.getElem_cons_succ, List.getElem_cons_zero]
      refine wpAnyH_take (i := 2) (v := ?vt2) rfl (by kernel_rfl) (by kernel_rfl) (by kernel_rfl) (fun _ _ _ h => h) (Or.inl ⟨by kernel_rfl, ?hyt2⟩) (by assumption) ?rst2
      case hyt2 => (intro w9 hSw; skip; go_simp; try with_reducible rfl)
      try simp only [Act.put, List.setIfInBounds_toArray, List.set_cons_zero, List.set_cons_succ, List.getElem_toArray, List.getElem_cons_succ, List.getElem_cons_zero]
      refine wpAnyH_take (i := 3) (v := ?vt3) rfl (by kernel_rfl) (by kernel_rfl) (by kernel_rfl) (fun _ _ _ h => h) (Or.inl ⟨by kernel_rfl, ?hyt3⟩) (by assumption) ?rst3
      case hyt3 => (intro w9 hSw; have e0 := cell_quiet hSw Z0.out (by simp [NbT]); go_simp; try with_reducible rfl)
      try simp only [Act.put, List.setIfInBounds_toArray, List.set_cons_zero, List.set_cons_succ, List.getElem_toArray, List.getElem_cons_succ, List.getElem_cons_zero]
      refine wpAnyH_take (i := 4) (v := ?vt4) rfl (by kernel_rfl) (by kernel_rfl) (by kernel_rfl) (fun _ _ _ h => h) (Or.inl ⟨by kernel_rfl, ?hyt4⟩) (by assumption) ?rst4
      case hyt4 => (intro w9 hSw; skip; go_simp; try with_reducible rfl)
      try simp only [Act.put, List.setIfInBounds_toArray, List.set_cons_zero, List.set_cons_succ, List.getElem_toArray, List.getElem_cons_succ, List.getElem_cons_zero]
      refine wpAnyH_take (i := 5) (v := ?vt5) rfl (by kernel_rfl) (by kernel_rfl) (by kernel_rfl) (fun _ _ _ h => h) (Or.inl ⟨by kernel_rfl, ?hyt5⟩) (by assumption) ?rst5
      case hyt5 => (intro w9 hSw; skip; go_simp; try with_reducible rfl)
      try simp only [Act.put, List.setIfInBounds_toArray, List.set_cons_zero, List.set_cons_succ, List.getElem_toArray, List.getElem_cons_succ, List.getElem_cons_zero]
      refine wpAnyH_take (i := 6) (v := ?vt6) rfl (by kernel_rfl) (by kernel_rfl) (by kernel_rfl) (fun _ _ _ h => h) (Or.inl ⟨by kernel_rfl, ?hyt6⟩) (by assumption) ?rst6
      case hyt6 => (intro w9 hSw; skip; go_simp; try with_reducible rfl)
      try simp only [Act.put, List.setIfInBounds_toArray, List.set_cons_zero, List.set_cons_succ, List.getElem_toArray, List.getElem_cons_succ, List.getElem_cons_zero]
      refine wpAnyH_take (i := 7) (v := ?vt7) rfl (by kernel_rfl) (by kernel_rfl) (by kernel_rfl) (fun _ _ _ h => h) (Or.inl ⟨by kernel_rfl, ?hyt7⟩) (by assumption) ?rst7
      case hyt7 => (intro w9 hSw; have e0 := cell_quiet hSw Z1.out (by simp [NbT]); go_simp; try with_reducible rfl)
      try simp only [Act.put, List.setIfInBounds_toArray, List.set_cons_zero, List.set_cons_succ, List.getElem_toArray, List.getElem_cons_succ, List.getElem_cons_zero]
      refine wpAnyH_take (i := 8) (v := ?vt8) rfl (by kernel_rfl) (by kernel_rfl) (by kernel_rfl) (fun _ _ _ h => h) (Or.inl ⟨by kernel_rfl, ?hyt8⟩) (by assumption) ?rst8
      case hyt8 => (intro w9 hSw; skip; go_simp; try with_reducible rfl)
      try simp only [Act.put, List.setIfInBounds_toArray, List.set_cons_zero, List.set_cons_succ, List.getElem_toArray, List.getElem_cons_succ, List.getElem_cons_zero]
      refine wpAnyH_take (i := 9) (v := ?vt9) rfl (by kernel_rfl) (by kernel_rfl) (by kernel_rfl) (fun _ _ _ h => h) (Or.inl ⟨by kernel_rfl, ?hyt9⟩) (by assumption) ?rst9
      case hyt9 => (intro w9 hSw; skip; go_simp; try with_reducible rfl)
      try simp only [Act.put, List.setIfInBounds_toArray, List.set_cons_zero, List.set_cons_succ, List.getElem_toArray, List.getElem_cons_succ, List.getElem_cons_zero]
      refine wpAnyH_take (i := 10) (v := ?vt10) rfl (by kernel_rfl) (by kernel_rfl) (by kernel_rfl) (fun _ _ _ h => h) (Or.inl ⟨by kernel_rfl, ?hyt10⟩) (by assumption) ?rst10
      case hyt10 => (intro w9 hSw; have e0 := cell_quiet hSw HJ0.out (by simp [NgT]); have e1 := cell_quiet hSw HJ1.out (by simp [NgT]); have e2 := cell_quiet hSw HJ2.out (by simp [NgT]); have e3 := cell_quiet hSw HJ3.out (by simp [NgT]); go_simp; try with_reducible rfl)
      try simp only [Act.put, List.setIfInBounds_toArray, List.set_cons_zero, List.set_cons_succ, List.getElem_toArray, List.getElem_cons_succ, List.getElem_cons_zero]
      obtain ⟨Z, hZ⟩ : ∃ Z, Z = W2.drew := ⟨_, rfl⟩
      rw [← hZ] at hHeld ⊢
      have HQ : Hid (Blk Z T4 [.int .i64 0, .string ⟨#[]⟩, .int .i64 0, .int .i64 0] 40) := Lib.hid (by rw [hZ]; exact HT4.out.drew)
      clear hZ
      refine wpAnyH_ready (rs := [11]) (by kernel_rfl) (by simp) (AllReadyH.cons rfl (fun K hK => ?_) AllReadyH.nil)
      have x0 := HQ.out.cell (i := 0) rfl
      have xf0 := HQ.out.free 0
      have x1 := HQ.out.cell (i := 1) rfl
      have xf1 := HQ.out.free 1
      have x2 := HQ.out.cell (i := 2) rfl
      have xf2 := HQ.out.free 2
      have x3 := HQ.out.cell (i := 3) rfl
      have xf3 := HQ.out.free 3
      go_simp
      refine hK.out _ _ ((((hHeld.setCell _ _ (.inl (by simp))).setCell _ _ (.inl (by simp))).setCell _ _ (.inl (by simp))).setCell _ _ (.inl (by simp))) (fun hHeld => ?_)
      clear hK K x0 xf0 x1 xf1 x2 xf2 x3 xf3
      try simp only [Act.put, List.setIfInBounds_toArray, List.set_cons_zero, List.set_cons_succ, List.getElem_toArray, List.getElem_cons_succ, List.getElem_cons_zero]
      refine wpAnyH_done (by kernel_rfl) ?_ _
      try simp only [Act.put, List.setIfInBounds_toArray, List.set_cons_zero, List.set_cons_succ, List.getElem_toArray, List.getElem_cons_succ, List.getElem_cons_zero]
      have HH := Lib.hid hHeld
      clear hHeld
      go_wp2_with fail
      (try simp only [Exit.inBlock, Exit.then])
      refine bodyPost_ret (results_cell_row rfl _ _ T4 40 #[.int .i64 (t.kind : Nat), .string ⟨t.text.toArray⟩, .int .i64 (t.n : Nat), .int .i64 (t.at_ : Nat)] (0, 0) _ rfl ((((HQ.out.set 0 (.int .i64 (t.kind : Nat))).set 1 (.string ⟨t.text.toArray⟩)).set 2 (.int .i64 (t.n : Nat))).set 3 (.int .i64 (t.at_ : Nat))) Tryd.underlying40 rfl (by kernel_rfl)) rfl ?_
      refine .inl ⟨t, r, rfl, ?_, HP2.out.keep HH.out (fun k hk => by simp only [List.mem_cons, List.not_mem_nil, or_false] at hk; subst hk; have := HBW.out; have := OT4.out; omega), ?_⟩
      · show (if Rl.is k none (t :: r) = true then Rl.Out.ok t r else Rl.Out.bad 4 (t :: r)) = _
        rw [if_pos HI.out]
      · exact (chg01 C1.out HC2.out).trans HH.out (fun k hk => .inr (by simp only [List.mem_cons, List.not_mem_nil, or_false] at hk; subst hk; exact OT4.out))
    · have m0 : ((t.kind : Int) != (k : Int)) = true := bne_iff_ne.2 (by omega)
      have HI : Hid (Rl.is k none (t :: r) = false) := Lib.hid (by simp [Rl.is, hk])
      clear hk w1
      go_quiet (fail)
      go_wp2_with fail
      refine fail_r (Lib.hid (HP1.out.quiet (chg_drewN _ _))) (fun w' HC => ?_)
      go_wp2_with fail
      exact ⟨rfl, .inr ⟨4, t :: r, rfl, nxt_bad HI.out, chg01 C1.out (chg01 ((chg_drewN _ _).trans HC.out (by simp)) (Chg.refl _ _))⟩⟩
end Go.Proofs.YtocadlcglgpdcaaDoor

