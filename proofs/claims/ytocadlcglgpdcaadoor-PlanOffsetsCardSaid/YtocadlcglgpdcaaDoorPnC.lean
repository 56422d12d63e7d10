/-
  Plan, layer 3: at, is, must.
-/
import Derived.Test.YtocadlcglgpdcaaDoorPnB
namespace Go.Proofs.YtocadlcglgpdcaaDoor
set_option linter.unusedVariables false
set_option linter.unusedSimpArgs false
open Go Go.RowKit Go.Shelf
open Lx (Tk)
open Pn (isw must atO)

theorem chg1 {b : Nat} {w w1 w2 : World} (h : Chg [b] w w1) (h2 : Chg [b] w1 w2) : Chg [b] w w2 := h.trans h2 (by simp)
theorem chg01 {b : Nat} {w w1 w2 : World} (h : Chg [] w w1) (h2 : Chg [b] w1 w2) : Chg [b] w w2 := (h.mono (by simp)).trans h2 (by simp)
theorem fail_r {w : World} {b en : Nat} {l : List Tk} (HP : Hid (Pp w b l en)) {R : Ending → World → Prop} (h : ∀ w', Hid (Chg [] w w') → R (.panicked [{ v := flt 4 l en, recovered := false }]) w') :
    Calls Tryd.prog 24 #[.pointer (some ⟨b, 0, none⟩)] w R := by
  refine (fail_spec w b en l HP).mono ?_
  rintro e w' ⟨rfl, hc⟩
  exact h w' (Lib.hid hc)
theorem at_two {w : World} {b en : Nat} {l : List Tk} (HP : Hid (Pp w b l en)) {R : Ending → World → Prop}
    (hok : ∀ (a : Nat) (r : List Tk) (w' : World), Hid (atO l = .ok a r) → Hid (Pp w' b r en) → Hid (Chg [b] w w') → R (.returned (.int .i64 (a : Nat))) w')
    (hbad : ∀ (c : Nat) (r : List Tk) (w' : World), Hid (atO l = .bad c r) → Hid (Chg [b] w w') → R (.panicked [{ v := flt c r en, recovered := false }]) w') :
    Calls Tryd.prog 35 #[.pointer (some ⟨b, 0, none⟩)] w R := by
  cases l with
  | nil =>
    refine (show Calls Tryd.prog 35 #[.pointer (some ⟨b, 0, none⟩)] w (fun e w' => e = .panicked [{ v := flt 4 [] en, recovered := false }] ∧ Chg [] w w') from ?_).mono (fun e w' hx => by obtain ⟨rfl, h2⟩ := hx; exact hbad 4 [] w' (Lib.hid rfl) (Lib.hid (chg01 h2 (Chg.refl _ _))))
    clear hok hbad
    go_enter Tryd.func35, Tryd.ntmps35
    obtain ⟨n, ao, cap, hb⟩ := HP.out.nil
    have c0 := hb.cell (i := 0) rfl
    have c1 := hb.cell (i := 1) rfl
    have n0 : ((n : Int) == (n : Int)) = true := beq_self_eq_true _
    clear hb
    go_upto_region 1 with fail
    go_quiet (fail)
    go_wp2_with fail
    refine fail_r (Lib.hid (HP.out.quiet (chg_drewN _ _))) (fun w' HC => ?_)
    go_wp2_with fail
    exact ⟨rfl, rfl, (chg_drewN _ _).trans HC.out (by simp)⟩
  | cons t r =>
    refine (show Calls Tryd.prog 35 #[.pointer (some ⟨b, 0, none⟩)] w (fun e w' => e = .returned (.int .i64 (t.at_ : Nat)) ∧ Chg [] w w') from ?_).mono (fun e w' hx => by obtain ⟨rfl, h2⟩ := hx; exact hok t.at_ (t :: r) w' (Lib.hid rfl) (Lib.hid (HP.out.quiet h2)) (Lib.hid (chg01 h2 (Chg.refl _ _))))
    clear hok hbad
    go_enter Tryd.func35, Tryd.ntmps35
    obtain ⟨n, i, g, off, cap, hi, hn, hb, hcap, hgb, ⟨k0, k1, k2, k3⟩, -⟩ := HP.out.cons
    have c0 := hb.cell (i := 0) rfl
    have c1 := hb.cell (i := 1) rfl
    have n0 : ((i : Int) == (n : Int)) = false := beq_eq_false_iff_ne.2 (by omega)
    have n1 : (0 : Int) ≤ (i : Int) := by omega
    have n2 : (i : Int) < (n : Int) := by omega
    have n3 : ((i : Int)).toNat = i := by omega
    clear hb
    go_upto_region 1 with fail
    go_quiet (fail)
    go_upto_region 3 with fail
    go_quiet (fail)
    go_wp2_with fail
    go_ret
    exact ⟨rfl, rfl, rfl, rfl, Nat.le_refl _, fun _ _ _ => rfl⟩
theorem is_r {w : World} {b en : Nat} {l : List Tk} (HP : Hid (Pp w b l en)) (x : Bytes) {R : Ending → World → Prop}
    (h : ∀ (bo : Bool) (r : List Tk) (w' : World), Hid (isw x l = bo ∧ (if bo = true then l.tail else l) = r) → Hid (Pp w' b r en) → Hid (Chg [b] w w') → R (.returned (.bool bo)) w') :
    Calls Tryd.prog 22 #[.pointer (some ⟨b, 0, none⟩), .string ⟨x.toArray⟩] w R := by
  cases l with
  | nil =>
    refine (show Calls Tryd.prog 22 #[.pointer (some ⟨b, 0, none⟩), .string ⟨x.toArray⟩] w (fun e w' => e = .returned (.bool false) ∧ Chg [] w w') from ?_).mono (fun e w' hx => by obtain ⟨rfl, h2⟩ := hx; exact h false [] w' (Lib.hid ⟨rfl, rfl⟩) (Lib.hid (HP.out.quiet h2)) (Lib.hid (chg01 h2 (Chg.refl _ _))))
    clear h
    go_enter Tryd.func22, Tryd.ntmps22
    obtain ⟨n, ao, cap, hb⟩ := HP.out.nil
    have c0 := hb.cell (i := 0) rfl
    have c1 := hb.cell (i := 1) rfl
    have n0 : ((n : Int) == (n : Int)) = true := beq_self_eq_true _
    clear hb
    go_upto_region 1 with fail
    go_quiet (fail)
    go_wp2_with fail
    go_ret
    exact ⟨rfl, chg_drewN _ _⟩
  | cons t r =>
    obtain ⟨n, i, g, off, cap, hi, hn, hb, hcap, hgb, ⟨k0, k1, k2, k3⟩, hstep⟩ := HP.out.cons
    have HB := Lib.hid hb
    have HST := Lib.hid hstep
    have c0 := hb.cell (i := 0) rfl
    have c1 := hb.cell (i := 1) rfl
    have n0 : ((i : Int) == (n : Int)) = false := beq_eq_false_iff_ne.2 (by omega)
    have n1 : (0 : Int) ≤ (i : Int) := by omega
    have n2 : (i : Int) < (n : Int) := by omega
    have n3 : ((i : Int)).toNat = i := by omega
    clear hb hstep
    by_cases hx : isw x (t :: r) = true
    · refine (show Calls Tryd.prog 22 #[.pointer (some ⟨b, 0, none⟩), .string ⟨x.toArray⟩] w (fun e w' => e = .returned (.bool true) ∧ Pp w' b r en ∧ Chg [b] w w') from ?_).mono (fun e w' hx' => by obtain ⟨rfl, h2, h3⟩ := hx'; exact h true r w' (Lib.hid ⟨hx, rfl⟩) (Lib.hid h2) (Lib.hid h3))
      clear h
      have hk : t.kind ≠ 2 ∧ t.text = x := by
        unfold isw at hx
        simpa using hx
      have m0 : ((t.kind : Int) == 2) = false := beq_eq_false_iff_ne.2 (by have := hk.1; omega)
      have m1 : (t.text == x) = true := beq_iff_eq.2 hk.2
      have m2 : (t.text != x) = false := by simp [hk.2]
      clear hk hx
      have w0 := HB.out.free 1
      go_enter Tryd.func22, Tryd.ntmps22
      go_upto_region 1 with fail
      go_quiet (fail)
      go_wp2_with fail
      go_ret
      have hc : Chg [b] w ((w.drewN nq).setCell ⟨b, 1, none⟩ (.int .i64 ((i : Int) + 1))) := (chg01 (chg_drewN w nq) (Chg.refl _ _)).setCell _ _ (.inl (by simp))
      exact ⟨rfl, HST.out _ hc (((chg_drewN w nq).blk HB.out (by simp)).set 1 _), hc⟩
    · refine (show Calls Tryd.prog 22 #[.pointer (some ⟨b, 0, none⟩), .string ⟨x.toArray⟩] w (fun e w' => e = .returned (.bool false) ∧ Chg [] w w') from ?_).mono (fun e w' hx' => by obtain ⟨rfl, h2⟩ := hx'; exact h false (t :: r) w' (Lib.hid ⟨by simpa using hx, rfl⟩) (Lib.hid (HP.out.quiet h2)) (Lib.hid (chg01 h2 (Chg.refl _ _))))
      clear h
      have hk : ¬ (t.kind ≠ 2 ∧ t.text = x) := by
        unfold isw at hx
        simpa using hx
      clear hx
      go_enter Tryd.func22, Tryd.ntmps22
      by_cases h2 : t.kind = 2
      · have m0 : ((t.kind : Int) == 2) = true := by rw [h2]; rfl
        clear hk h2
        go_upto_region 1 with fail
        go_quiet (fail)
        go_wp2_with fail
        go_ret
        exact ⟨rfl, chg_drewN _ _⟩
      · have m0 : ((t.kind : Int) == 2) = false := beq_eq_false_iff_ne.2 (by omega)
        have h3 : t.text ≠ x := fun e => hk ⟨h2, e⟩
        have m1 : (t.text == x) = false := beq_eq_false_iff_ne.2 h3
        have m2 : (t.text != x) = true := by simp [h3]
        clear hk h2 h3
        go_upto_region 1 with fail
        go_quiet (fail)
        go_wp2_with fail
        go_ret
        exact ⟨rfl, chg_drewN _ _⟩
theorem must_two {w : World} {b en : Nat} {l : List Tk} (HP : Hid (Pp w b l en)) (x : Bytes) {R : Ending → World → Prop}
    (hok : ∀ (r : List Tk) (w' : World), Hid (must x l = .ok () r) → Hid (Pp w' b r en) → Hid (Chg [b] w w') → R (.returned (.tuple #[])) w')
    (hbad : ∀ (c : Nat) (r : List Tk) (w' : World), Hid (must x l = .bad c r) → Hid (Chg [b] w w') → R (.panicked [{ v := flt c r en, recovered := false }]) w') :
    Calls Tryd.prog 19 #[.pointer (some ⟨b, 0, none⟩), .string ⟨x.toArray⟩] w R := by
  refine (show Calls Tryd.prog 19 #[.pointer (some ⟨b, 0, none⟩), .string ⟨x.toArray⟩] w (fun e w' => (∃ r, e = .returned (.tuple #[]) ∧ must x l = .ok () r ∧ Pp w' b r en ∧ Chg [b] w w') ∨ (∃ c r, e = .panicked [{ v := flt c r en, recovered := false }] ∧ must x l = .bad c r ∧ Chg [b] w w')) from ?_).mono (fun e w' hx => by
    rcases hx with ⟨r, rfl, h1, h2, h3⟩ | ⟨c, r, rfl, h1, h2⟩
    · exact hok r w' (Lib.hid h1) (Lib.hid h2) (Lib.hid h3)
    · exact hbad c r w' (Lib.hid h1) (Lib.hid h2))
  clear hok hbad
  go_enter Tryd.func19, Tryd.ntmps19
  go_wp2_with fail
  refine is_r HP x (fun bo r w1 HB HP1 HC1 => ?_)
  cases bo with
  | true =>
    go_wp2_with fail
    refine bodyPost_end (results_none rfl _ _ _) rfl ?_
    exact .inl ⟨r, rfl, by unfold must; rw [if_pos HB.out.1]; exact congrArg _ HB.out.2, HP1.out, HC1.out⟩
  | false =>
    have hr : r = l := HB.out.2.symm
    have HPl : Hid (Pp w1 b l en) := Lib.hid (by rw [← hr]; exact HP1.out)
    clear hr
    go_wp2_with fail
    refine fail_r HPl (fun w' HC => ?_)
    go_wp2_with fail
    exact ⟨rfl, .inr ⟨4, l, rfl, by unfold must; rw [if_neg (by rw [HB.out.1]; simp)], HC1.out.trans HC.out (by simp)⟩⟩
end Go.Proofs.YtocadlcglgpdcaaDoor
