/-
  Plan, layer 6: one, two and four numbers; how a part's result is handed on.
-/
import Derived.Test.YtocadlcglgpdcaaDoorPnE
namespace Go.Proofs.YtocadlcglgpdcaaDoor
set_option linter.unusedVariables false
set_option linter.unusedSimpArgs false
open Go Go.RowKit Go.Shelf
open Lx (Tk)
namespace Pn
open Rl (Out)
theorem nums1_eq (l : List Tk) : nums 1 l = (num l).bind fun x r => .ok [x] r := rfl
theorem nums2_eq (l : List Tk) : nums 2 l = (num2 l).bind fun p r => .ok [p.1, p.2] r := by
  unfold nums num2
  rw [nums1_eq]
  cases num l with
  | bad c r => rfl
  | ok x r =>
    simp only [Out.bind]
    cases num r with
    | bad c q => rfl
    | ok y q => rfl
theorem nums4_eq (l : List Tk) : nums 4 l = (box l).bind fun p r => .ok [p.x, p.y, p.x2, p.y2] r := by
  unfold nums nums box
  rw [nums2_eq]
  unfold num2
  cases num l with
  | bad c r => rfl
  | ok x r =>
    simp only [Out.bind]
    cases num r with
    | bad c q => rfl
    | ok y q =>
      simp only
      cases num q with
      | bad c q' => rfl
      | ok z q' =>
        simp only
        cases num q' with
        | bad c q2 => rfl
        | ok u q2 => rfl
end Pn
open Pn (nums num num2 box setL)
theorem good5 {α β : Type} {O : Rl.Out β} {x : Rl.Out α} {k : α → List Tk → Rl.Out β} {a : α} {r : List Tk} (h : O = x.bind k) (hx : x = .ok a r) : O = k a r := by
  rw [h, hx]
  rfl
theorem bad5 {α β : Type} {O : Rl.Out β} {x : Rl.Out α} {k : α → List Tk → Rl.Out β} {e : Nat} {r : List Tk} (h : O = x.bind k) (hx : x = .bad e r) : O = .bad e r := by
  rw [h, hx]
  rfl
theorem pbad {α : Type} {w w' : World} {b en : Nat} {V : α → Value → World → Prop} {O : Rl.Out α} {c : Nat} {r : List Tk} (hc : Chg [b] w w') (h : O = .bad c r) : PRes w b en V O (.panicked [{ v := flt c r en, recovered := false }]) w' := by
  refine ⟨hc, ?_⟩
  rw [h]
theorem pgood {α : Type} {w w' : World} {b en : Nat} {V : α → Value → World → Prop} {O : Rl.Out α} {a : α} {r : List Tk} {v : Value} (hc : Chg [b] w w') (h : O = .ok a r) (hv : V a v w') (hp : Pp w' b r en) : PRes w b en V O (.returned v) w' := by
  refine ⟨hc, ?_⟩
  rw [h]
  exact ⟨v, rfl, hv, hp⟩
theorem pres_two {α : Type} {w w' : World} {b en : Nat} {V : α → Value → World → Prop} {O : Rl.Out α} {e : Ending} {R : Ending → World → Prop} (h : PRes w b en V O e w')
    (hok : ∀ (a : α) (r : List Tk) (v : Value), Hid (O = .ok a r) → Hid (Pp w' b r en) → Hid (Chg [b] w w') → V a v w' → R (.returned v) w')
    (hbad : ∀ (c : Nat) (r : List Tk), Hid (O = .bad c r) → Hid (Chg [b] w w') → R (.panicked [{ v := flt c r en, recovered := false }]) w') : R e w' := by
  obtain ⟨hc, h⟩ := h
  cases O with
  | ok a r =>
    obtain ⟨v, rfl, h1, h2⟩ := h
    exact hok a r v (Lib.hid rfl) (Lib.hid h2) (Lib.hid hc) h1
  | bad c r =>
    have h : e = .panicked [{ v := flt c r en, recovered := false }] := h
    rw [h]
    exact hbad c r (Lib.hid rfl) (Lib.hid hc)
theorem num1_two {w : World} {b en : Nat} {l : List Tk} (HP : Hid (Pp w b l en)) {g D o : Nat} {T : TypeId} {cs : List Value} (HG : Hid (Blk w g [.pointer (some ⟨D, o, none⟩)] 73)) (HD : Hid (Blk w D cs T)) (ho : o < cs.length) (HN : Hid (b < D ∧ g ≠ b ∧ g ≠ D)) {R : Ending → World → Prop}
    (hok : ∀ (x : Nat) (r : List Tk) (w' : World), Hid (num l = .ok x r) → Hid (Pp w' b r en) → Hid (Blk w' D (cs.set o (.int .i64 (x : Nat))) T) → Hid (Chg [b, D] w w') → R (.returned (.tuple #[])) w')
    (hbad : ∀ (c : Nat) (r : List Tk) (w' : World), Hid (num l = .bad c r) → Hid (Chg [b, D] w w') → R (.panicked [{ v := flt c r en, recovered := false }]) w') :
    Calls Tryd.prog 21 #[.pointer (some ⟨b, 0, none⟩), .slice (some ⟨g, 0, none⟩) 1 1] w R := by
  refine numbers_two HP [o] HG HD (Lib.hid (by simp; exact ho)) (Lib.hid ⟨HN.out.1, HN.out.2.1, HN.out.2.2, by simp⟩) (fun ns r w' h1 h2 h3 h4 h5 => ?_) (fun c r w' h1 h2 => ?_)
  · have h := h1.out
    rw [show ([o] : List Nat).length = 1 from rfl, Pn.nums1_eq] at h
    cases hx : num l with
    | bad c q => rw [hx] at h; cases h
    | ok x q =>
      rw [hx] at h
      simp only [Rl.Out.bind, Rl.Out.ok.injEq] at h
      obtain ⟨rfl, rfl⟩ := h
      exact hok x q w' (Lib.hid hx) h3 h4 h5
  · have h := h1.out
    rw [show ([o] : List Nat).length = 1 from rfl, Pn.nums1_eq] at h
    cases hx : num l with
    | ok x q => rw [hx] at h; cases h
    | bad c' q =>
      rw [hx] at h
      simp only [Rl.Out.bind, Rl.Out.bad.injEq] at h
      obtain ⟨rfl, rfl⟩ := h
      exact hbad _ _ w' (Lib.hid hx) h2
theorem num2_two {w : World} {b en : Nat} {l : List Tk} (HP : Hid (Pp w b l en)) {g D o p : Nat} {T : TypeId} {cs : List Value} (HG : Hid (Blk w g [.pointer (some ⟨D, o, none⟩), .pointer (some ⟨D, p, none⟩)] 73)) (HD : Hid (Blk w D cs T)) (ho : o < cs.length) (hp : p < cs.length) (HN : Hid (b < D ∧ g ≠ b ∧ g ≠ D)) {R : Ending → World → Prop}
    (hok : ∀ (x y : Nat) (r : List Tk) (w' : World), Hid (num2 l = .ok (x, y) r) → Hid (Pp w' b r en) → Hid (Blk w' D ((cs.set o (.int .i64 (x : Nat))).set p (.int .i64 (y : Nat))) T) → Hid (Chg [b, D] w w') → R (.returned (.tuple #[])) w')
    (hbad : ∀ (c : Nat) (r : List Tk) (w' : World), Hid (num2 l = .bad c r) → Hid (Chg [b, D] w w') → R (.panicked [{ v := flt c r en, recovered := false }]) w') :
    Calls Tryd.prog 21 #[.pointer (some ⟨b, 0, none⟩), .slice (some ⟨g, 0, none⟩) 2 2] w R := by
  refine numbers_two HP [o, p] HG HD (Lib.hid (by simp; exact ⟨ho, hp⟩)) (Lib.hid ⟨HN.out.1, HN.out.2.1, HN.out.2.2, by simp⟩) (fun ns r w' h1 h2 h3 h4 h5 => ?_) (fun c r w' h1 h2 => ?_)
  · have h := h1.out
    rw [show ([o, p] : List Nat).length = 2 from rfl, Pn.nums2_eq] at h
    cases hx : num2 l with
    | bad c q => rw [hx] at h; cases h
    | ok x q =>
      rw [hx] at h
      simp only [Rl.Out.bind, Rl.Out.ok.injEq] at h
      obtain ⟨rfl, rfl⟩ := h
      exact hok x.1 x.2 q w' (Lib.hid hx) h3 h4 h5
  · have h := h1.out
    rw [show ([o, p] : List Nat).length = 2 from rfl, Pn.nums2_eq] at h
    cases hx : num2 l with
    | ok x q => rw [hx] at h; cases h
    | bad c' q =>
      rw [hx] at h
      simp only [Rl.Out.bind, Rl.Out.bad.injEq] at h
      obtain ⟨rfl, rfl⟩ := h
      exact hbad _ _ w' (Lib.hid hx) h2
theorem num4_two {w : World} {b en : Nat} {l : List Tk} (HP : Hid (Pp w b l en)) {g D : Nat} {T : TypeId} {c0 c1 c2 c3 : Value} (HG : Hid (Blk w g [.pointer (some ⟨D, 0, none⟩), .pointer (some ⟨D, 1, none⟩), .pointer (some ⟨D, 2, none⟩), .pointer (some ⟨D, 3, none⟩)] 73)) (HD : Hid (Blk w D [c0, c1, c2, c3] T)) (HN : Hid (b < D ∧ g ≠ b ∧ g ≠ D)) {R : Ending → World → Prop}
    (hok : ∀ (x : Pn.Bx) (r : List Tk) (w' : World), Hid (box l = .ok x r) → Hid (Pp w' b r en) → Hid (Blk w' D [.int .i64 (x.x : Nat), .int .i64 (x.y : Nat), .int .i64 (x.x2 : Nat), .int .i64 (x.y2 : Nat)] T) → Hid (Chg [b, D] w w') → R (.returned (.tuple #[])) w')
    (hbad : ∀ (c : Nat) (r : List Tk) (w' : World), Hid (box l = .bad c r) → Hid (Chg [b, D] w w') → R (.panicked [{ v := flt c r en, recovered := false }]) w') :
    Calls Tryd.prog 21 #[.pointer (some ⟨b, 0, none⟩), .slice (some ⟨g, 0, none⟩) 4 4] w R := by
  refine numbers_two HP [0, 1, 2, 3] HG HD (Lib.hid (by simp)) (Lib.hid ⟨HN.out.1, HN.out.2.1, HN.out.2.2, by simp⟩) (fun ns r w' h1 h2 h3 h4 h5 => ?_) (fun c r w' h1 h2 => ?_)
  · have h := h1.out
    rw [show ([0, 1, 2, 3] : List Nat).length = 4 from rfl, Pn.nums4_eq] at h
    cases hx : box l with
    | bad c q => rw [hx] at h; cases h
    | ok x q =>
      rw [hx] at h
      simp only [Rl.Out.bind, Rl.Out.ok.injEq] at h
      obtain ⟨rfl, rfl⟩ := h
      exact hok x q w' (Lib.hid hx) h3 h4 h5
  · have h := h1.out
    rw [show ([0, 1, 2, 3] : List Nat).length = 4 from rfl, Pn.nums4_eq] at h
    cases hx : box l with
    | ok x q => rw [hx] at h; cases h
    | bad c' q =>
      rw [hx] at h
      simp only [Rl.Out.bind, Rl.Out.bad.injEq] at h
      obtain ⟨rfl, rfl⟩ := h
      exact hbad _ _ w' (Lib.hid hx) h2
end Go.Proofs.YtocadlcglgpdcaaDoor
