/-
 Plan, the reference, layer 3: row. Printed by genpqc06.py.
-/
import Derived.Test.YtocadlcglgpdcaaDoorPqB
import Derived.Test.YtocadlcglgpdcaaDoorPoB
namespace Go.Proofs.YtocadlcglgpdcaaDoor
set_option linter.unusedVariables false
set_option linter.unusedSimpArgs false
open Go Go.RowKit Go.Shelf
open Lx (Tk)
attribute [local go_sem ↓] Go.wp_at_zero Go.wp_at_succ
namespace Pn
theorem codeIn_at6 : ∀ (r : List Bytes) (k : Nat) (t : Bytes), Rl.codeIn r k t ≠ 0 → ∃ j, Rl.codeIn r k t = k + j ∧ r[j]? = some t
 | [], k, t, h => by simp [Rl.codeIn] at h
 | x :: r, k, t, h => by
  unfold Rl.codeIn at h ⊢
  by_cases hx : t = x
  · rw [if_pos hx]
    exact ⟨0, rfl, by rw [hx]; rfl⟩
  · rw [if_neg hx] at h ⊢
    obtain ⟨j, h1, h2⟩ := codeIn_at6 r (k + 1) t h
    exact ⟨j + 1, by omega, by simpa using h2⟩
/-- Words are words. -/
def Wk (t : Tk) : Prop := ∀ x ∈ marksL, t.text = x → t.kind = 1
def rowA (at_ : Nat) (l : List Tk) : Rl.Out Rw :=
 (must wRow l).bind fun _ l1 => (name l1).bind fun nm l2 => (must wAt l2).bind fun _ l3 => (num l3).bind fun x l3' => (num l3').bind fun y l4 => (must wSeats l4).bind fun _ l5 =>
  (num l5).bind fun f l6 => (must wTo l6).bind fun _ l7 => (num l7).bind fun t l8 => (must wStep l8).bind fun _ l9 => (num l9).bind fun st l10 => ((marks l10).bind fun ms l11 => (must cSemi l11).bind fun _ l12 => .ok ms l12).bind fun ms l12 =>
   .ok ⟨nm, x, y, f, t, st, ms, at_⟩ l12
theorem bind_assoc {α β γ : Type} (o : Rl.Out α) (f : α → List Tk → Rl.Out β) (g : β → List Tk → Rl.Out γ) : (o.bind f).bind g = o.bind fun a r => (f a r).bind g := by cases o <;> rfl
theorem row_at (en : Nat) (q : List Tk) : row q = rowA (Rl.place en q) q := by
 have h : ∀ (a : Nat) (l : List Tk), rowA a l = (must wRow l).bind fun _ l1 => (name l1).bind fun nm l2 => (must wAt l2).bind fun _ l3 => (num2 l3).bind fun xy l4 => (must wSeats l4).bind fun _ l5 =>
  (num l5).bind fun f l6 => (must wTo l6).bind fun _ l7 => (num l7).bind fun t l8 => (must wStep l8).bind fun _ l9 => (num l9).bind fun st l10 => (marks l10).bind fun ms l11 =>
   (must cSemi l11).bind fun _ l12 => .ok ⟨nm, xy.1, xy.2, f, t, st, ms, a⟩ l12 := fun a l => by
  unfold rowA num2
  simp only [bind_assoc]
  rfl
 cases q with
 | nil => rfl
 | cons t r =>
  rw [h]
  rfl
def seen : Nat → List Tk → Nat
 | 0, _ => 0
 | i + 1, q => if isw (marksL.getD i []) q = true then i + 1 else seen i q
theorem seen_mkc {q : List Tk} (h : ∀ t ∈ q, Wk t) : seen 4 q = mkc q := by
 cases q with
 | nil => rfl
 | cons t r =>
  have h1 := h t (by simp)
  unfold mkc
  by_cases hm : t.text ∈ marksL
  · have hk := h1 t.text hm rfl
    rw [if_pos (by simp [Rl.is, hk])]
    simp only [seen, isw, headText, hk, marksL, List.getD_cons_zero, List.getD_cons_succ, Rl.codeIn]
    simp only [marksL, List.mem_cons, List.not_mem_nil, or_false] at hm
    rcases hm with hm | hm | hm | hm <;> (rw [hm]; decide)
  · have hs : seen 4 (t :: r) = 0 := by
     simp only [marksL, List.mem_cons, List.not_mem_nil, or_false, not_or] at hm
     simp [seen, isw, marksL, hm.1, hm.2.1, hm.2.2.1, hm.2.2.2]
    rw [hs]
    have hc : Rl.codeIn marksL 1 (headText (t :: r)) = 0 := by
     apply Classical.byContradiction
     intro hne
     obtain ⟨j, -, hj⟩ := codeIn_at6 marksL 1 _ hne
     exact hm (List.mem_of_getElem? hj)
    rw [hc]
    split <;> rfl
end Pn
/-- A reader stays, if its cells and what lies below it stay. -/
theorem Rp.via {W wo v : World} {b en er a : Nat} {l : List Tk} {own : List Nat} (h : Rp wo b l er a en) (h1 : Chg own W wo) (h2 : Chg own W v) (hB : ∀ ds S, Blk wo b ds S → Blk v b ds S) (ho : ∀ k ∈ own, b ≤ k) (hb : b < W.heap.size) : Rp v b l er a en := by
 obtain ⟨L, i, ao, cap, e1, e2, e3, k1, k2, k3⟩ := h
 refine ⟨L, i, ao, cap, e1, e2, e3, hB _ _ k1, ?_, k3⟩
 obtain ⟨ao', cap', j1, j2, j3⟩ := k2
 cases j1
 refine ⟨ao, cap, rfl, j2, fun j t ht => ?_⟩
 obtain ⟨g, off, j4, j5, j6, j7, j8⟩ := j3 j t ht
 have hgb : g < b := k3 (by rintro rfl; simp at ht) _ j4
 have hn : g ∉ own := fun hm => by have := ho g hm; omega
 have hg : v.heap[g]? = wo.heap[g]? := (h2.block g (by omega) hn).trans (h1.block g (by omega) hn).symm
 exact ⟨g, off, j4, (World.cell?_of_block (a := ⟨g, off + 4 * j, none⟩) hg).trans j5, (World.cell?_of_block (a := ⟨g, off + 4 * j + 1, none⟩) hg).trans j6, (World.cell?_of_block (a := ⟨g, off + 4 * j + 2, none⟩) hg).trans j7, (World.cell?_of_block (a := ⟨g, off + 4 * j + 3, none⟩) hg).trans j8⟩
/-- How much a reader has left, 0 if it has an error. -/
def mz (b : Nat) (w : World) : Nat := match w.cell? ⟨b, 0, none⟩, w.cell? ⟨b, 1, none⟩, w.cell? ⟨b, 2, none⟩ with
 | some (.slice _ n _), some (.int _ i), some (.int _ e) => if e = 0 then n - i.toNat + 1 else 0
 | _, _, _ => 0
theorem mz_rp {w : World} {b er a en : Nat} {q : List Tk} (h : Rp w b q er a en) : mz b w = if er = 0 then q.length + 1 else 0 := by
 obtain ⟨L, i, ao, cap, e1, e2, e3, h1, _⟩ := h
 unfold mz
 rw [h1.cell (i := 0) rfl, h1.cell (i := 1) rfl, h1.cell (i := 2) rfl, e1, List.length_drop]
 simp
/-- Marks and the semicolon behind them. -/
def Fms (l : List Tk) : Rl.Out (List Pn.Mk) := (Pn.marks l).bind fun ms l11 => (Pn.must Pn.cSemi l11).bind fun _ l12 => .ok ms l12
/-- Where the loop over marks stands. -/
def MLI (en : Nat) (q0 : List Tk) (e0 a0 : Nat) (ms : List Pn.Mk) (q : List Tk) (er a : Nat) : Prop :=
 (e0 ≠ 0 → er = e0 ∧ a = a0) ∧ (e0 = 0 → (er = 0 → ∃ k, Pn.marks q0 = Pn.loopG (fun l => decide (Pn.mkc l = 0)) Pn.mark k ms q ∧ q.length < k ∧ q <:+ q0 ∧ ms.length + q.length ≤ q0.length) ∧ (er ≠ 0 → ∃ c r, Fms q0 = .bad c r ∧ er = Rl.code c r ∧ a = Rl.place en r)) ∧ ms.length ≤ q0.length + 1
theorem mli_start (en : Nat) (q : List Tk) (er a : Nat) : MLI en q er a [] q er a := ⟨fun _ => ⟨rfl, rfl⟩, fun h => ⟨fun _ => ⟨q.length + 1, rfl, Nat.lt_succ_self _, List.suffix_refl _, by simp⟩, fun h9 => absurd h h9⟩, by simp⟩
/-- An error ends the marks. -/
theorem mli_bad {en : Nat} {q0 : List Tk} {e0 a0 : Nat} {ms : List Pn.Mk} {q : List Tk} {er a : Nat} (h : MLI en q0 e0 a0 ms q er a) (he : er ≠ 0) (q' : List Tk) : RR Fms en q0 e0 a0 ms q' er a := ⟨h.1, fun h0 => by
 obtain ⟨c, r, h1, h2, h3⟩ := (h.2.1 h0).2 he
 rw [h1]
 exact ⟨h2, h3, he⟩⟩
theorem mli_e0 {en : Nat} {q0 : List Tk} {e0 a0 : Nat} {ms : List Pn.Mk} {q : List Tk} {er a : Nat} (h : MLI en q0 e0 a0 ms q er a) (he : er = 0) : e0 = 0 := by
 apply Classical.byContradiction
 intro h0
 exact h0 ((h.1 h0).1 ▸ he)
/-- The marks end here. -/
theorem mli_end {en : Nat} {q0 : List Tk} {e0 a0 : Nat} {ms : List Pn.Mk} {q : List Tk} {er a : Nat} (h : MLI en q0 e0 a0 ms q er a) (he : er = 0) (hk : Pn.mkc q = 0) : Fms q0 = (Pn.must Pn.cSemi q).bind fun _ l => .ok ms l := by
 obtain ⟨k, h1, -⟩ := (h.2.1 (mli_e0 h he)).1 he
 unfold Fms
 rw [h1, loopG_stop (by simp [hk])]
 rfl
/-- One mark more. -/
theorem mli_step {en : Nat} {q0 : List Tk} {e0 a0 : Nat} {ms : List Pn.Mk} {q q' : List Tk} {er a er' a' : Nat} {m : Pn.Mk} (h : MLI en q0 e0 a0 ms q er a) (he : er = 0) (hk : Pn.mkc q ≠ 0) (hr : RR Pn.mark en q er a m q' er' a') : MLI en q0 e0 a0 (ms ++ [m]) q' er' a' ∧ (er' = 0 → q'.length < q.length) := by
 have h0 := mli_e0 h he
 obtain ⟨k, h1, h2, h3, h4⟩ := (h.2.1 h0).1 he
 obtain ⟨k', rfl⟩ : ∃ k', k = k' + 1 := ⟨k - 1, by omega⟩
 have hm := hr.2 he
 refine ⟨⟨fun h9 => absurd h0 h9, fun _ => ⟨fun h9 => ?_, fun h9 => ?_⟩, by simp only [List.length_append, List.length_singleton]; omega⟩, fun h9 => ?_⟩
 · cases hq : Pn.mark q with
   | bad c r => rw [hq] at hm; exact absurd h9 hm.2.2
   | ok y r =>
    rw [hq] at hm
    obtain ⟨rfl, rfl, -⟩ := hm
    have hl := mark_len hq
    have hs := Rl.Nice.suf Pn.nice_mark q
    rw [hq] at hs
    rw [loopG_ok (by simp [hk]) hq] at h1
    refine ⟨k', h1, by omega, (show q' <:+ q from hs).trans h3, by simp only [List.length_append, List.length_singleton]; omega⟩
 · cases hq : Pn.mark q with
   | ok y r => rw [hq] at hm; exact absurd hm.2.2 h9
   | bad c r =>
    rw [hq] at hm
    rw [loopG_bad (by simp [hk]) hq] at h1
    exact ⟨c, r, by unfold Fms; rw [h1]; rfl, hm.1, hm.2.1⟩
 · cases hq : Pn.mark q with
   | bad c r => rw [hq] at hm; exact absurd h9 hm.2.2
   | ok y r =>
    rw [hq] at hm
    obtain ⟨rfl, rfl, -⟩ := hm
    have hl := mark_len hq
    omega
def markA (k : Nat) (l : List Tk) : Rl.Out Pn.Mk := (Pn.num l).bind fun n l1 => if k = 4 then (Pn.must Pn.wOf l1).bind fun _ l2 => (Pn.num l2).bind fun w l3 => .ok ⟨k, n, w⟩ l3 else .ok ⟨k, n, 0⟩ l1
theorem mark_rr {en : Nat} {t : Tk} {r q' : List Tk} {er a er' a' : Nat} {m : Pn.Mk} (h : RR (markA (Pn.mkc (t :: r))) en r er a m q' er' a') : RR Pn.mark en (t :: r) er a m q' er' a' := ⟨h.1, fun h0 => h.2 h0⟩
theorem mkc_semi {q : List Tk} (h : Pn.isw Pn.cSemi q = true) : Pn.mkc q = 0 := by
 obtain ⟨t, r, rfl, ht, hk⟩ := isw_cons h
 unfold Pn.mkc
 split
 · show Rl.codeIn Pn.marksL 1 t.text = 0
   rw [ht]
   decide
 · rfl
/-- The marks end, and must reads the semicolon or fails. -/
theorem mli_close {en : Nat} {q0 : List Tk} {e0 a0 : Nat} {ms : List Pn.Mk} {q q' : List Tk} {er a er' a' : Nat} (h : MLI en q0 e0 a0 ms q er a) (he : er = 0) (hk : Pn.mkc q = 0) (hr : RR (Pn.must Pn.cSemi) en q er a () q' er' a') : RR Fms en q0 e0 a0 ms q' er' a' := ⟨fun h9 => absurd (mli_e0 h he) h9, fun h0 => by
 have h1 := hr.2 he
 rw [mli_end h he hk]
 cases hm : Pn.must Pn.cSemi q with
 | ok u r =>
  rw [hm] at h1
  exact ⟨rfl, h1.2⟩
 | bad c r =>
  rw [hm] at h1
  exact h1⟩
theorem mli_over {en : Nat} {q0 : List Tk} {e0 a0 : Nat} {ms : List Pn.Mk} {q q' : List Tk} {er a er' a' : Nat} (h : MLI en q0 e0 a0 ms q er a) (he : er ≠ 0) (hr : RR (Pn.must Pn.cSemi) en q er a () q' er' a') : RR Fms en q0 e0 a0 ms q' er' a' := by
 obtain ⟨h1, h2⟩ := hr.1 he
 rw [h1, h2]
 exact mli_bad h he q'
theorem mli_fail {en : Nat} {q0 : List Tk} {e0 a0 : Nat} {ms : List Pn.Mk} {q : List Tk} {er a er' a' : Nat} (h : MLI en q0 e0 a0 ms q er a) (he : er = 0) (hk : Pn.mkc q = 0) (hs : Pn.isw Pn.cSemi q = false) (hr : FR en q er a er' a') (q' : List Tk) : RR Fms en q0 e0 a0 ms q' er' a' := ⟨fun h9 => absurd (mli_e0 h he) h9, fun h0 => by
 obtain ⟨h1, h2⟩ := hr.2 he
 rw [mli_end h he hk, show Pn.must Pn.cSemi q = .bad 4 q by unfold Pn.must; rw [if_neg (by rw [hs]; decide)]]
 exact ⟨h1, h2, by rw [h1]; exact code4_ne q⟩⟩
theorem rr_row {en : Nat} {q q' : List Tk} {er a er' a' : Nat} {x : Pn.Rw} (h : RR (Pn.rowA (Rl.place en q)) en q er a x q' er' a') : RR Pn.row en q er a x q' er' a' := ⟨h.1, fun h0 => by rw [Pn.row_at en q]; exact h.2 h0⟩
/-- With no error behind a part there was none before, and what is left is an end of what was left. -/
def Sf (q : List Tk) (er : Nat) (q' : List Tk) (er' : Nat) : Prop := er' = 0 → er = 0 ∧ q' <:+ q
theorem RR.sf {α : Type} {f : List Tk → Rl.Out α} {en : Nat} {q q' : List Tk} {er a er' a' : Nat} {x : α} (h : RR f en q er a x q' er' a') (hn : Rl.Nice f) : Sf q er q' er' := fun h' => by
 have he : er = 0 := by
  apply Classical.byContradiction
  intro h9
  exact h9 ((h.1 h9).1 ▸ h')
 refine ⟨he, ?_⟩
 have h1 := h.2 he
 have h2 := hn.suf q
 cases hf : f q with
 | ok y r =>
  rw [hf] at h1 h2
  rw [h1.2.1]
  exact h2
 | bad c r =>
  rw [hf] at h1
  exact absurd h' h1.2.2
theorem Sf.trans {q1 q2 q3 : List Tk} {e1 e2 e3 : Nat} (h : Sf q1 e1 q2 e2) (h' : Sf q2 e2 q3 e3) : Sf q1 e1 q3 e3 := fun h0 => ⟨(h (h' h0).1).1, (h' h0).2.trans (h (h' h0).1).2⟩
theorem mli_suf {en : Nat} {q0 : List Tk} {e0 a0 : Nat} {ms : List Pn.Mk} {q : List Tk} {er a : Nat} (h : MLI en q0 e0 a0 ms q er a) : Sf q0 e0 q er := fun he => ⟨mli_e0 h he, by obtain ⟨k, -, -, h1, -⟩ := (h.2.1 (mli_e0 h he)).1 he; exact h1⟩
theorem mkc_split {q : List Tk} (h : Pn.mkc q ≠ 0) : ∃ t r, q = t :: r := by
 cases q with
 | nil => exact absurd rfl h
 | cons t r => exact ⟨t, r, rfl⟩
theorem word_at {i : Nat} (hi : i < 4) : ([.string ⟨#[103, 97, 112]⟩, .string ⟨#[119, 104, 101, 101, 108]⟩, .string ⟨#[104, 105, 100, 100, 101, 110]⟩, .string ⟨#[98, 101, 115, 105, 100, 101]⟩] : List Value)[i]? = some (.string ⟨(Pn.marksL.getD i []).toArray⟩) := by
 match i, hi with
 | 0, _ => rfl
 | 1, _ => rfl
 | 2, _ => rfl
 | 3, _ => rfl
set_option maxHeartbeats 8000000 in
set_option maxRecDepth 100000 in
theorem rrow_spec (w : World) (b er a en : Nat) (q : List Tk) (HP : Hid (Rp w b q er a en)) (HWK : Hid (∀ t ∈ q, Pn.Wk t)) : Calls Tryd.prog 58 #[.pointer (some ⟨b, 0, none⟩)] w fun e w' => ∃ x u q' er' a', e = .returned (.agg #[.string ⟨x.name.toArray⟩, .int .i64 (x.x : Nat), .int .i64 (x.y : Nat), .int .i64 (x.f : Nat), .int .i64 (x.t : Nat), .int .i64 (x.step : Nat), u, .int .i64 (x.at_ : Nat)]) ∧ RR Pn.row en q er a x q' er' a' ∧ Rp w' b q' er' a' en ∧ Chg [b] w w' ∧ ListS w.heap.size 64 3 Cm x.marks u w' := by
 obtain ⟨im, him, mz0, mz1, mz2⟩ := info_parts info_mark
 have HBW : Hid (b < w.heap.size) := hd HP.out.lt
 go_enter Tryd.func58, Tryd.ntmps58
 go_upto_region 1 with fail
 obtain ⟨W1, hW⟩ : ∃ W, W = (w.alloc (.cells #[.string ⟨#[]⟩, .int .i64 0, .int .i64 0, .int .i64 0, .int .i64 0, .int .i64 0, .slice none 0 0, .int .i64 0] 54)) := ⟨_, rfl⟩
 rw [← hW]
 obtain ⟨X2, hX2⟩ : ∃ T, T = w.heap.size := ⟨_, rfl⟩
 try rw [← hX2]
 have OX2 : Hid (w.heap.size ≤ X2) := hd (by rw [hX2]; exact Nat.le_refl _)
 have HX2_1 : Hid (Blk W1 X2 [.string ⟨#[]⟩, .int .i64 0, .int .i64 0, .int .i64 0, .int .i64 0, .int .i64 0, .slice none 0 0, .int .i64 0] 54) := hd (by
  have h1 := Blk.new w [.string ⟨#[]⟩, .int .i64 0, .int .i64 0, .int .i64 0, .int .i64 0, .int .i64 0, .slice none 0 0, .int .i64 0] 54
  have h2 : w.heap.size = X2 := by simp [hX2]
  rw [h2] at h1
  rw [hW]
  exact h1)
 have BX2 : Hid (b < X2) := hd (by have h1 := HBW.out; have OX2_ := OX2.out; omega)
 have C1 : Hid (Chg [b] w W1) := hd (by rw [hW]; exact ((Chg.refl [b] w).alloc _))
 have KP_1 : Hid (Chg [] w W1) := hd (by rw [hW]; exact ((Chg.refl [] w).alloc _))
 clear hW hX2
 go_wp2_with fail
 refine rat_r (hd (HP.out.keep KP_1.out (by simp))) (fun w1 HP1 HC1 => ?_)
 have HX2_2 : Hid (Blk w1 X2 [.string ⟨#[]⟩, .int .i64 0, .int .i64 0, .int .i64 0, .int .i64 0, .int .i64 0, .slice none 0 0, .int .i64 0] 54) := hd (HC1.out.blk HX2_1.out (by simp))
 have C2 := hd (C1.out.trans HC1.out (by simp))
 obtain ⟨at9, hat9⟩ : ∃ x, x = Rl.place en q := ⟨_, rfl⟩
 rw [← hat9]
 have HAT := hd hat9
 clear hat9
 go_upto_region 2 with fail
 obtain ⟨W3, hW⟩ : ∃ W, W = (w1.alloc (.cells #[.string ⟨#[]⟩, .int .i64 0, .int .i64 0, .int .i64 0, .int .i64 0, .int .i64 0, .slice none 0 0, .int .i64 (at9 : Nat)] 54)) := ⟨_, rfl⟩
 rw [← hW]
 obtain ⟨X3, hX3⟩ : ∃ T, T = w1.heap.size := ⟨_, rfl⟩
 try rw [← hX3]
 have OX3 : Hid (X2 < X3) := hd (by rw [hX3]; exact HX2_2.out.lt)
 have HX2_3 := hd (HX2_2.out.alE hW)
 have HX3_3 : Hid (Blk W3 X3 [.string ⟨#[]⟩, .int .i64 0, .int .i64 0, .int .i64 0, .int .i64 0, .int .i64 0, .slice none 0 0, .int .i64 (at9 : Nat)] 54) := hd (by
  have h1 := Blk.new w1 [.string ⟨#[]⟩, .int .i64 0, .int .i64 0, .int .i64 0, .int .i64 0, .int .i64 0, .slice none 0 0, .int .i64 (at9 : Nat)] 54
  have h2 : w1.heap.size = X3 := by simp [hX3]
  rw [h2] at h1
  rw [hW]
  exact h1)
 have BX3 : Hid (b < X3) := hd (by have h1 := HBW.out; have OX2_ := OX2.out; have OX3_ := OX3.out; omega)
 have C3 := hd (C2.out.alE hW)
 have KP_3 : Hid (Chg [X2] w1 W3) := hd (by rw [hW]; exact ((Chg.refl [X2] w1).alloc _))
 clear hW hX3
 go_wp2_with fail
 refine rmust_r (hd (HP1.out.keep KP_3.out (al1 BX2.out))) [114, 111, 119] (fun q2 e2 a2 w2 HR2 HP2 HC2 => ?_)
 have NX2_b : X2 ≠ b := by have h1 := HBW.out; have OX2_ := OX2.out; omega
 have Nb_X2 : b ≠ X2 := NX2_b.symm
 have NX3_b : X3 ≠ b := by have h1 := HBW.out; have OX2_ := OX2.out; have OX3_ := OX3.out; omega
 have Nb_X3 : b ≠ X3 := NX3_b.symm
 have HX2_4 := hd (HC2.out.blk HX2_3.out (by simp [NX2_b]))
 have HX3_4 : Hid (Blk w2 X3 [.string ⟨#[]⟩, .int .i64 0, .int .i64 0, .int .i64 0, .int .i64 0, .int .i64 0, .slice none 0 0, .int .i64 (at9 : Nat)] 54) := hd (HC2.out.blk HX3_3.out (by simp [NX3_b]))
 have C4 := hd (C3.out.trans HC2.out (al1 (.inl (by simp))))
 go_wp2_with fail
 refine rname_r (hd HP2.out) (fun x3 q3 e3 a3 w3 HR3 HP3 HC3 => ?_)
 have HX2_5 := hd (HC3.out.blk HX2_4.out (by simp [NX2_b]))
 have HX3_5 := hd (HC3.out.blk HX3_4.out (by simp [NX3_b]))
 have C5 := hd (C4.out.trans HC3.out (al1 (.inl (by simp))))
 obtain ⟨cX3_0, cX3_1, cX3_2, cX3_3, cX3_4, cX3_5, cX3_6, cX3_7⟩ := HX3_5.out.c8
 obtain ⟨cX3_f0, cX3_f1, cX3_f2, cX3_f3, cX3_f4, cX3_f5, cX3_f6, cX3_f7⟩ := HX3_5.out.f8
 go_upto_region 4 with fail
 clear cX3_0 cX3_1 cX3_2 cX3_3 cX3_4 cX3_5 cX3_6 cX3_7 cX3_f0 cX3_f1 cX3_f2 cX3_f3 cX3_f4 cX3_f5 cX3_f6 cX3_f7
 have NX2_X3 : X2 ≠ X3 := by have OX3_ := OX3.out; omega
 have NX3_X2 : X3 ≠ X2 := NX2_X3.symm
 obtain ⟨W6, hW⟩ : ∃ W, W = (w3.setCell ⟨X3, 0, none⟩ (.string ⟨x3.toArray⟩)) := ⟨_, rfl⟩
 rw [← hW]
 have HX2_6 := hd (HX2_5.out.o1 hW NX2_X3)
 have HX3_6 : Hid (Blk W6 X3 [.string ⟨x3.toArray⟩, .int .i64 0, .int .i64 0, .int .i64 0, .int .i64 0, .int .i64 0, .slice none 0 0, .int .i64 (at9 : Nat)] 54) := hd (by rw [hW]; exact (HX3_5.out.set 0 (.string ⟨x3.toArray⟩)))
 have C6 := hd (C5.out.s1 hW (.inr (by have OX2_ := OX2.out; have OX3_ := OX3.out; show w.heap.size ≤ X3; omega)))
 have KP_6 := hd ((Chg.refl [X2, X3] w3).s1 hW (.inl (by simp)))
 clear hW
 go_wp2_with fail
 refine rmust_r (hd (HP3.out.keep KP_6.out (al2 BX2.out BX3.out))) [97, 116] (fun q4 e4 a4 w4 HR4 HP4 HC4 => ?_)
 have HX2_7 := hd (HC4.out.blk HX2_6.out (by simp [NX2_b]))
 have HX3_7 := hd (HC4.out.blk HX3_6.out (by simp [NX3_b]))
 have C7 := hd (C6.out.trans HC4.out (al1 (.inl (by simp))))
 go_wp2_with fail
 refine rnum_r (hd HP4.out) (fun x5 q5 e5 a5 w5 HR5 HP5 HC5 => ?_)
 have HX2_8 := hd (HC5.out.blk HX2_7.out (by simp [NX2_b]))
 have HX3_8 := hd (HC5.out.blk HX3_7.out (by simp [NX3_b]))
 have C8 := hd (C7.out.trans HC5.out (al1 (.inl (by simp))))
 obtain ⟨cX3_0, cX3_1, cX3_2, cX3_3, cX3_4, cX3_5, cX3_6, cX3_7⟩ := HX3_8.out.c8
 obtain ⟨cX3_f0, cX3_f1, cX3_f2, cX3_f3, cX3_f4, cX3_f5, cX3_f6, cX3_f7⟩ := HX3_8.out.f8
 go_upto_region 6 with fail
 clear cX3_0 cX3_1 cX3_2 cX3_3 cX3_4 cX3_5 cX3_6 cX3_7 cX3_f0 cX3_f1 cX3_f2 cX3_f3 cX3_f4 cX3_f5 cX3_f6 cX3_f7
 obtain ⟨W9, hW⟩ : ∃ W, W = (w5.setCell ⟨X3, 1, none⟩ (.int .i64 (x5 : Nat))) := ⟨_, rfl⟩
 rw [← hW]
 have HX2_9 := hd (HX2_8.out.o1 hW NX2_X3)
 have HX3_9 : Hid (Blk W9 X3 [.string ⟨x3.toArray⟩, .int .i64 (x5 : Nat), .int .i64 0, .int .i64 0, .int .i64 0, .int .i64 0, .slice none 0 0, .int .i64 (at9 : Nat)] 54) := hd (by rw [hW]; exact (HX3_8.out.set 1 (.int .i64 (x5 : Nat))))
 have C9 := hd (C8.out.s1 hW (.inr (by have OX2_ := OX2.out; have OX3_ := OX3.out; show w.heap.size ≤ X3; omega)))
 have KP_9 := hd ((Chg.refl [X2, X3] w5).s1 hW (.inl (by simp)))
 clear hW
 go_wp2_with fail
 refine rnum_r (hd (HP5.out.keep KP_9.out (al2 BX2.out BX3.out))) (fun x6 q6 e6 a6 w6 HR6 HP6 HC6 => ?_)
 have HX2_10 := hd (HC6.out.blk HX2_9.out (by simp [NX2_b]))
 have HX3_10 := hd (HC6.out.blk HX3_9.out (by simp [NX3_b]))
 have C10 := hd (C9.out.trans HC6.out (al1 (.inl (by simp))))
 obtain ⟨cX3_0, cX3_1, cX3_2, cX3_3, cX3_4, cX3_5, cX3_6, cX3_7⟩ := HX3_10.out.c8
 obtain ⟨cX3_f0, cX3_f1, cX3_f2, cX3_f3, cX3_f4, cX3_f5, cX3_f6, cX3_f7⟩ := HX3_10.out.f8
 go_upto_region 7 with fail
 clear cX3_0 cX3_1 cX3_2 cX3_3 cX3_4 cX3_5 cX3_6 cX3_7 cX3_f0 cX3_f1 cX3_f2 cX3_f3 cX3_f4 cX3_f5 cX3_f6 cX3_f7
 obtain ⟨W11, hW⟩ : ∃ W, W = (w6.setCell ⟨X3, 2, none⟩ (.int .i64 (x6 : Nat))) := ⟨_, rfl⟩
 rw [← hW]
 have HX2_11 := hd (HX2_10.out.o1 hW NX2_X3)
 have HX3_11 : Hid (Blk W11 X3 [.string ⟨x3.toArray⟩, .int .i64 (x5 : Nat), .int .i64 (x6 : Nat), .int .i64 0, .int .i64 0, .int .i64 0, .slice none 0 0, .int .i64 (at9 : Nat)] 54) := hd (by rw [hW]; exact (HX3_10.out.set 2 (.int .i64 (x6 : Nat))))
 have C11 := hd (C10.out.s1 hW (.inr (by have OX2_ := OX2.out; have OX3_ := OX3.out; show w.heap.size ≤ X3; omega)))
 have KP_11 := hd ((Chg.refl [X2, X3] w6).s1 hW (.inl (by simp)))
 clear hW
 go_wp2_with fail
 refine rmust_r (hd (HP6.out.keep KP_11.out (al2 BX2.out BX3.out))) [115, 101, 97, 116, 115] (fun q7 e7 a7 w7 HR7 HP7 HC7 => ?_)
 have HX2_12 := hd (HC7.out.blk HX2_11.out (by simp [NX2_b]))
 have HX3_12 := hd (HC7.out.blk HX3_11.out (by simp [NX3_b]))
 have C12 := hd (C11.out.trans HC7.out (al1 (.inl (by simp))))
 go_wp2_with fail
 refine rnum_r (hd HP7.out) (fun x8 q8 e8 a8 w8 HR8 HP8 HC8 => ?_)
 have HX2_13 := hd (HC8.out.blk HX2_12.out (by simp [NX2_b]))
 have HX3_13 := hd (HC8.out.blk HX3_12.out (by simp [NX3_b]))
 have C13 := hd (C12.out.trans HC8.out (al1 (.inl (by simp))))
 obtain ⟨cX3_0, cX3_1, cX3_2, cX3_3, cX3_4, cX3_5, cX3_6, cX3_7⟩ := HX3_13.out.c8
 obtain ⟨cX3_f0, cX3_f1, cX3_f2, cX3_f3, cX3_f4, cX3_f5, cX3_f6, cX3_f7⟩ := HX3_13.out.f8
 go_upto_region 9 with fail
 clear cX3_0 cX3_1 cX3_2 cX3_3 cX3_4 cX3_5 cX3_6 cX3_7 cX3_f0 cX3_f1 cX3_f2 cX3_f3 cX3_f4 cX3_f5 cX3_f6 cX3_f7
 obtain ⟨W14, hW⟩ : ∃ W, W = (w8.setCell ⟨X3, 3, none⟩ (.int .i64 (x8 : Nat))) := ⟨_, rfl⟩
 rw [← hW]
 have HX2_14 := hd (HX2_13.out.o1 hW NX2_X3)
 have HX3_14 : Hid (Blk W14 X3 [.string ⟨x3.toArray⟩, .int .i64 (x5 : Nat), .int .i64 (x6 : Nat), .int .i64 (x8 : Nat), .int .i64 0, .int .i64 0, .slice none 0 0, .int .i64 (at9 : Nat)] 54) := hd (by rw [hW]; exact (HX3_13.out.set 3 (.int .i64 (x8 : Nat))))
 have C14 := hd (C13.out.s1 hW (.inr (by have OX2_ := OX2.out; have OX3_ := OX3.out; show w.heap.size ≤ X3; omega)))
 have KP_14 := hd ((Chg.refl [X2, X3] w8).s1 hW (.inl (by simp)))
 clear hW
 go_wp2_with fail
 refine rmust_r (hd (HP8.out.keep KP_14.out (al2 BX2.out BX3.out))) [116, 111] (fun q9 e9 a9 w9 HR9 HP9 HC9 => ?_)
 have HX2_15 := hd (HC9.out.blk HX2_14.out (by simp [NX2_b]))
 have HX3_15 := hd (HC9.out.blk HX3_14.out (by simp [NX3_b]))
 have C15 := hd (C14.out.trans HC9.out (al1 (.inl (by simp))))
 go_wp2_with fail
 refine rnum_r (hd HP9.out) (fun x10 q10 e10 a10 w10 HR10 HP10 HC10 => ?_)
 have HX2_16 := hd (HC10.out.blk HX2_15.out (by simp [NX2_b]))
 have HX3_16 := hd (HC10.out.blk HX3_15.out (by simp [NX3_b]))
 have C16 := hd (C15.out.trans HC10.out (al1 (.inl (by simp))))
 obtain ⟨cX3_0, cX3_1, cX3_2, cX3_3, cX3_4, cX3_5, cX3_6, cX3_7⟩ := HX3_16.out.c8
 obtain ⟨cX3_f0, cX3_f1, cX3_f2, cX3_f3, cX3_f4, cX3_f5, cX3_f6, cX3_f7⟩ := HX3_16.out.f8
 go_upto_region 11 with fail
 clear cX3_0 cX3_1 cX3_2 cX3_3 cX3_4 cX3_5 cX3_6 cX3_7 cX3_f0 cX3_f1 cX3_f2 cX3_f3 cX3_f4 cX3_f5 cX3_f6 cX3_f7
 obtain ⟨W17, hW⟩ : ∃ W, W = (w10.setCell ⟨X3, 4, none⟩ (.int .i64 (x10 : Nat))) := ⟨_, rfl⟩
 rw [← hW]
 have HX2_17 := hd (HX2_16.out.o1 hW NX2_X3)
 have HX3_17 : Hid (Blk W17 X3 [.string ⟨x3.toArray⟩, .int .i64 (x5 : Nat), .int .i64 (x6 : Nat), .int .i64 (x8 : Nat), .int .i64 (x10 : Nat), .int .i64 0, .slice none 0 0, .int .i64 (at9 : Nat)] 54) := hd (by rw [hW]; exact (HX3_16.out.set 4 (.int .i64 (x10 : Nat))))
 have C17 := hd (C16.out.s1 hW (.inr (by have OX2_ := OX2.out; have OX3_ := OX3.out; show w.heap.size ≤ X3; omega)))
 have KP_17 := hd ((Chg.refl [X2, X3] w10).s1 hW (.inl (by simp)))
 clear hW
 go_wp2_with fail
 refine rmust_r (hd (HP10.out.keep KP_17.out (al2 BX2.out BX3.out))) [115, 116, 101, 112] (fun q11 e11 a11 w11 HR11 HP11 HC11 => ?_)
 have HX2_18 := hd (HC11.out.blk HX2_17.out (by simp [NX2_b]))
 have HX3_18 := hd (HC11.out.blk HX3_17.out (by simp [NX3_b]))
 have C18 := hd (C17.out.trans HC11.out (al1 (.inl (by simp))))
 go_wp2_with fail
 refine rnum_r (hd HP11.out) (fun x12 q12 e12 a12 w12 HR12 HP12 HC12 => ?_)
 have HX2_19 := hd (HC12.out.blk HX2_18.out (by simp [NX2_b]))
 have HX3_19 := hd (HC12.out.blk HX3_18.out (by simp [NX3_b]))
 have C19 := hd (C18.out.trans HC12.out (al1 (.inl (by simp))))
 obtain ⟨cX3_0, cX3_1, cX3_2, cX3_3, cX3_4, cX3_5, cX3_6, cX3_7⟩ := HX3_19.out.c8
 obtain ⟨cX3_f0, cX3_f1, cX3_f2, cX3_f3, cX3_f4, cX3_f5, cX3_f6, cX3_f7⟩ := HX3_19.out.f8
 go_upto_region 13 with fail
 clear cX3_0 cX3_1 cX3_2 cX3_3 cX3_4 cX3_5 cX3_6 cX3_7 cX3_f0 cX3_f1 cX3_f2 cX3_f3 cX3_f4 cX3_f5 cX3_f6 cX3_f7
 obtain ⟨W20, hW⟩ : ∃ W, W = (w12.setCell ⟨X3, 5, none⟩ (.int .i64 (x12 : Nat))) := ⟨_, rfl⟩
 rw [← hW]
 have HX2_20 := hd (HX2_19.out.o1 hW NX2_X3)
 have HX3_20 : Hid (Blk W20 X3 [.string ⟨x3.toArray⟩, .int .i64 (x5 : Nat), .int .i64 (x6 : Nat), .int .i64 (x8 : Nat), .int .i64 (x10 : Nat), .int .i64 (x12 : Nat), .slice none 0 0, .int .i64 (at9 : Nat)] 54) := hd (by rw [hW]; exact (HX3_19.out.set 5 (.int .i64 (x12 : Nat))))
 have C20 := hd (C19.out.s1 hW (.inr (by have OX2_ := OX2.out; have OX3_ := OX3.out; show w.heap.size ≤ X3; omega)))
 have KP_20 := hd ((Chg.refl [X2, X3] w12).s1 hW (.inl (by simp)))
 clear hW
 go_upto_block 0 with fail
 obtain ⟨W21, hW⟩ : ∃ W, W = (W20.alloc (.cells #[.string ⟨#[103, 97, 112]⟩, .string ⟨#[119, 104, 101, 101, 108]⟩, .string ⟨#[104, 105, 100, 100, 101, 110]⟩, .string ⟨#[98, 101, 115, 105, 100, 101]⟩] 9)) := ⟨_, rfl⟩
 rw [← hW]
 obtain ⟨X4, hX4⟩ : ∃ T, T = W20.heap.size := ⟨_, rfl⟩
 try rw [← hX4]
 have OX4 : Hid (X3 < X4) := hd (by rw [hX4]; exact HX3_20.out.lt)
 have HX2_21 := hd (HX2_20.out.alE hW)
 have HX3_21 := hd (HX3_20.out.alE hW)
 have HX4_21 : Hid (Blk W21 X4 [.string ⟨#[103, 97, 112]⟩, .string ⟨#[119, 104, 101, 101, 108]⟩, .string ⟨#[104, 105, 100, 100, 101, 110]⟩, .string ⟨#[98, 101, 115, 105, 100, 101]⟩] 9) := hd (by
  have h1 := Blk.new W20 [.string ⟨#[103, 97, 112]⟩, .string ⟨#[119, 104, 101, 101, 108]⟩, .string ⟨#[104, 105, 100, 100, 101, 110]⟩, .string ⟨#[98, 101, 115, 105, 100, 101]⟩] 9
  have h2 : W20.heap.size = X4 := by simp [hX4]
  rw [h2] at h1
  rw [hW]
  exact h1)
 have BX4 : Hid (b < X4) := hd (by have h1 := HBW.out; have OX2_ := OX2.out; have OX3_ := OX3.out; have OX4_ := OX4.out; omega)
 have C21 := hd (C20.out.alE hW)
 have KP_21 := hd (KP_20.out.alE hW)
 clear hW hX4
 have HP0 : Hid (Rp W21 b q12 e12 a12 en) := hd (HP12.out.keep KP_21.out (al2 BX2.out BX3.out))
 have HSF : Hid (Sf q er q12 e12) := hd (((((((((((HR2.out.sf (Pn.nice_must _)).trans (HR3.out.sf Pn.nice_name)).trans (HR4.out.sf (Pn.nice_must _))).trans (HR5.out.sf Pn.nice_num)).trans (HR6.out.sf Pn.nice_num)).trans (HR7.out.sf (Pn.nice_must _))).trans (HR8.out.sf Pn.nice_num)).trans (HR9.out.sf (Pn.nice_must _))).trans (HR10.out.sf Pn.nice_num)).trans (HR11.out.sf (Pn.nice_must _))).trans (HR12.out.sf Pn.nice_num))
 have HRL := hd HP12.out.small
 have HXL : Hid (X3 < W21.heap.size) := hd HX3_21.out.lt
 have HX2L : Hid (X2 < W21.heap.size) := hd HX2_21.out.lt
 have HWL : Hid (w.heap.size ≤ W21.heap.size) := hd C21.out.size
 have HbL : Hid (b < W21.heap.size) := hd (by have h1 := HBW.out; have h2 := HWL.out; omega)
 go_wp2_with fail
 go_loopw [5, 6, 7] (fun _ _ _ wr => ∃ (ms : List Pn.Mk) (q1 : List Tk) (er1 a1 : Nat) (vo : Option Addr) (vc : Nat), Hid (Blk wr X3 [.string ⟨x3.toArray⟩, .int .i64 (x5 : Nat), .int .i64 (x6 : Nat), .int .i64 (x8 : Nat), .int .i64 (x10 : Nat), .int .i64 (x12 : Nat), .slice vo ms.length vc, .int .i64 (at9 : Nat)] 54) ∧ Hid (ListS W21.heap.size 64 3 Cm ms (.slice vo ms.length vc) wr) ∧ Hid (Rp wr b q1 er1 a1 en) ∧ Hid (MLI en q12 e12 a12 ms q1 er1 a1) ∧ Hid (Chg [b, X3] W21 wr)) (fun _ _ _ wr => mz b wr)
 case atStart => exact ⟨[], q12, e12, a12, none, 0, HX3_21, hd (ListS.nil _ _ _ _ _), HP0, hd (mli_start _ _ _ _), hd (Chg.refl _ _)⟩
 case round =>
  obtain ⟨ms, q1, er1, a1, vo, vc, HX3, HL, HPq, HMI, HCL⟩ := hrel
  obtain ⟨wo, hwn⟩ : ∃ x, x = wr := ⟨_, rfl⟩
  subst hwn
  have NX4_b : X4 ≠ b := by have h1 := HBW.out; have OX2_ := OX2.out; have OX3_ := OX3.out; have OX4_ := OX4.out; omega
  have Nb_X4 : b ≠ X4 := NX4_b.symm
  have NX4_X3 : X4 ≠ X3 := by have OX4_ := OX4.out; omega
  have NX3_X4 : X3 ≠ X4 := NX4_X3.symm
  have HX2_22 := hd (HCL.out.blk HX2_21.out (by simp [NX2_b, NX2_X3]))
  have HX4_22 : Hid (Blk wo X4 [.string ⟨#[103, 97, 112]⟩, .string ⟨#[119, 104, 101, 101, 108]⟩, .string ⟨#[104, 105, 100, 100, 101, 110]⟩, .string ⟨#[98, 101, 115, 105, 100, 101]⟩] 9) := hd (HCL.out.blk HX4_21.out (by simp [NX4_b, NX4_X3]))
  have C22 := hd (C21.out.trans HCL.out (al2 (.inl (by simp)) (.inr (by have OX2_ := OX2.out; have OX3_ := OX3.out; show w.heap.size ≤ X3; omega))))
  have KL_22 := hd ((Chg.refl [b, X3] W21).trans HCL.out (al2 (.inl (by simp)) (.inl (by simp))))
  have hml : ms.length ≤ 1000001 := by have h1 := HMI.out.2.2; have h2 := HRL.out; omega
  obtain ⟨nb, ib, aob, capb, hbb⟩ := HPq.out.any
  have cb2 := hbb.cell (i := 2) rfl
  clear hbb
  by_cases he : er1 = 0
  · have e0 : ((er1 : Int) == 0) = true := by rw [he]; rfl
    have HE := hd he
    clear he
    go_wp2_with fail
    refine sees_r (hd HPq.out) [59] (fun bo w21 HB HPs HCs => ?_)
    clear cb2
    have HX2_23 := hd (HCs.out.blk HX2_22.out (by simp))
    have HX3_23 : Hid (Blk w21 X3 [.string ⟨x3.toArray⟩, .int .i64 (x5 : Nat), .int .i64 (x6 : Nat), .int .i64 (x8 : Nat), .int .i64 (x10 : Nat), .int .i64 (x12 : Nat), .slice vo ms.length vc, .int .i64 (at9 : Nat)] 54) := hd (HCs.out.blk HX3.out (by simp))
    have HX4_23 := hd (HCs.out.blk HX4_22.out (by simp))
    have C23 := hd (C22.out.trans HCs.out (by simp))
    have KL_23 := hd (KL_22.out.trans HCs.out (by simp))
    have Ko_23 := hd ((Chg.refl [b, X3] wo).trans HCs.out (by simp))
    cases bo with
    | true =>
     go_wp2_with fail
     refine rmust_r (hd HPs.out) [59] (fun q9y e9y a9y w9y HR9y HP9y HC9y => ?_)
     have HX2_24 := hd (HC9y.out.blk HX2_23.out (by simp [NX2_b]))
     have HX3_24 := hd (HC9y.out.blk HX3_23.out (by simp [NX3_b]))
     have C24 := hd (C23.out.trans HC9y.out (al1 (.inl (by simp))))
     have Ko_24 := hd (Ko_23.out.trans HC9y.out (al1 (.inl (by simp))))
     have HRF := hd (mli_close HMI.out HE.out (mkc_semi (sees_true HB.out).2) HR9y.out)
     have HLe : Hid (ListS W21.heap.size 64 3 Cm ms (.slice vo ms.length vc) w9y) := hd (HL.out.keep (kp_m _) Ko_24.out (TyB.lower (by intro z hz; simp only [List.mem_cons, List.not_mem_nil, or_false] at hz; rcases hz with h9 | h9; (rw [h9]; exact HbL.out); (rw [h9]; exact HXL.out)) _))
     obtain ⟨cX3_0, cX3_1, cX3_2, cX3_3, cX3_4, cX3_5, cX3_6, cX3_7⟩ := HX3_24.out.c8
     obtain ⟨cX2_0, cX2_1, cX2_2, cX2_3, cX2_4, cX2_5, cX2_6, cX2_7⟩ := HX2_24.out.c8
     obtain ⟨cX2_f0, cX2_f1, cX2_f2, cX2_f3, cX2_f4, cX2_f5, cX2_f6, cX2_f7⟩ := HX2_24.out.f8
     go_wp2_with fail
     clear cX3_0 cX3_1 cX3_2 cX3_3 cX3_4 cX3_5 cX3_6 cX3_7 cX2_0 cX2_1 cX2_2 cX2_3 cX2_4 cX2_5 cX2_6 cX2_7 cX2_f0 cX2_f1 cX2_f2 cX2_f3 cX2_f4 cX2_f5 cX2_f6 cX2_f7
     have NX4_X2 : X4 ≠ X2 := by have OX3_ := OX3.out; have OX4_ := OX4.out; omega
     have NX2_X4 : X2 ≠ X4 := NX4_X2.symm
     obtain ⟨W25, hW⟩ : ∃ W, W = ((((((((w9y.setCell ⟨X2, 0, none⟩ (.string ⟨x3.toArray⟩)).setCell ⟨X2, 1, none⟩ (.int .i64 (x5 : Nat))).setCell ⟨X2, 2, none⟩ (.int .i64 (x6 : Nat))).setCell ⟨X2, 3, none⟩ (.int .i64 (x8 : Nat))).setCell ⟨X2, 4, none⟩ (.int .i64 (x10 : Nat))).setCell ⟨X2, 5, none⟩ (.int .i64 (x12 : Nat))).setCell ⟨X2, 6, none⟩ (.slice vo ms.length vc)).setCell ⟨X2, 7, none⟩ (.int .i64 (at9 : Nat))) := ⟨_, rfl⟩
     rw [← hW]
     have HX2_25 : Hid (Blk W25 X2 [.string ⟨x3.toArray⟩, .int .i64 (x5 : Nat), .int .i64 (x6 : Nat), .int .i64 (x8 : Nat), .int .i64 (x10 : Nat), .int .i64 (x12 : Nat), .slice vo ms.length vc, .int .i64 (at9 : Nat)] 54) := hd (by rw [hW]; exact ((((((((HX2_24.out.set 0 (.string ⟨x3.toArray⟩)).set 1 (.int .i64 (x5 : Nat))).set 2 (.int .i64 (x6 : Nat))).set 3 (.int .i64 (x8 : Nat))).set 4 (.int .i64 (x10 : Nat))).set 5 (.int .i64 (x12 : Nat))).set 6 (.slice vo ms.length vc)).set 7 (.int .i64 (at9 : Nat))))
     have C25 := hd (C24.out.s8 hW (.inr (by have OX2_ := OX2.out; show w.heap.size ≤ X2; omega)))
     have Ko2_25 := hd ((Chg.refl [X2] w9y).s8 hW (.inl (by simp)))
     have KP_25 := hd ((Chg.refl [X2, X3, X4] w9y).s8 hW (.inl (by simp)))
     clear hW
     (try simp only [Exit.inBlock, Exit.then])
     have HLF : Hid (ListS w.heap.size 64 3 Cm ms (.slice vo ms.length vc) W25) := hd ((HLe.out.keep (kp_m _) Ko2_25.out (TyB.lower (by intro z hz; simp only [List.mem_cons, List.not_mem_nil, or_false] at hz; rw [hz]; exact HX2L.out) _)).mono HWL.out (mono_m HWL.out))
     have HRR : RR Pn.row en q er a (⟨x3, x5, x6, x8, x10, x12, ms, at9⟩ : Pn.Rw) q9y e9y a9y := by
      refine rr_row ?_
      rw [← HAT.out]
      exact HR2.out.bind (HR3.out.bind (HR4.out.bind (HR5.out.bind (HR6.out.bind (HR7.out.bind (HR8.out.bind (HR9.out.bind (HR10.out.bind (HR11.out.bind (HR12.out.bind (RR.map (f := Fms) (fun ms => (⟨x3, x5, x6, x8, x10, x12, ms, at9⟩ : Pn.Rw)) HRF.out)))))))))))
     refine bodyPost_ret (results_cell_row rfl _ _ X2 54 #[.string ⟨x3.toArray⟩, .int .i64 (x5 : Nat), .int .i64 (x6 : Nat), .int .i64 (x8 : Nat), .int .i64 (x10 : Nat), .int .i64 (x12 : Nat), .slice vo ms.length vc, .int .i64 (at9 : Nat)] (0, 0) _ rfl HX2_25.out Tryd.underlying54 rfl (by kernel_rfl)) rfl ⟨(⟨x3, x5, x6, x8, x10, x12, ms, at9⟩ : Pn.Rw), .slice vo ms.length vc, q9y, e9y, a9y, rfl, HRR, (HP9y.out.keep KP_25.out (al3 BX2.out BX3.out BX4.out)), C25.out, HLF.out⟩
    | false =>
     have HNS : Hid (Pn.isw Pn.cSemi q1 = false) := hd (by have h1 := HB.out; unfold seesB at h1; simp [HE.out] at h1; exact h1)
     have HWQ : Hid (∀ t ∈ q1, Pn.Wk t) := hd (by obtain ⟨h1, h2⟩ := (HSF.out.trans (mli_suf HMI.out)) HE.out; exact fun t ht => HWK.out t (h2.subset ht))
     have HW4 := HX4_23
     go_wp2_with fail
     go_loopw [5, 6] (fun kv iv wr => ∃ i : Nat, kv = .int .i64 (Pn.seen i q1 : Nat) ∧ iv = .int .i64 (i : Int) ∧ i ≤ 4 ∧ Hid (Rp wr b q1 er1 a1 en) ∧ Hid (Chg [] w21 wr)) (fun _ iv _ => 4 - intN iv)
     case atStart => exact ⟨0, rfl, rfl, Nat.zero_le _, HPs, hd (Chg.refl _ _)⟩
     case round =>
      obtain ⟨i, rfl, rfl, hi, HPi, HCi⟩ := hrel
      by_cases hlt : i < 4
      · have q0 : (0 : Int) ≤ (i : Int) := by omega
        have q2 : (i : Int) < 4 := by omega
        have q3 : (i : Int) ≤ 4 := by omega
        have qj : ((i : Int)).toNat = i := by omega
        have hw2 : IntKind.i64.wrap ((i : Int) + 1) = ((i + 1 : Nat) : Int) := by rw [IntWalk.i64_in _ (by omega)]; omega
        obtain ⟨xw, hxw⟩ : ∃ x, x = Pn.marksL.getD i [] := ⟨_, rfl⟩
        have y4 := (HCi.out.blk HW4.out (by simp)).cell (i := i) (v := .string ⟨xw.toArray⟩) (by rw [hxw]; exact word_at hlt)
        have HXW := hd hxw
        clear hxw
        go_wp2_with fail
        refine sees_r HPi xw (fun bo w22 HB2 HP2 HC2 => ?_)
        clear y4
        have HCi2 := hd (HCi.out.trans HC2.out (by simp))
        have HIS : Hid (Pn.isw (Pn.marksL.getD i []) q1 = bo) := hd (by have h1 := HB2.out; unfold seesB at h1; rw [← HXW.out]; simp [HE.out] at h1; exact h1)
        cases bo with
        | true =>
         have HSE : Hid (Pn.seen (i + 1) q1 = i + 1) := hd (by unfold Pn.seen; rw [if_pos HIS.out])
         go_wp2_with fail
         refine ⟨?_, by simp [intN]; omega⟩
         first | exact ⟨i + 1, by rw [HSE.out]; exact vintP (by omega), vintP (by omega), by omega, HP2, HCi2⟩ | ((repeat apply Exists.intro); exact ⟨⟨i + 1, by rw [HSE.out]; exact vintP (by omega), vintP (by omega), by omega, HP2, HCi2⟩, rfl⟩)
        | false =>
         have HSE : Hid (Pn.seen (i + 1) q1 = Pn.seen i q1) := hd (by rw [Pn.seen, if_neg (by rw [HIS.out]; decide)])
         go_wp2_with fail
         refine ⟨?_, by simp [intN]; omega⟩
         first | exact ⟨i + 1, by rw [HSE.out], vintP (by omega), by omega, HP2, HCi2⟩ | ((repeat apply Exists.intro); exact ⟨⟨i + 1, by rw [HSE.out], vintP (by omega), by omega, HP2, HCi2⟩, rfl⟩)
      · have q2 : ¬ (i : Int) < 4 := by omega
        have hi4 : i = 4 := by omega
        subst hi4
        obtain ⟨kd, hkd⟩ : ∃ k, k = Pn.seen 4 q1 := ⟨_, rfl⟩
        rw [← hkd]
        have HKD : Hid (kd = Pn.mkc q1) := hd (by rw [hkd]; exact Pn.seen_mkc HWQ.out)
        clear hkd hlt hi
        obtain ⟨w23, hw23⟩ : ∃ x, x = wr := ⟨_, rfl⟩
        subst hw23
        have HX2_24 := hd (HCi.out.blk HX2_23.out (by simp))
        have HX3_24 := hd (HCi.out.blk HX3_23.out (by simp))
        have HX4_24 := hd (HCi.out.blk HX4_23.out (by simp))
        have C24 := hd (C23.out.trans HCi.out (by simp))
        have KL_24 := hd (KL_23.out.trans HCi.out (by simp))
        have Ko_24 := hd (Ko_23.out.trans HCi.out (by simp))
        by_cases hk0 : kd = 0
        · have k0 : ((kd : Int) == 0) = true := by rw [hk0]; rfl
          have HK0 := hd hk0
          clear hk0
          go_wp2_with fail
          refine rfail_r (hd HPi.out) (fun e24 a24 w24 HF HP24 HC24 => ?_)
          have HX2_25 := hd (HC24.out.blk HX2_24.out (by simp [NX2_b]))
          have HX3_25 := hd (HC24.out.blk HX3_24.out (by simp [NX3_b]))
          have C25 := hd (C24.out.trans HC24.out (al1 (.inl (by simp))))
          have Ko_25 := hd (Ko_24.out.trans HC24.out (al1 (.inl (by simp))))
          have HRF := hd (mli_fail HMI.out HE.out (HKD.out.symm.trans HK0.out) HNS.out HF.out q1)
          have HLe : Hid (ListS W21.heap.size 64 3 Cm ms (.slice vo ms.length vc) w24) := hd (HL.out.keep (kp_m _) Ko_25.out (TyB.lower (by intro z hz; simp only [List.mem_cons, List.not_mem_nil, or_false] at hz; rcases hz with h9 | h9; (rw [h9]; exact HbL.out); (rw [h9]; exact HXL.out)) _))
          obtain ⟨cX3_0, cX3_1, cX3_2, cX3_3, cX3_4, cX3_5, cX3_6, cX3_7⟩ := HX3_25.out.c8
          obtain ⟨cX2_0, cX2_1, cX2_2, cX2_3, cX2_4, cX2_5, cX2_6, cX2_7⟩ := HX2_25.out.c8
          obtain ⟨cX2_f0, cX2_f1, cX2_f2, cX2_f3, cX2_f4, cX2_f5, cX2_f6, cX2_f7⟩ := HX2_25.out.f8
          go_wp2_with fail
          clear cX3_0 cX3_1 cX3_2 cX3_3 cX3_4 cX3_5 cX3_6 cX3_7 cX2_0 cX2_1 cX2_2 cX2_3 cX2_4 cX2_5 cX2_6 cX2_7 cX2_f0 cX2_f1 cX2_f2 cX2_f3 cX2_f4 cX2_f5 cX2_f6 cX2_f7
          have NX4_X2 : X4 ≠ X2 := by have OX3_ := OX3.out; have OX4_ := OX4.out; omega
          have NX2_X4 : X2 ≠ X4 := NX4_X2.symm
          obtain ⟨W26, hW⟩ : ∃ W, W = ((((((((w24.setCell ⟨X2, 0, none⟩ (.string ⟨x3.toArray⟩)).setCell ⟨X2, 1, none⟩ (.int .i64 (x5 : Nat))).setCell ⟨X2, 2, none⟩ (.int .i64 (x6 : Nat))).setCell ⟨X2, 3, none⟩ (.int .i64 (x8 : Nat))).setCell ⟨X2, 4, none⟩ (.int .i64 (x10 : Nat))).setCell ⟨X2, 5, none⟩ (.int .i64 (x12 : Nat))).setCell ⟨X2, 6, none⟩ (.slice vo ms.length vc)).setCell ⟨X2, 7, none⟩ (.int .i64 (at9 : Nat))) := ⟨_, rfl⟩
          rw [← hW]
          have HX2_26 : Hid (Blk W26 X2 [.string ⟨x3.toArray⟩, .int .i64 (x5 : Nat), .int .i64 (x6 : Nat), .int .i64 (x8 : Nat), .int .i64 (x10 : Nat), .int .i64 (x12 : Nat), .slice vo ms.length vc, .int .i64 (at9 : Nat)] 54) := hd (by rw [hW]; exact ((((((((HX2_25.out.set 0 (.string ⟨x3.toArray⟩)).set 1 (.int .i64 (x5 : Nat))).set 2 (.int .i64 (x6 : Nat))).set 3 (.int .i64 (x8 : Nat))).set 4 (.int .i64 (x10 : Nat))).set 5 (.int .i64 (x12 : Nat))).set 6 (.slice vo ms.length vc)).set 7 (.int .i64 (at9 : Nat))))
          have C26 := hd (C25.out.s8 hW (.inr (by have OX2_ := OX2.out; show w.heap.size ≤ X2; omega)))
          have Ko2_26 := hd ((Chg.refl [X2] w24).s8 hW (.inl (by simp)))
          have KP_26 := hd ((Chg.refl [X2, X3, X4] w24).s8 hW (.inl (by simp)))
          clear hW
          (try simp only [Exit.inBlock, Exit.then])
          have HLF : Hid (ListS w.heap.size 64 3 Cm ms (.slice vo ms.length vc) W26) := hd ((HLe.out.keep (kp_m _) Ko2_26.out (TyB.lower (by intro z hz; simp only [List.mem_cons, List.not_mem_nil, or_false] at hz; rw [hz]; exact HX2L.out) _)).mono HWL.out (mono_m HWL.out))
          have HRR : RR Pn.row en q er a (⟨x3, x5, x6, x8, x10, x12, ms, at9⟩ : Pn.Rw) q1 e24 a24 := by
           refine rr_row ?_
           rw [← HAT.out]
           exact HR2.out.bind (HR3.out.bind (HR4.out.bind (HR5.out.bind (HR6.out.bind (HR7.out.bind (HR8.out.bind (HR9.out.bind (HR10.out.bind (HR11.out.bind (HR12.out.bind (RR.map (f := Fms) (fun ms => (⟨x3, x5, x6, x8, x10, x12, ms, at9⟩ : Pn.Rw)) HRF.out)))))))))))
          refine bodyPost_ret (results_cell_row rfl _ _ X2 54 #[.string ⟨x3.toArray⟩, .int .i64 (x5 : Nat), .int .i64 (x6 : Nat), .int .i64 (x8 : Nat), .int .i64 (x10 : Nat), .int .i64 (x12 : Nat), .slice vo ms.length vc, .int .i64 (at9 : Nat)] (0, 0) _ rfl HX2_26.out Tryd.underlying54 rfl (by kernel_rfl)) rfl ⟨(⟨x3, x5, x6, x8, x10, x12, ms, at9⟩ : Pn.Rw), .slice vo ms.length vc, q1, e24, a24, rfl, HRR, (HP24.out.keep KP_26.out (al3 BX2.out BX3.out BX4.out)), C26.out, HLF.out⟩
        · have k0 : ((kd : Int) == 0) = false := beq_eq_false_iff_ne.2 (by omega)
          have HKN : Hid (Pn.mkc q1 ≠ 0) := hd (by rw [← HKD.out]; exact hk0)
          clear hk0
          obtain ⟨t1, r1, hq1⟩ := mkc_split HKN.out
          subst hq1
          obtain ⟨n9, i9, ao9, cap9, k1, k2, hb9, hst9⟩ := step_over HPi.out
          have c1 := hb9.cell (i := 1) rfl
          have f1 := hb9.free 1
          have hw9 : IntKind.i64.wrap ((i9 : Int) + 1) = (i9 : Int) + 1 := IntWalk.i64_in _ (by omega)
          obtain ⟨hs1, hs2⟩ := hst9 w23 (Chg.refl _ _)
          have HS1 := hd hs1
          have HS2 := hd hs2
          clear hb9 hst9 hs1 hs2 k1 k2
          go_upto_region 25 with fail
          obtain ⟨w25, hw25⟩ : ∃ x, x = w23.setCell ⟨b, 1, none⟩ (.int .i64 ((i9 : Int) + 1)) := ⟨_, rfl⟩
          rw [← hw25]
          rw [← hw25] at HS1 HS2
          clear hw25 c1 f1 hw9
          have HX3_25 := hd (HS2.out.blk HX3_24.out (by simp [NX3_b]))
          have HX4_25 := hd (HS2.out.blk HX4_24.out (by simp [NX4_b]))
          have KL_25 := hd (KL_24.out.trans HS2.out (al1 (.inl (by simp))))
          have Ko_25 := hd (Ko_24.out.trans HS2.out (al1 (.inl (by simp))))
          go_wp2_with fail
          refine rnum_r (hd HS1.out) (fun x26 q26 e26 a26 w26 HR26 HP26 HC26 => ?_)
          have HX3_26 := hd (HC26.out.blk HX3_25.out (by simp [NX3_b]))
          have HX4_26 := hd (HC26.out.blk HX4_25.out (by simp [NX4_b]))
          have KL_26 := hd (KL_25.out.trans HC26.out (al1 (.inl (by simp))))
          have Ko_26 := hd (Ko_25.out.trans HC26.out (al1 (.inl (by simp))))
          go_upto_region 26 with fail
          obtain ⟨W27, hW⟩ : ∃ W, W = (w26.alloc (.cells #[.int .i64 (kd : Nat), .int .i64 (x26 : Nat), .int .i64 0] 64)) := ⟨_, rfl⟩
          rw [← hW]
          obtain ⟨T7, hT7⟩ : ∃ T, T = w26.heap.size := ⟨_, rfl⟩
          try rw [← hT7]
          have OT7 : Hid (X4 < T7) := hd (by rw [hT7]; exact HX4_26.out.lt)
          have HX3_27 := hd (HX3_26.out.alE hW)
          have HT7_27 : Hid (Blk W27 T7 [.int .i64 (kd : Nat), .int .i64 (x26 : Nat), .int .i64 0] 64) := hd (by
           have h1 := Blk.new w26 [.int .i64 (kd : Nat), .int .i64 (x26 : Nat), .int .i64 0] 64
           have h2 : w26.heap.size = T7 := by simp [hT7]
           rw [h2] at h1
           rw [hW]
           exact h1)
          have BT7 : Hid (b < T7) := hd (by have h1 := HBW.out; have OX2_ := OX2.out; have OX3_ := OX3.out; have OX4_ := OX4.out; have OT7_ := OT7.out; omega)
          have KL_27 := hd (KL_26.out.alE hW)
          have Ko_27 := hd (Ko_26.out.alE hW)
          have KP_27 : Hid (Chg [X2, X3, X4] w26 W27) := hd (by rw [hW]; exact ((Chg.refl [X2, X3, X4] w26).alloc _))
          have ML_T7 : Hid (W21.heap.size ≤ T7) := hd (by rw [hT7]; have h1 := KL_26.out.size; omega)
          have Mo_T7 : Hid (wo.heap.size ≤ T7) := hd (by rw [hT7]; have h1 := Ko_26.out.size; omega)
          clear hW hT7
          by_cases hk4 : kd = 4
          · have k4 : ((kd : Int) == 4) = true := by rw [hk4]; rfl
            have HK4 := hd hk4
            clear hk4
            go_wp2_with fail
            refine rmust_r (hd (HP26.out.keep KP_27.out (al3 BX2.out BX3.out BX4.out))) [111, 102] (fun q27 e27 a27 w27 HR27 HP27 HC27 => ?_)
            have NT7_b : T7 ≠ b := by have h1 := HBW.out; have OX2_ := OX2.out; have OX3_ := OX3.out; have OX4_ := OX4.out; have OT7_ := OT7.out; omega
            have Nb_T7 : b ≠ T7 := NT7_b.symm
            have HX3_28 := hd (HC27.out.blk HX3_27.out (by simp [NX3_b]))
            have HT7_28 : Hid (Blk w27 T7 [.int .i64 (kd : Nat), .int .i64 (x26 : Nat), .int .i64 0] 64) := hd (HC27.out.blk HT7_27.out (by simp [NT7_b]))
            have KL_28 := hd (KL_27.out.trans HC27.out (al1 (.inl (by simp))))
            have Ko_28 := hd (Ko_27.out.trans HC27.out (al1 (.inl (by simp))))
            go_wp2_with fail
            refine rnum_r (hd HP27.out) (fun x28 q28 e28 a28 w28 HR28 HP28 HC28 => ?_)
            have HX3_29 := hd (HC28.out.blk HX3_28.out (by simp [NX3_b]))
            have HT7_29 := hd (HC28.out.blk HT7_28.out (by simp [NT7_b]))
            have KL_29 := hd (KL_28.out.trans HC28.out (al1 (.inl (by simp))))
            have Ko_29 := hd (Ko_28.out.trans HC28.out (al1 (.inl (by simp))))
            obtain ⟨cT7_0, cT7_1, cT7_2⟩ := HT7_29.out.c3
            obtain ⟨cT7_f0, cT7_f1, cT7_f2⟩ := HT7_29.out.f3
            go_upto_region 29 with fail
            clear cT7_0 cT7_1 cT7_2 cT7_f0 cT7_f1 cT7_f2
            have NX2_T7 : X2 ≠ T7 := by have OX3_ := OX3.out; have OX4_ := OX4.out; have OT7_ := OT7.out; omega
            have NT7_X2 : T7 ≠ X2 := NX2_T7.symm
            have NX3_T7 : X3 ≠ T7 := by have OX4_ := OX4.out; have OT7_ := OT7.out; omega
            have NT7_X3 : T7 ≠ X3 := NX3_T7.symm
            have NX4_T7 : X4 ≠ T7 := by have OT7_ := OT7.out; omega
            have NT7_X4 : T7 ≠ X4 := NX4_T7.symm
            obtain ⟨W30, hW⟩ : ∃ W, W = (w28.setCell ⟨T7, 2, none⟩ (.int .i64 (x28 : Nat))) := ⟨_, rfl⟩
            rw [← hW]
            have HX3_30 := hd (HX3_29.out.o1 hW NX3_T7)
            have HT7_30 : Hid (Blk W30 T7 [.int .i64 (kd : Nat), .int .i64 (x26 : Nat), .int .i64 (x28 : Nat)] 64) := hd (by rw [hW]; exact (HT7_29.out.set 2 (.int .i64 (x28 : Nat))))
            have KL_30 := hd (KL_29.out.s1 hW (.inr (by have := ML_T7.out; omega)))
            have Ko_30 := hd (Ko_29.out.s1 hW (.inr (by have := Mo_T7.out; omega)))
            have KP_30 := hd ((Chg.refl [X2, X3, X4, T7] w28).s1 hW (.inl (by simp)))
            clear hW
            have HRM : Hid (RR (markA (Pn.mkc (t1 :: r1))) en r1 er1 a1 (⟨kd, x26, x28⟩ : Pn.Mk) q28 e28 a28) := hd (by rw [← HKD.out, HK4.out]; exact HR26.out.bind (HR27.out.bind (HR28.out.map (fun w => (⟨4, x26, w⟩ : Pn.Mk)))))
            have HLn : Hid (ListS W21.heap.size 64 3 Cm ms (.slice vo ms.length vc) W30) := hd (HL.out.keep (kp_m _) Ko_30.out (TyB.lower (by intro z hz; simp only [List.mem_cons, List.not_mem_nil, or_false] at hz; rcases hz with h9 | h9; (rw [h9]; exact HbL.out); (rw [h9]; exact HXL.out)) _))
            have HLk : Hid (ListS W21.heap.size 64 3 Cm ms (.slice vo ms.length vc) (W30.alloc (.cells #[.int .i64 (kd : Nat), .int .i64 (x26 : Nat), .int .i64 (x28 : Nat)] 64))) := hd (HLn.out.keep (kp_m _) ((Chg.refl [] _).alloc _) (TyB.nil _ _ _))
            have HCLn : Hid (Chg [b, X3] W21 W30) := hd KL_30.out
            have hcb : Hid (Chg [b, X3] W21 (W30.alloc (.cells #[.int .i64 (kd : Nat), .int .i64 (x26 : Nat), .int .i64 (x28 : Nat)] 64))) := hd (HCLn.out.alloc _)
            have HPk : Hid (Rp W30 b q28 e28 a28 en) := hd (HP28.out.keep KP_30.out (al4 BX2.out BX3.out BX4.out BT7.out))
            obtain ⟨cT7_0, cT7_1, cT7_2⟩ := HT7_30.out.c3
            obtain ⟨cX3_0, cX3_1, cX3_2, cX3_3, cX3_4, cX3_5, cX3_6, cX3_7⟩ := HX3_30.out.c8
            go_wp2_with (at_builtin; refine wpList_snoc rfl (.tmp 88) (.tmp 90) 52 rfl 64 im (.agg #[.int .i64 0, .int .i64 0, .int .i64 0]) 3 24 Tryd.underlying52 him mz0 mz1 mz2 rfl (by decide) (C := Cm) (Es := []) (.slice vo ms.length vc) ms.length rfl HLk.out rfl (kp_m _) (by simp) (⟨kd, x26, x28⟩ : Pn.Mk) [.int .i64 (kd : Nat), .int .i64 (x26 : Nat), .int .i64 (x28 : Nat)] rfl rfl (by intro u hu; simp at hu; rcases hu with rfl | rfl | rfl <;> rfl) W30.heap.size rfl (Blk.new W30 [.int .i64 (kd : Nat), .int .i64 (x26 : Nat), .int .i64 (x28 : Nat)] 64) (by unfold maxLen; omega) (by omega) hcb.out.size ?kk)
            case kk =>
             intro lo8 lc8 v8 hl8 hc8 hb8
             have HL8 := hd hl8
             have HCv : Hid (Chg [b, X3] W21 v8) := hd (hc8 _ _ hcb.out (Nat.le_refl _))
             have HP8 : Hid (Rp v8 b q28 e28 a28 en) := hd (HPk.out.via HCLn.out HCv.out (fun ds S h => hb8 _ _ _ (h.alloc _) (.inl HbL.out)) (fun z hz => by simp only [List.mem_cons, List.not_mem_nil, or_false] at hz; rcases hz with h9 | h9; (rw [h9]; exact Nat.le_refl _); (rw [h9]; exact Nat.le_of_lt BX3.out)) HbL.out)
             have HX8 : Hid (Blk v8 X3 [.string ⟨x3.toArray⟩, .int .i64 (x5 : Nat), .int .i64 (x6 : Nat), .int .i64 (x8 : Nat), .int .i64 (x10 : Nat), .int .i64 (x12 : Nat), .slice vo ms.length vc, .int .i64 (at9 : Nat)] 54) := hd (hb8 _ _ _ (HX3_30.out.alloc _) (.inr (.inl (by decide))))
             clear hl8 hc8 hb8 cT7_0 cT7_1 cT7_2 cX3_0 cX3_1 cX3_2 cX3_3 cX3_4 cX3_5 cX3_6 cX3_7
             have x83 := HX8.out.cell (i := 6) rfl
             have f83 := HX8.out.free 6
             go_wp2_with fail
             clear x83 f83
             obtain ⟨v9, hv9⟩ : ∃ x, x = v8.setCell ⟨X3, 6, none⟩ (.slice lo8 (ms.length + 1) lc8) := ⟨_, rfl⟩
             rw [← hv9]
             have HX9 : Hid (Blk v9 X3 [.string ⟨x3.toArray⟩, .int .i64 (x5 : Nat), .int .i64 (x6 : Nat), .int .i64 (x8 : Nat), .int .i64 (x10 : Nat), .int .i64 (x12 : Nat), .slice lo8 (ms ++ [(⟨kd, x26, x28⟩ : Pn.Mk)]).length lc8, .int .i64 (at9 : Nat)] 54) := hd (by rw [hv9, List.length_append]; exact HX8.out.set 6 _)
             have HC89 : Hid (Chg [X3] v8 v9) := hd (by rw [hv9]; exact (Chg.refl _ _).setCell _ _ (.inl (by simp)))
             have HL9 : Hid (ListS W21.heap.size 64 3 Cm (ms ++ [(⟨kd, x26, x28⟩ : Pn.Mk)]) (.slice lo8 (ms ++ [(⟨kd, x26, x28⟩ : Pn.Mk)]).length lc8) v9) := hd (by rw [List.length_append]; exact HL8.out.keep (kp_m _) HC89.out (TyB.lower (by intro z hz; simp only [List.mem_cons, List.not_mem_nil, or_false] at hz; rw [hz]; exact HXL.out) _))
             have HP9 : Hid (Rp v9 b q28 e28 a28 en) := hd (HP8.out.keep HC89.out (fun k hk => by simp at hk; rw [hk]; exact BX3.out))
             have HCv9 := hd (HCv.out.trans HC89.out (fun k hk => .inl (by simp at hk; simp [hk])))
             clear hv9
             obtain ⟨hm1, hm2⟩ := mli_step HMI.out HE.out HKN.out (mark_rr HRM.out)
             have HMU : Hid (mz b v9 < mz b wo) := hd (by rw [mz_rp HP9.out, mz_rp HPq.out, if_pos HE.out]; split; (rename_i h9; have := hm2 h9; omega); omega)
             have HM9 := hd hm1
             clear hm1 hm2
             refine ⟨?_, HMU.out⟩
             first | exact ⟨ms ++ [(⟨kd, x26, x28⟩ : Pn.Mk)], q28, e28, a28, lo8, lc8, HX9, HL9, HP9, HM9, HCv9⟩ | ((repeat apply Exists.intro); exact ⟨⟨ms ++ [(⟨kd, x26, x28⟩ : Pn.Mk)], q28, e28, a28, lo8, lc8, HX9, HL9, HP9, HM9, HCv9⟩, rfl⟩)
          · have k4 : ((kd : Int) == 4) = false := beq_eq_false_iff_ne.2 (by omega)
            have HRM : Hid (RR (markA (Pn.mkc (t1 :: r1))) en r1 er1 a1 (⟨kd, x26, 0⟩ : Pn.Mk) q26 e26 a26) := hd (by
             have h : markA kd = fun l => (Pn.num l).bind fun n l1 => .ok (⟨kd, n, 0⟩ : Pn.Mk) l1 := by
              funext l
              unfold markA
              simp only [if_neg hk4]
             rw [← HKD.out, h]
             exact HR26.out.map (fun n => (⟨kd, n, 0⟩ : Pn.Mk)))
            clear hk4
            go_upto_region 29 with fail
            have HLn : Hid (ListS W21.heap.size 64 3 Cm ms (.slice vo ms.length vc) W27) := hd (HL.out.keep (kp_m _) Ko_27.out (TyB.lower (by intro z hz; simp only [List.mem_cons, List.not_mem_nil, or_false] at hz; rcases hz with h9 | h9; (rw [h9]; exact HbL.out); (rw [h9]; exact HXL.out)) _))
            have HLk : Hid (ListS W21.heap.size 64 3 Cm ms (.slice vo ms.length vc) (W27.alloc (.cells #[.int .i64 (kd : Nat), .int .i64 (x26 : Nat), .int .i64 0] 64))) := hd (HLn.out.keep (kp_m _) ((Chg.refl [] _).alloc _) (TyB.nil _ _ _))
            have HCLn : Hid (Chg [b, X3] W21 W27) := hd KL_27.out
            have hcb : Hid (Chg [b, X3] W21 (W27.alloc (.cells #[.int .i64 (kd : Nat), .int .i64 (x26 : Nat), .int .i64 0] 64))) := hd (HCLn.out.alloc _)
            have HPk : Hid (Rp W27 b q26 e26 a26 en) := hd (HP26.out.keep KP_27.out (al3 BX2.out BX3.out BX4.out))
            obtain ⟨cT7_0, cT7_1, cT7_2⟩ := HT7_27.out.c3
            obtain ⟨cX3_0, cX3_1, cX3_2, cX3_3, cX3_4, cX3_5, cX3_6, cX3_7⟩ := HX3_27.out.c8
            go_wp2_with (at_builtin; refine wpList_snoc rfl (.tmp 88) (.tmp 90) 52 rfl 64 im (.agg #[.int .i64 0, .int .i64 0, .int .i64 0]) 3 24 Tryd.underlying52 him mz0 mz1 mz2 rfl (by decide) (C := Cm) (Es := []) (.slice vo ms.length vc) ms.length rfl HLk.out rfl (kp_m _) (by simp) (⟨kd, x26, 0⟩ : Pn.Mk) [.int .i64 (kd : Nat), .int .i64 (x26 : Nat), .int .i64 0] rfl rfl (by intro u hu; simp at hu; rcases hu with rfl | rfl | rfl <;> rfl) W27.heap.size rfl (Blk.new W27 [.int .i64 (kd : Nat), .int .i64 (x26 : Nat), .int .i64 0] 64) (by unfold maxLen; omega) (by omega) hcb.out.size ?kk)
            case kk =>
             intro lo8 lc8 v8 hl8 hc8 hb8
             have HL8 := hd hl8
             have HCv : Hid (Chg [b, X3] W21 v8) := hd (hc8 _ _ hcb.out (Nat.le_refl _))
             have HP8 : Hid (Rp v8 b q26 e26 a26 en) := hd (HPk.out.via HCLn.out HCv.out (fun ds S h => hb8 _ _ _ (h.alloc _) (.inl HbL.out)) (fun z hz => by simp only [List.mem_cons, List.not_mem_nil, or_false] at hz; rcases hz with h9 | h9; (rw [h9]; exact Nat.le_refl _); (rw [h9]; exact Nat.le_of_lt BX3.out)) HbL.out)
             have HX8 : Hid (Blk v8 X3 [.string ⟨x3.toArray⟩, .int .i64 (x5 : Nat), .int .i64 (x6 : Nat), .int .i64 (x8 : Nat), .int .i64 (x10 : Nat), .int .i64 (x12 : Nat), .slice vo ms.length vc, .int .i64 (at9 : Nat)] 54) := hd (hb8 _ _ _ (HX3_27.out.alloc _) (.inr (.inl (by decide))))
             clear hl8 hc8 hb8 cT7_0 cT7_1 cT7_2 cX3_0 cX3_1 cX3_2 cX3_3 cX3_4 cX3_5 cX3_6 cX3_7
             have x83 := HX8.out.cell (i := 6) rfl
             have f83 := HX8.out.free 6
             go_wp2_with fail
             clear x83 f83
             obtain ⟨v9, hv9⟩ : ∃ x, x = v8.setCell ⟨X3, 6, none⟩ (.slice lo8 (ms.length + 1) lc8) := ⟨_, rfl⟩
             rw [← hv9]
             have HX9 : Hid (Blk v9 X3 [.string ⟨x3.toArray⟩, .int .i64 (x5 : Nat), .int .i64 (x6 : Nat), .int .i64 (x8 : Nat), .int .i64 (x10 : Nat), .int .i64 (x12 : Nat), .slice lo8 (ms ++ [(⟨kd, x26, 0⟩ : Pn.Mk)]).length lc8, .int .i64 (at9 : Nat)] 54) := hd (by rw [hv9, List.length_append]; exact HX8.out.set 6 _)
             have HC89 : Hid (Chg [X3] v8 v9) := hd (by rw [hv9]; exact (Chg.refl _ _).setCell _ _ (.inl (by simp)))
             have HL9 : Hid (ListS W21.heap.size 64 3 Cm (ms ++ [(⟨kd, x26, 0⟩ : Pn.Mk)]) (.slice lo8 (ms ++ [(⟨kd, x26, 0⟩ : Pn.Mk)]).length lc8) v9) := hd (by rw [List.length_append]; exact HL8.out.keep (kp_m _) HC89.out (TyB.lower (by intro z hz; simp only [List.mem_cons, List.not_mem_nil, or_false] at hz; rw [hz]; exact HXL.out) _))
             have HP9 : Hid (Rp v9 b q26 e26 a26 en) := hd (HP8.out.keep HC89.out (fun k hk => by simp at hk; rw [hk]; exact BX3.out))
             have HCv9 := hd (HCv.out.trans HC89.out (fun k hk => .inl (by simp at hk; simp [hk])))
             clear hv9
             obtain ⟨hm1, hm2⟩ := mli_step HMI.out HE.out HKN.out (mark_rr HRM.out)
             have HMU : Hid (mz b v9 < mz b wo) := hd (by rw [mz_rp HP9.out, mz_rp HPq.out, if_pos HE.out]; split; (rename_i h9; have := hm2 h9; omega); omega)
             have HM9 := hd hm1
             clear hm1 hm2
             refine ⟨?_, HMU.out⟩
             first | exact ⟨ms ++ [(⟨kd, x26, 0⟩ : Pn.Mk)], q26, e26, a26, lo8, lc8, HX9, HL9, HP9, HM9, HCv9⟩ | ((repeat apply Exists.intro); exact ⟨⟨ms ++ [(⟨kd, x26, 0⟩ : Pn.Mk)], q26, e26, a26, lo8, lc8, HX9, HL9, HP9, HM9, HCv9⟩, rfl⟩)
  · have e0 : ((er1 : Int) == 0) = false := beq_eq_false_iff_ne.2 (by omega)
    have HE := hd he
    clear he
    go_wp2_with fail
    refine rmust_r (hd HPq.out) [59] (fun q9z e9z a9z w9z HR9z HP9z HC9z => ?_)
    have HX2_23 := hd (HC9z.out.blk HX2_22.out (by simp [NX2_b]))
    have HX3_23 : Hid (Blk w9z X3 [.string ⟨x3.toArray⟩, .int .i64 (x5 : Nat), .int .i64 (x6 : Nat), .int .i64 (x8 : Nat), .int .i64 (x10 : Nat), .int .i64 (x12 : Nat), .slice vo ms.length vc, .int .i64 (at9 : Nat)] 54) := hd (HC9z.out.blk HX3.out (by simp [NX3_b]))
    have C23 := hd (C22.out.trans HC9z.out (al1 (.inl (by simp))))
    have Ko_23 := hd ((Chg.refl [b, X3] wo).trans HC9z.out (al1 (.inl (by simp))))
    clear cb2
    have HRF := hd (mli_over HMI.out HE.out HR9z.out)
    have HLe : Hid (ListS W21.heap.size 64 3 Cm ms (.slice vo ms.length vc) w9z) := hd (HL.out.keep (kp_m _) Ko_23.out (TyB.lower (by intro z hz; simp only [List.mem_cons, List.not_mem_nil, or_false] at hz; rcases hz with h9 | h9; (rw [h9]; exact HbL.out); (rw [h9]; exact HXL.out)) _))
    obtain ⟨cX3_0, cX3_1, cX3_2, cX3_3, cX3_4, cX3_5, cX3_6, cX3_7⟩ := HX3_23.out.c8
    obtain ⟨cX2_0, cX2_1, cX2_2, cX2_3, cX2_4, cX2_5, cX2_6, cX2_7⟩ := HX2_23.out.c8
    obtain ⟨cX2_f0, cX2_f1, cX2_f2, cX2_f3, cX2_f4, cX2_f5, cX2_f6, cX2_f7⟩ := HX2_23.out.f8
    go_wp2_with fail
    clear cX3_0 cX3_1 cX3_2 cX3_3 cX3_4 cX3_5 cX3_6 cX3_7 cX2_0 cX2_1 cX2_2 cX2_3 cX2_4 cX2_5 cX2_6 cX2_7 cX2_f0 cX2_f1 cX2_f2 cX2_f3 cX2_f4 cX2_f5 cX2_f6 cX2_f7
    have NX4_X2 : X4 ≠ X2 := by have OX3_ := OX3.out; have OX4_ := OX4.out; omega
    have NX2_X4 : X2 ≠ X4 := NX4_X2.symm
    obtain ⟨W24, hW⟩ : ∃ W, W = ((((((((w9z.setCell ⟨X2, 0, none⟩ (.string ⟨x3.toArray⟩)).setCell ⟨X2, 1, none⟩ (.int .i64 (x5 : Nat))).setCell ⟨X2, 2, none⟩ (.int .i64 (x6 : Nat))).setCell ⟨X2, 3, none⟩ (.int .i64 (x8 : Nat))).setCell ⟨X2, 4, none⟩ (.int .i64 (x10 : Nat))).setCell ⟨X2, 5, none⟩ (.int .i64 (x12 : Nat))).setCell ⟨X2, 6, none⟩ (.slice vo ms.length vc)).setCell ⟨X2, 7, none⟩ (.int .i64 (at9 : Nat))) := ⟨_, rfl⟩
    rw [← hW]
    have HX2_24 : Hid (Blk W24 X2 [.string ⟨x3.toArray⟩, .int .i64 (x5 : Nat), .int .i64 (x6 : Nat), .int .i64 (x8 : Nat), .int .i64 (x10 : Nat), .int .i64 (x12 : Nat), .slice vo ms.length vc, .int .i64 (at9 : Nat)] 54) := hd (by rw [hW]; exact ((((((((HX2_23.out.set 0 (.string ⟨x3.toArray⟩)).set 1 (.int .i64 (x5 : Nat))).set 2 (.int .i64 (x6 : Nat))).set 3 (.int .i64 (x8 : Nat))).set 4 (.int .i64 (x10 : Nat))).set 5 (.int .i64 (x12 : Nat))).set 6 (.slice vo ms.length vc)).set 7 (.int .i64 (at9 : Nat))))
    have C24 := hd (C23.out.s8 hW (.inr (by have OX2_ := OX2.out; show w.heap.size ≤ X2; omega)))
    have Ko2_24 := hd ((Chg.refl [X2] w9z).s8 hW (.inl (by simp)))
    have KP_24 := hd ((Chg.refl [X2, X3, X4] w9z).s8 hW (.inl (by simp)))
    clear hW
    (try simp only [Exit.inBlock, Exit.then])
    have HLF : Hid (ListS w.heap.size 64 3 Cm ms (.slice vo ms.length vc) W24) := hd ((HLe.out.keep (kp_m _) Ko2_24.out (TyB.lower (by intro z hz; simp only [List.mem_cons, List.not_mem_nil, or_false] at hz; rw [hz]; exact HX2L.out) _)).mono HWL.out (mono_m HWL.out))
    have HRR : RR Pn.row en q er a (⟨x3, x5, x6, x8, x10, x12, ms, at9⟩ : Pn.Rw) q9z e9z a9z := by
     refine rr_row ?_
     rw [← HAT.out]
     exact HR2.out.bind (HR3.out.bind (HR4.out.bind (HR5.out.bind (HR6.out.bind (HR7.out.bind (HR8.out.bind (HR9.out.bind (HR10.out.bind (HR11.out.bind (HR12.out.bind (RR.map (f := Fms) (fun ms => (⟨x3, x5, x6, x8, x10, x12, ms, at9⟩ : Pn.Rw)) HRF.out)))))))))))
    refine bodyPost_ret (results_cell_row rfl _ _ X2 54 #[.string ⟨x3.toArray⟩, .int .i64 (x5 : Nat), .int .i64 (x6 : Nat), .int .i64 (x8 : Nat), .int .i64 (x10 : Nat), .int .i64 (x12 : Nat), .slice vo ms.length vc, .int .i64 (at9 : Nat)] (0, 0) _ rfl HX2_24.out Tryd.underlying54 rfl (by kernel_rfl)) rfl ⟨(⟨x3, x5, x6, x8, x10, x12, ms, at9⟩ : Pn.Rw), .slice vo ms.length vc, q9z, e9z, a9z, rfl, HRR, (HP9z.out.keep KP_24.out (al3 BX2.out BX3.out BX4.out)), C24.out, HLF.out⟩
end Go.Proofs.YtocadlcglgpdcaaDoor
