/-
  Rule, layer 3: next, skip.
-/
import Derived.Test.YtmfjebpefneboaaDoorRlB
import Derived.Test.YtmfjebpefneboaaDoorLxG
namespace Go.Proofs.YtmfjebpefneboaaDoor
set_option linter.unusedVariables false
set_option linter.unusedSimpArgs false
open Go Go.RowKit Go.Shelf
open Lx (Tk)

/-- The texts that a caller names: none, or one. -/
def TxtV (w : World) (v : Value) : Option Bytes → Prop
  | none => v = .slice none 0 0
  | some s => ∃ ad n, v = .slice (some ad) 1 n ∧ w.cell? ad = some (.string ⟨s.toArray⟩)
theorem cell_quiet {w w' : World} {own : List Nat} (hc : Chg own w w') {a : Addr} {v : Value} (h : w.cell? a = some v) (hn : a.block ∉ own) : w'.cell? a = some v :=
  (World.cell?_of_block (hc.block a.block (World.block_lt_of_cell? _ _ h) hn)).trans h
theorem TxtV.quiet {w w' : World} {v : Value} {x : Option Bytes} (h : TxtV w v x) (hc : Chg [] w w') : TxtV w' v x := by
  cases x with
  | none => exact h
  | some s =>
    obtain ⟨ad, n, h1, h2⟩ := h
    exact ⟨ad, n, h1, cell_quiet hc h2 (by simp)⟩
theorem TxtV.one (w : World) (s : Bytes) (e : TypeId) (n : Nat) : TxtV (w.alloc (.cells #[.string ⟨s.toArray⟩] e)) (.slice (some ⟨w.heap.size, 0, none⟩) 1 n) (some s) :=
  ⟨_, _, rfl, (Blk.new w [.string ⟨s.toArray⟩] e).cell (i := 0) rfl⟩
theorem peek_spec (w : World) (b en : Nat) (l : List Tk) (HP : Hid (Par w b l en)) (k : Nat) (x : Option Bytes) (v : Value) (HV : Hid (TxtV w v x)) :
    Calls Tryd.prog 35 #[.pointer (some ⟨b, 0, none⟩), .int .i64 (k : Int), v] w fun e w' => e = .returned (.bool (Rl.is k x l)) ∧ w' = w := by
  cases x with
  | none =>
    have h : v = .slice none 0 0 := HV.out
    rw [h]
    exact peek_any w b en l HP k
  | some s =>
    obtain ⟨ad, n, rfl, h2⟩ := HV.out
    exact peek_text w b en l HP k s ad n h2
def TokV (t : Tk) (v : Value) (w : World) : Prop := v = .agg #[.int .i64 t.kind, .string ⟨t.text.toArray⟩, .int .i64 t.n, .int .i64 t.at_]
theorem next_fin {w : World} {b en g off cap off' cap' : Nat} {t : Tk} {r : List Tk} (HP : Par w b (t :: r) en) (hb : Blk w b [.slice (some ⟨g, off, none⟩) (r.length + 1) cap, .int .i64 (en : Int)] 59)
    (ho : r ≠ [] → off' = off + 4) (hl : r.length ≤ cap') (o1 o2 : Obj) (v : Value) (hv : v = .slice (some ⟨g, off', none⟩) r.length cap') {k : Nat} {x : Option Bytes} (hi : Rl.is k x (t :: r) = true) :
    PRes w b en TokV (Rl.nxt k x (t :: r)) (.returned (tkv t)) (((w.setCell ⟨b, 0, none⟩ v).alloc o1).alloc o2) := by
  subst hv
  have hc : Chg [b] w (((w.setCell ⟨b, 0, none⟩ (.slice (some ⟨g, off', none⟩) r.length cap')).alloc o1).alloc o2) := (((Chg.refl _ _).setCell _ _ (.inl (by simp))).alloc _).alloc _
  refine ⟨hc, ?_⟩
  have e : Rl.nxt k x (t :: r) = .ok t r := by
    show (if Rl.is k x (t :: r) = true then Rl.Out.ok t r else Rl.Out.bad 4 (t :: r)) = _
    rw [if_pos hi]
  rw [e]
  exact ⟨_, rfl, rfl, HP.step hb hc (((hb.set 0 _).alloc _).alloc _) ho hl⟩
theorem nxt_bad {k : Nat} {x : Option Bytes} {l : List Tk} (h : Rl.is k x l = false) : Rl.nxt k x l = .bad 4 l := by
  cases l with
  | nil => rfl
  | cons t r =>
    show (if Rl.is k x (t :: r) = true then Rl.Out.ok t r else Rl.Out.bad 4 (t :: r)) = _
    rw [h]
    rfl
theorem next_spec (w : World) (b en : Nat) (l : List Tk) (HP : Hid (Par w b l en)) (k : Nat) (x : Option Bytes) (v : Value) (HV : Hid (TxtV w v x)) :
    Calls Tryd.prog 36 #[.pointer (some ⟨b, 0, none⟩), .int .i64 (k : Int), v] w fun e w' => PRes w b en TokV (Rl.nxt k x l) e w' := by
  go_enter Tryd.func36, Tryd.ntmps36
  have hlt := HP.out.lt
  have HP1 : Hid (Par (w.alloc (.cells #[.int .i64 0, .string ⟨#[]⟩, .int .i64 0, .int .i64 0] 44)) b l en) := Lib.hid (HP.out.quiet ((Chg.refl _ _).alloc _))
  go_wp2_with fail
  refine (peek_spec _ b en l HP1 k x v (Lib.hid (HV.out.quiet ((Chg.refl _ _).alloc _)))).mono ?_
  rintro e w1 ⟨rfl, rfl⟩
  by_cases hi : Rl.is k x l = true
  · rw [hi]
    obtain ⟨t, r, rfl⟩ : ∃ t r, l = t :: r := by
      cases l with
      | nil => cases hi
      | cons t r => exact ⟨t, r, rfl⟩
    obtain ⟨g, off, cap, hb, hcap, hgb, k0, k1, k2, k3⟩ := HP1.out.cons
    have c0 := hb.cell (i := 0) rfl
    have f0 := hb.free 0
    have hw : ∀ o : Obj, Blk (w.alloc o) b [.slice (some ⟨g, off, none⟩) (r.length + 1) cap, .int .i64 (en : Int)] 59 → Blk w b [.slice (some ⟨g, off, none⟩) (r.length + 1) cap, .int .i64 (en : Int)] 59 := fun o h => (Below.heap_alloc w o b hlt).symm.trans h
    have HB0 := Lib.hid (hw _ hb)
    have HI := Lib.hid hi
    clear hb hw hi
    by_cases hc1 : cap = 1
    · subst hc1
      have HR := Lib.hid hcap
      go_wp2_with fail
      refine bodyPost_ret (v := tkv t) (by simp [results, Tryd.results36, go_sem, tkv]) rfl (next_fin HP.out HB0.out (off' := off) (cap' := 0) (fun h => ?_) ?_ _ _ _ ?_ HI.out)
      · have := HR.out
        exact absurd (List.eq_nil_of_length_eq_zero (by omega)) h
      · have := HR.out
        omega
      · have := HR.out
        rw [show r.length = 0 by omega]
    · obtain ⟨c, rfl⟩ : ∃ c, cap = c + 2 := ⟨cap - 2, by omega⟩
      go_wp2_with fail
      exact bodyPost_ret (v := tkv t) (by simp [results, Tryd.results36, go_sem, tkv]) rfl (next_fin HP.out HB0.out (off' := off + 4) (cap' := c + 1) (fun h => rfl) (by omega) _ _ _ rfl HI.out)
  · have hi0 : Rl.is k x l = false := by simpa using hi
    rw [hi0]
    go_wp2_with fail
    refine (fail_spec _ b en l HP1 4).mono ?_
    rintro e w1 ⟨rfl, rfl⟩
    go_wp2_with fail
    refine ⟨rfl, (Chg.refl _ _).alloc _, ?_⟩
    rw [nxt_bad hi0]
theorem skip_yes (w : World) (b en : Nat) (t : Tk) (r : List Tk) (HP : Hid (Par w b (t :: r) en)) (s : Bytes) (HI : Hid (Rl.is 1 (some s) (t :: r) = true)) :
    Calls Tryd.prog 37 #[.pointer (some ⟨b, 0, none⟩), .string ⟨s.toArray⟩] w fun e w' => e = .returned (.bool true) ∧ Par w' b r en ∧ Chg [b] w w' := by
  go_enter Tryd.func37, Tryd.ntmps37
  have hlt := HP.out.lt
  go_wp2_with fail
  have HP1 : Hid (Par (w.alloc (.cells #[.string ⟨s.toArray⟩] 9)) b (t :: r) en) := Lib.hid (HP.out.quiet ((Chg.refl _ _).alloc _))
  refine (peek_spec _ b en _ HP1 1 (some s) _ (Lib.hid (TxtV.one _ _ _ _))).mono ?_
  rintro e w1 ⟨rfl, rfl⟩
  rw [HI.out]
  obtain ⟨g, off, cap, hb, hcap, hgb, k0, k1, k2, k3⟩ := HP1.out.cons
  have c0 := hb.cell (i := 0) rfl
  have f0 := hb.free 0
  have hw : ∀ o : Obj, Blk (w.alloc o) b [.slice (some ⟨g, off, none⟩) (r.length + 1) cap, .int .i64 (en : Int)] 59 → Blk w b [.slice (some ⟨g, off, none⟩) (r.length + 1) cap, .int .i64 (en : Int)] 59 := fun o h => (Below.heap_alloc w o b hlt).symm.trans h
  have HB0 := Lib.hid (hw _ hb)
  clear hb hw
  by_cases hc1 : cap = 1
  · subst hc1
    have HR := Lib.hid hcap
    go_wp2_with fail
    have hr0 : r.length = 0 := by have := HR.out; omega
    have hc := ((Chg.refl [b] w).setCell ⟨b, 0, none⟩ (.slice (some ⟨g, off, none⟩) 0 0) (.inl (by simp))).alloc (.cells #[.string ⟨s.toArray⟩] 9)
    exact bodyPost_ret (v := .bool true) (by simp [results, Tryd.results37, go_sem]) rfl ⟨rfl, HP.out.step HB0.out hc (off' := off) (cap' := 0) (by rw [hr0]; exact (HB0.out.set 0 _).alloc _) (fun h => absurd (List.eq_nil_of_length_eq_zero hr0) h) (by omega), hc⟩
  · obtain ⟨c, rfl⟩ : ∃ c, cap = c + 2 := ⟨cap - 2, by omega⟩
    go_wp2_with fail
    have hc := ((Chg.refl [b] w).setCell ⟨b, 0, none⟩ (.slice (some ⟨g, off + 4, none⟩) r.length (c + 1)) (.inl (by simp))).alloc (.cells #[.string ⟨s.toArray⟩] 9)
    exact bodyPost_ret (v := .bool true) (by simp [results, Tryd.results37, go_sem]) rfl ⟨rfl, HP.out.step HB0.out hc (off' := off + 4) (cap' := c + 1) ((HB0.out.set 0 _).alloc _) (fun h => rfl) (by omega), hc⟩
theorem skip_no (w : World) (b en : Nat) (l : List Tk) (HP : Hid (Par w b l en)) (s : Bytes) (HI : Hid (Rl.is 1 (some s) l = false)) :
    Calls Tryd.prog 37 #[.pointer (some ⟨b, 0, none⟩), .string ⟨s.toArray⟩] w fun e w' => e = .returned (.bool false) ∧ Chg [] w w' := by
  go_enter Tryd.func37, Tryd.ntmps37
  go_wp2_with fail
  have HP1 : Hid (Par (w.alloc (.cells #[.string ⟨s.toArray⟩] 9)) b l en) := Lib.hid (HP.out.quiet ((Chg.refl _ _).alloc _))
  refine (peek_spec _ b en _ HP1 1 (some s) _ (Lib.hid (TxtV.one _ _ _ _))).mono ?_
  rintro e w1 ⟨rfl, rfl⟩
  rw [HI.out]
  go_wp2_with fail
  go_ret
  exact ⟨rfl, (Chg.refl _ _).alloc _⟩
end Go.Proofs.YtmfjebpefneboaaDoor
