/-
  The statements' own helpers: do, an operation on a disk.
-/
import Derived.Test.YtnlgblcldbdnlaaLwB
import Derived.Test.YtnlgblcldbdnlaaDkE
import Derived.Test.YtnlgblcldbdnlaaDkF
import Derived.Test.YtnlgblcldbdnlaaDkG
import Derived.Test.YtnlgblcldbdnlaaDkH
import Derived.Test.YtnlgblcldbdnlaaDkI
namespace Go.Proofs.Ytnlgblcldbdnlaa
set_option linter.unusedVariables false
set_option linter.unusedSimpArgs false
open Go Go.RowKit

/-- What an operation does: the text and the number that it returns, and the disk behind it. -/
def DK.act (D : DK) (a : ActD) : Bytes × Int × DK :=
  if a.kind = 0 then ([], (D.write a.sector a.txt).1, (D.write a.sector a.txt).2)
  else if a.kind = 1 then ((D.read a.sector).1, (D.read a.sector).2, D)
  else if a.kind = 2 then ([], D.sync.1, D.sync.2)
  else if a.kind = 3 then ([], 0, D.fail a.sector a.bytes)
  else if a.kind = 4 then ([], 0, D.start)
  else if a.kind = 5 then ([], 0, D.setArm a.after a.sector a.bytes)
  else if a.kind = 6 then ([], 0, D.rot a.sector a.bytes a.after)
  else if a.kind = 7 then ([], 0, D.stale a.sector)
  else ([], 0, D)

/-- The box of the operation, and the disk in the world behind it. -/
theorem do_box {w : World} {own : List Nat} {p : Nat} {D : DK} (h : DkAt w own p D) (a : ActD) (w0 : World) (h0 : w0 = w.alloc (.cells a.cells.toArray 34)) :
    Chg [] w w0 ∧ DkAt w0 own p D ∧ Blk w0 w.heap.size a.cells 34 := by
  subst h0
  have hc : Chg [] w (w.alloc (.cells a.cells.toArray 34)) := (Chg.refl _ _).alloc _
  exact ⟨hc, h.kept hc (by simp), Blk.new w _ _⟩

set_option maxHeartbeats 1000000 in
theorem do_write {w : World} {own : List Nat} {p : Nat} {D : DK} (H : Hid (DkAt w own p D)) (hq : D.q.length ≤ 900000) (a : ActD) (ht : a.text.length ≤ 100) (hk : a.kind = 0) :
    Calls Try.prog 15 #[.pointer (some ⟨p, 0, none⟩), a.val] w fun e w' => e = .returned (.tuple #[.string ⟨#[]⟩, .int .i64 (D.write a.sector a.txt).1]) ∧ DkTo w own p (D.write a.sector a.txt).2 w' := by
  obtain ⟨kd, s, b, t, o, f⟩ := a
  obtain rfl : kd = 0 := hk
  obtain ⟨hcb, hDb, hbb⟩ := do_box H.out ⟨0, s, b, t, o, f⟩ _ rfl
  unfold ActD.val
  simp only
  go_enter Try.func15, Try.ntmps15
  go_upto_region 3 with fail
  simp only [ActD.cells] at hcb hDb hbb
  generalize (w.alloc (.cells _ 34)) = w0 at *
  generalize w.heap.size = tb at *
  have b0 := hbb.cell (i := 0) rfl
  have b1 := hbb.cell (i := 1) rfl
  have b2 := hbb.cell (i := 2) rfl
  have b3 := hbb.cell (i := 3) rfl
  have b4 := hbb.cell (i := 4) rfl
  have b5 := hbb.cell (i := 5) rfl
  have HB := Lib.hid hbb
  have HD := Lib.hid hDb
  have HC := Lib.hid hcb
  clear hbb hDb hcb
  go_cut [4, 5] (fun s4 s5 wx => s4 = .string ⟨#[]⟩ ∧ s5 = .int .i64 (D.write s (ActD.txt ⟨0, s, b, t, o, f⟩)).1 ∧ DkTo w own p (D.write s (ActD.txt ⟨0, s, b, t, o, f⟩)).2 wx)
  case first =>
    go_region_law (first
      | (go_simp; go_at_call 23; refine (text_spec _ ⟨0, s, b, t, o, f⟩ ht).mono ?_; rintro e w1 ⟨rfl, hc1⟩; have e1 : w1.cell? ⟨tb, 1, none⟩ = some (.int .i64 s) := (hc1.blk (w := w0.drew) HB.out (by simp)).cell (i := 1) rfl; have HC1 : Hid (Chg [] w0 w1) := Lib.hid (Chg.ofDrew hc1); clear hc1)
      | (go_simp; go_at_call 22; refine (write_spec (HD.out.kept HC1.out (by simp)) hq s _).mono ?_; rintro e w2 ⟨rfl, hT⟩; have HT := Lib.hid hT; clear hT))
    all_goals
      go_wp2_with fail
      go_meet
      exact ⟨rfl, rfl, DkTo.trans ((HC.out.trans HC1.out (by simp)).mono (by simp)) (fun k hk => .inl hk) HT.out⟩
  case rest =>
    obtain ⟨rfl, rfl, hT⟩ := hcut
    have HT := Lib.hid hT
    clear hT
    go_wp2_with fail
    go_ret2
    exact ⟨rfl, HT.out⟩

theorem do_read {w : World} {own : List Nat} {p : Nat} {D : DK} (H : Hid (DkAt w own p D)) (hq : D.q.length ≤ 900000) (a : ActD) (ha : a.after ≤ 9223372036854775807) (hk : a.kind = 1) :
    Calls Try.prog 15 #[.pointer (some ⟨p, 0, none⟩), a.val] w fun e w' => e = .returned (.tuple #[.string ⟨(D.read a.sector).1.toArray⟩, .int .i64 (D.read a.sector).2]) ∧ DkTo w own p D w' := by
  obtain ⟨kd, s, b, t, o, f⟩ := a
  obtain rfl : kd = 1 := hk
  obtain ⟨hcb, hDb, hbb⟩ := do_box H.out ⟨1, s, b, t, o, f⟩ _ rfl
  unfold ActD.val
  simp only at ha ⊢
  go_enter Try.func15, Try.ntmps15
  go_wp2_with fail
  simp only [ActD.cells] at hcb hDb hbb
  generalize (w.alloc (.cells _ 34)) = w0 at *
  have HC := Lib.hid hcb
  have HD := Lib.hid hDb
  clear hcb hDb hbb
  refine (read_spec HD.out (by omega) s).mono ?_
  rintro e w2 ⟨rfl, hT⟩
  have HT := Lib.hid (H.out.to (HC.out.trans hT (by simp)))
  clear hT
  go_wp2_with fail
  go_ret2
  exact ⟨rfl, HT.out⟩

theorem do_sync {w : World} {own : List Nat} {p : Nat} {D : DK} (H : Hid (DkAt w own p D)) (hq : D.q.length ≤ 900000) (a : ActD) (ha : a.after ≤ 9223372036854775807) (hk : a.kind = 2) :
    Calls Try.prog 15 #[.pointer (some ⟨p, 0, none⟩), a.val] w fun e w' => e = .returned (.tuple #[.string ⟨#[]⟩, .int .i64 D.sync.1]) ∧ DkTo w own p D.sync.2 w' := by
  obtain ⟨kd, s, b, t, o, f⟩ := a
  obtain rfl : kd = 2 := hk
  obtain ⟨hcb, hDb, hbb⟩ := do_box H.out ⟨2, s, b, t, o, f⟩ _ rfl
  unfold ActD.val
  simp only at ha ⊢
  go_enter Try.func15, Try.ntmps15
  go_wp2_with fail
  simp only [ActD.cells] at hcb hDb hbb
  generalize (w.alloc (.cells _ 34)) = w0 at *
  have HC := Lib.hid hcb
  have HD := Lib.hid hDb
  clear hcb hDb hbb
  refine (sync_spec HD.out (by omega)).mono ?_
  rintro e w2 ⟨rfl, hT⟩
  have HT := Lib.hid (DkTo.trans (HC.out.mono (own1 := own) (by simp)) (fun k hk => .inl hk) hT)
  clear hT
  go_wp2_with fail
  go_ret2
  exact ⟨rfl, HT.out⟩

theorem do_fail {w : World} {own : List Nat} {p : Nat} {D : DK} (H : Hid (DkAt w own p D)) (hq : D.q.length ≤ 900000) (a : ActD) (ha : a.after ≤ 9223372036854775807) (hk : a.kind = 3) :
    Calls Try.prog 15 #[.pointer (some ⟨p, 0, none⟩), a.val] w fun e w' => e = .returned (.tuple #[.string ⟨#[]⟩, .int .i64 0]) ∧ DkTo w own p (D.fail a.sector a.bytes) w' := by
  obtain ⟨kd, s, b, t, o, f⟩ := a
  obtain rfl : kd = 3 := hk
  obtain ⟨hcb, hDb, hbb⟩ := do_box H.out ⟨3, s, b, t, o, f⟩ _ rfl
  unfold ActD.val
  simp only at ha ⊢
  go_enter Try.func15, Try.ntmps15
  go_wp2_with fail
  simp only [ActD.cells] at hcb hDb hbb
  generalize (w.alloc (.cells _ 34)) = w0 at *
  have HC := Lib.hid hcb
  have HD := Lib.hid hDb
  clear hcb hDb hbb
  refine (fail_spec HD.out (by omega) s b).mono ?_
  rintro e w2 ⟨rfl, hT⟩
  have HT := Lib.hid (DkTo.trans (HC.out.mono (own1 := own) (by simp)) (fun k hk => .inl hk) hT)
  clear hT
  go_wp2_with fail
  go_ret2
  exact ⟨rfl, HT.out⟩

theorem do_start {w : World} {own : List Nat} {p : Nat} {D : DK} (H : Hid (DkAt w own p D)) (hq : D.q.length ≤ 900000) (a : ActD) (ha : a.after ≤ 9223372036854775807) (hk : a.kind = 4) :
    Calls Try.prog 15 #[.pointer (some ⟨p, 0, none⟩), a.val] w fun e w' => e = .returned (.tuple #[.string ⟨#[]⟩, .int .i64 0]) ∧ DkTo w own p D.start w' := by
  obtain ⟨kd, s, b, t, o, f⟩ := a
  obtain rfl : kd = 4 := hk
  obtain ⟨hcb, hDb, hbb⟩ := do_box H.out ⟨4, s, b, t, o, f⟩ _ rfl
  unfold ActD.val
  simp only at ha ⊢
  go_enter Try.func15, Try.ntmps15
  go_wp2_with fail
  simp only [ActD.cells] at hcb hDb hbb
  generalize (w.alloc (.cells _ 34)) = w0 at *
  have HC := Lib.hid hcb
  have HD := Lib.hid hDb
  clear hcb hDb hbb
  refine (start_spec HD.out).mono ?_
  rintro e w2 ⟨rfl, hT⟩
  have HT := Lib.hid (DkTo.trans (HC.out.mono (own1 := own) (by simp)) (fun k hk => .inl hk) hT)
  clear hT
  go_wp2_with fail
  go_ret2
  exact ⟨rfl, HT.out⟩

theorem do_arm {w : World} {own : List Nat} {p : Nat} {D : DK} (H : Hid (DkAt w own p D)) (hq : D.q.length ≤ 900000) (a : ActD) (ha : a.after ≤ 9223372036854775807) (hk : a.kind = 5) :
    Calls Try.prog 15 #[.pointer (some ⟨p, 0, none⟩), a.val] w fun e w' => e = .returned (.tuple #[.string ⟨#[]⟩, .int .i64 0]) ∧ DkTo w own p (D.setArm a.after a.sector a.bytes) w' := by
  obtain ⟨kd, s, b, t, o, f⟩ := a
  obtain rfl : kd = 5 := hk
  obtain ⟨hcb, hDb, hbb⟩ := do_box H.out ⟨5, s, b, t, o, f⟩ _ rfl
  unfold ActD.val
  simp only at ha ⊢
  go_enter Try.func15, Try.ntmps15
  go_wp2_with fail
  simp only [ActD.cells] at hcb hDb hbb
  generalize (w.alloc (.cells _ 34)) = w0 at *
  have HC := Lib.hid hcb
  have HD := Lib.hid hDb
  clear hcb hDb hbb
  refine (arm_spec HD.out f s b ha).mono ?_
  rintro e w2 ⟨rfl, hT⟩
  have HT := Lib.hid (DkTo.trans (HC.out.mono (own1 := own) (by simp)) (fun k hk => .inl hk) hT)
  clear hT
  go_wp2_with fail
  go_ret2
  exact ⟨rfl, HT.out⟩

theorem do_rot {w : World} {own : List Nat} {p : Nat} {D : DK} (H : Hid (DkAt w own p D)) (hq : D.q.length ≤ 900000) (a : ActD) (ha : a.after ≤ 9223372036854775807) (hk : a.kind = 6) :
    Calls Try.prog 15 #[.pointer (some ⟨p, 0, none⟩), a.val] w fun e w' => e = .returned (.tuple #[.string ⟨#[]⟩, .int .i64 0]) ∧ DkTo w own p (D.rot a.sector a.bytes a.after) w' := by
  obtain ⟨kd, s, b, t, o, f⟩ := a
  obtain rfl : kd = 6 := hk
  obtain ⟨hcb, hDb, hbb⟩ := do_box H.out ⟨6, s, b, t, o, f⟩ _ rfl
  unfold ActD.val
  simp only at ha ⊢
  go_enter Try.func15, Try.ntmps15
  go_wp2_with fail
  simp only [ActD.cells] at hcb hDb hbb
  generalize (w.alloc (.cells _ 34)) = w0 at *
  have HC := Lib.hid hcb
  have HD := Lib.hid hDb
  clear hcb hDb hbb
  refine (rot_spec HD.out s b f).mono ?_
  rintro e w2 ⟨rfl, hT⟩
  have HT := Lib.hid (DkTo.trans (HC.out.mono (own1 := own) (by simp)) (fun k hk => .inl hk) hT)
  clear hT
  go_wp2_with fail
  go_ret2
  exact ⟨rfl, HT.out⟩

theorem do_stale {w : World} {own : List Nat} {p : Nat} {D : DK} (H : Hid (DkAt w own p D)) (hq : D.q.length ≤ 900000) (a : ActD) (ha : a.after ≤ 9223372036854775807) (hk : a.kind = 7) :
    Calls Try.prog 15 #[.pointer (some ⟨p, 0, none⟩), a.val] w fun e w' => e = .returned (.tuple #[.string ⟨#[]⟩, .int .i64 0]) ∧ DkTo w own p (D.stale a.sector) w' := by
  obtain ⟨kd, s, b, t, o, f⟩ := a
  obtain rfl : kd = 7 := hk
  obtain ⟨hcb, hDb, hbb⟩ := do_box H.out ⟨7, s, b, t, o, f⟩ _ rfl
  unfold ActD.val
  simp only at ha ⊢
  go_enter Try.func15, Try.ntmps15
  go_wp2_with fail
  simp only [ActD.cells] at hcb hDb hbb
  generalize (w.alloc (.cells _ 34)) = w0 at *
  have HC := Lib.hid hcb
  have HD := Lib.hid hDb
  clear hcb hDb hbb
  refine (stale_spec HD.out s).mono ?_
  rintro e w2 ⟨rfl, hT⟩
  have HT := Lib.hid (DkTo.trans (HC.out.mono (own1 := own) (by simp)) (fun k hk => .inl hk) hT)
  clear hT
  go_wp2_with fail
  go_ret2
  exact ⟨rfl, HT.out⟩

theorem do_none {w : World} {own : List Nat} {p : Nat} {D : DK} (H : Hid (DkAt w own p D)) (kd s b f : Int) (t : Bytes) (o : Bool)
    (h0 : (kd == 0) = false) (h1 : (kd == 1) = false) (h2 : (kd == 2) = false) (h3 : (kd == 3) = false) (h4 : (kd == 4) = false) (h5 : (kd == 5) = false) (h6 : (kd == 6) = false) (h7 : (kd == 7) = false) :
    Calls Try.prog 15 #[.pointer (some ⟨p, 0, none⟩), .agg #[.int .i64 kd, .int .i64 s, .int .i64 b, .string ⟨t.toArray⟩, .bool o, .int .i64 f]] w fun e w' => e = .returned (.tuple #[.string ⟨#[]⟩, .int .i64 0]) ∧ DkTo w own p D w' := by
  go_enter Try.func15, Try.ntmps15
  go_wp2_with fail
  go_ret2
  exact ⟨rfl, H.out.to ((Chg.refl _ _).alloc _)⟩

theorem do_spec {w : World} {own : List Nat} {p : Nat} {D : DK} (h : DkAt w own p D) (hq : D.q.length ≤ 900000) (a : ActD) (ht : a.text.length ≤ 100) (ha : a.after ≤ 9223372036854775807) :
    Calls Try.prog 15 #[.pointer (some ⟨p, 0, none⟩), a.val] w fun e w' => e = .returned (.tuple #[.string ⟨(D.act a).1.toArray⟩, .int .i64 (D.act a).2.1]) ∧ DkTo w own p (D.act a).2.2 w' := by
  unfold DK.act
  by_cases k0 : a.kind = 0
  · rw [if_pos k0]; exact do_write (Lib.hid h) hq a ht k0
  rw [if_neg k0]
  by_cases k1 : a.kind = 1
  · rw [if_pos k1]; exact do_read (Lib.hid h) hq a ha k1
  rw [if_neg k1]
  by_cases k2 : a.kind = 2
  · rw [if_pos k2]; exact do_sync (Lib.hid h) hq a ha k2
  rw [if_neg k2]
  by_cases k3 : a.kind = 3
  · rw [if_pos k3]; exact do_fail (Lib.hid h) hq a ha k3
  rw [if_neg k3]
  by_cases k4 : a.kind = 4
  · rw [if_pos k4]; exact do_start (Lib.hid h) hq a ha k4
  rw [if_neg k4]
  by_cases k5 : a.kind = 5
  · rw [if_pos k5]; exact do_arm (Lib.hid h) hq a ha k5
  rw [if_neg k5]
  by_cases k6 : a.kind = 6
  · rw [if_pos k6]; exact do_rot (Lib.hid h) hq a ha k6
  rw [if_neg k6]
  by_cases k7 : a.kind = 7
  · rw [if_pos k7]; exact do_stale (Lib.hid h) hq a ha k7
  rw [if_neg k7]
  exact do_none (Lib.hid h) a.kind a.sector a.bytes a.after a.text a.odd (beq_eq_false_iff_ne.2 k0) (beq_eq_false_iff_ne.2 k1) (beq_eq_false_iff_ne.2 k2) (beq_eq_false_iff_ne.2 k3) (beq_eq_false_iff_ne.2 k4) (beq_eq_false_iff_ne.2 k5) (beq_eq_false_iff_ne.2 k6) (beq_eq_false_iff_ne.2 k7)
end Go.Proofs.Ytnlgblcldbdnlaa
