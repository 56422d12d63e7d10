/-
  The statements' own helper 'head': it returns true.
-/
import Derived.Test.YtnlgblcldbdnlaaLwF
import Derived.Test.YtnlgblcldbdnlaaLwH
namespace Go.Proofs.Ytnlgblcldbdnlaa
set_option linter.unusedVariables false
set_option linter.unusedSimpArgs false
open Go Go.RowKit

theorem c_fa (w : World) : Calls Try.prog 27 #[.string ⟨#[97]⟩] w fun e w' => e = .returned (.string ⟨fa.toArray⟩) ∧ Chg [] w w' := fill_spec w 97
theorem c_fb (w : World) : Calls Try.prog 27 #[.string ⟨#[98]⟩] w fun e w' => e = .returned (.string ⟨fb.toArray⟩) ∧ Chg [] w w' := fill_spec w 98
theorem c_f0 (w : World) : Calls Try.prog 27 #[.string ⟨#[0]⟩] w fun e w' => e = .returned (.string ⟨f0.toArray⟩) ∧ Chg [] w w' := fill_spec w 0
theorem c_new2 (w : World) : Calls Try.prog 12 #[.int .i64 2] w fun e w' => ∃ p, e = .returned (.pointer (some ⟨p, 0, none⟩)) ∧ At w w' [] p hA0 := At.new w 2 (by decide) (by decide)
theorem c_new1 (w : World) : Calls Try.prog 12 #[.int .i64 1] w fun e w' => ∃ p, e = .returned (.pointer (some ⟨p, 0, none⟩)) ∧ At w w' [] p hX0 := At.new w 1 (by decide) (by decide)
theorem c_new1k (w : World) : Calls Try.prog 12 #[.int .i64 1] w fun e w' => ∃ p, e = .returned (.pointer (some ⟨p, 0, none⟩)) ∧ At w w' [] p hK0 := At.new w 1 (by decide) (by decide)
theorem eq_bb : (sBB == ((⟨#[98, 98]⟩ : ByteArray) ++ (⟨fa.toArray⟩ : ByteArray).extract 2 fa.length).toList) = true := by decide +kernel
theorem eq_ab : (sAB == ((⟨#[97, 98]⟩ : ByteArray) ++ (⟨fa.toArray⟩ : ByteArray).extract 2 fa.length).toList) = true := by decide +kernel

theorem c_fail {w0 wc : World} {p : Nat} (h : At w0 wc [] p hA3) : Calls Try.prog 24 #[.pointer (some ⟨p, 0, none⟩), .int .i64 0, .int .i64 2] wc fun e w' => e = .returned (.tuple #[]) ∧ At w0 w' [] p hA4 :=
  (h.fail (by decide +kernel) 0 2).mono fun _ _ ⟨h1, h2, _⟩ => ⟨h1, h2⟩
theorem c_start {w0 wc : World} {p : Nat} (h : At w0 wc [] p hA5) : Calls Try.prog 19 #[.pointer (some ⟨p, 0, none⟩)] wc fun e w' => e = .returned (.tuple #[]) ∧ At w0 w' [] p hA6 :=
  h.start.mono fun _ _ ⟨h1, h2, _⟩ => ⟨h1, h2⟩
theorem c_startk {w0 wc : World} {p : Nat} (h : At w0 wc [] p hK3) : Calls Try.prog 19 #[.pointer (some ⟨p, 0, none⟩)] wc fun e w' => e = .returned (.tuple #[]) ∧ At w0 w' [] p hK4 :=
  h.start.mono fun _ _ ⟨h1, h2, _⟩ => ⟨h1, h2⟩
theorem c_rot {w0 wc : World} {p : Nat} (h : At w0 wc [] p hX2) : Calls Try.prog 29 #[.pointer (some ⟨p, 0, none⟩), .int .i64 0, .int .i64 1, .int .i64 3] wc fun e w' => e = .returned (.tuple #[]) ∧ At w0 w' [] p hX3 :=
  (h.rot 0 1 3).mono fun _ _ ⟨h1, h2, _⟩ => ⟨h1, h2⟩
theorem c_stale {w0 wc : World} {p : Nat} (h : At w0 wc [] p hX3) : Calls Try.prog 30 #[.pointer (some ⟨p, 0, none⟩), .int .i64 0] wc fun e w' => e = .returned (.tuple #[]) ∧ At w0 w' [] p hX4 :=
  (h.stale 0).mono fun _ _ ⟨h1, h2, _⟩ => ⟨h1, h2⟩
theorem c_arm {w0 wc : World} {p : Nat} (h : At w0 wc [] p hK0) : Calls Try.prog 28 #[.pointer (some ⟨p, 0, none⟩), .int .i64 1, .int .i64 1, .int .i64 2] wc fun e w' => e = .returned (.tuple #[]) ∧ At w0 w' [] p hK1 :=
  (h.arm 1 1 2 (by decide)).mono fun _ _ ⟨h1, h2, _⟩ => ⟨h1, h2⟩

set_option maxHeartbeats 4000000 in
set_option maxRecDepth 100000 in
theorem head_spec (w : World) : Calls Try.prog 10 #[] w fun e w' => e = .returned (.bool true) ∧ Chg [] w w' := by
  go_enter Try.func10, Try.ntmps10
  go_wp2_with fail
  refine (c_new2 _).mono ?_
  rintro e w1 ⟨p, rfl, h⟩
  have H1 := Lib.hid (h.rebase (Chg.refl [] w))
  clear h
  go_wp2_with fail
  refine (c_fa _).mono ?_
  rintro e w2 ⟨rfl, h⟩
  have H2 := Lib.hid (H1.out.quiet h)
  clear h
  clear H1
  go_wp2_with fail
  refine (c_hA1 H2.out).mono ?_
  rintro e w3 ⟨rfl, h⟩
  have H3 := Lib.hid h
  clear h
  clear H2
  go_wp2_with fail
  refine (c_hA2 H3.out).mono ?_
  rintro e w4 ⟨rfl, h⟩
  have H4 := Lib.hid h
  clear h
  clear H3
  go_wp2_with fail
  refine (c_fb _).mono ?_
  rintro e w5 ⟨rfl, h⟩
  have H5 := Lib.hid (H4.out.quiet h)
  clear h
  clear H4
  go_wp2_with fail
  refine (c_hA3 H5.out).mono ?_
  rintro e w6 ⟨rfl, h⟩
  have H6 := Lib.hid h
  clear h
  clear H5
  go_wp2_with fail
  refine (c_hA30 H6.out).mono ?_
  rintro e w7 ⟨rfl, h⟩
  have H7 := Lib.hid h
  clear h
  clear H6
  go_wp2_with fail
  refine (c_fail H7.out).mono ?_
  rintro e w8 ⟨rfl, h⟩
  have H8 := Lib.hid h
  clear h
  clear H7
  go_wp2_with fail
  refine (c_hA5 H8.out).mono ?_
  rintro e w9 ⟨rfl, h⟩
  have H9 := Lib.hid h
  clear h
  clear H8
  go_wp2_with fail
  refine (c_start H9.out).mono ?_
  rintro e w10 ⟨rfl, h⟩
  have H10 := Lib.hid h
  clear h
  clear H9
  go_wp2_with fail
  refine (c_hA60 H10.out).mono ?_
  rintro e w11 ⟨rfl, h⟩
  have H11 := Lib.hid h
  clear h
  clear H10
  go_wp2_with fail
  refine (c_hA61 H11.out).mono ?_
  rintro e w12 ⟨rfl, h⟩
  have H12 := Lib.hid h
  clear h
  clear H11
  go_wp2_with fail
  refine (c_hA62 H12.out).mono ?_
  rintro e w13 ⟨rfl, h⟩
  have H13 := Lib.hid h
  clear h
  clear H12
  go_wp2_with fail
  refine (c_short H13.out).mono ?_
  rintro e w14 ⟨rfl, h⟩
  have H14 := Lib.hid h
  clear h
  clear H13
  go_wp2_with fail
  refine (fail_nil _ 1 1).mono ?_
  rintro e w15 ⟨rfl, rfl⟩
  have H15 := H14
  clear H14
  go_wp2_with fail
  refine (start_nil _).mono ?_
  rintro e w16 ⟨rfl, rfl⟩
  have H16 := H15
  clear H15
  go_wp2_with fail
  refine (arm_nil _ 0 1 1).mono ?_
  rintro e w17 ⟨rfl, rfl⟩
  have H17 := H16
  clear H16
  go_wp2_with fail
  refine (rot_nil _ 0 0 1).mono ?_
  rintro e w18 ⟨rfl, h⟩
  have H18 := Lib.hid (H17.out.quiet h)
  clear h
  clear H17
  go_wp2_with fail
  refine (stale_nil _ 0).mono ?_
  rintro e w19 ⟨rfl, h⟩
  have H19 := Lib.hid (H18.out.quiet h)
  clear h
  clear H18
  go_wp2_with fail
  refine (c_new1 _).mono ?_
  rintro e w20 ⟨px, rfl, h⟩
  have H20 := Lib.hid (h.rebase H19.out.chg)
  clear h
  clear H19
  go_wp2_with fail
  refine (c_fa _).mono ?_
  rintro e w21 ⟨rfl, h⟩
  have H21 := Lib.hid (H20.out.quiet h)
  clear h
  clear H20
  go_wp2_with fail
  refine (c_hX1 H21.out).mono ?_
  rintro e w22 ⟨rfl, h⟩
  have H22 := Lib.hid h
  clear h
  clear H21
  go_wp2_with fail
  refine (c_hX2 H22.out).mono ?_
  rintro e w23 ⟨rfl, h⟩
  have H23 := Lib.hid h
  clear h
  clear H22
  go_wp2_with fail
  refine (c_rot H23.out).mono ?_
  rintro e w24 ⟨rfl, h⟩
  have H24 := Lib.hid h
  clear h
  clear H23
  go_wp2_with fail
  refine (c_hX30 H24.out).mono ?_
  rintro e w25 ⟨rfl, h⟩
  have H25 := Lib.hid h
  clear h
  clear H24
  go_wp2_with fail
  refine (c_stale H25.out).mono ?_
  rintro e w26 ⟨rfl, h⟩
  have H26 := Lib.hid h
  clear h
  clear H25
  go_wp2_with fail
  refine (c_hX40 H26.out).mono ?_
  rintro e w27 ⟨rfl, h⟩
  have H27 := Lib.hid h
  clear h
  clear H26
  go_wp2_with fail
  refine (c_fa _).mono ?_
  rintro e w28 ⟨rfl, h⟩
  have H28 := Lib.hid (H27.out.quiet h)
  clear h
  clear H27
  have hab := eq_ab
  go_wp2_with fail
  refine (c_f0 _).mono ?_
  rintro e w29 ⟨rfl, h⟩
  have H29 := Lib.hid (H28.out.quiet h)
  clear h
  clear H28
  clear hab
  go_wp2_with fail
  refine (c_new1k _).mono ?_
  rintro e w30 ⟨pk, rfl, h⟩
  have H30 := Lib.hid (h.rebase H29.out.chg)
  clear h
  clear H29
  go_wp2_with fail
  refine (c_arm H30.out).mono ?_
  rintro e w31 ⟨rfl, h⟩
  have H31 := Lib.hid h
  clear h
  clear H30
  go_wp2_with fail
  refine (c_fa _).mono ?_
  rintro e w32 ⟨rfl, h⟩
  have H32 := Lib.hid (H31.out.quiet h)
  clear h
  clear H31
  go_wp2_with fail
  refine (c_hK2 H32.out).mono ?_
  rintro e w33 ⟨rfl, h⟩
  have H33 := Lib.hid h
  clear h
  clear H32
  go_wp2_with fail
  refine (c_fb _).mono ?_
  rintro e w34 ⟨rfl, h⟩
  have H34 := Lib.hid (H33.out.quiet h)
  clear h
  clear H33
  go_wp2_with fail
  refine (c_hK3 H34.out).mono ?_
  rintro e w35 ⟨rfl, h⟩
  have H35 := Lib.hid h
  clear h
  clear H34
  go_wp2_with fail
  refine (c_startk H35.out).mono ?_
  rintro e w36 ⟨rfl, h⟩
  have H36 := Lib.hid h
  clear h
  clear H35
  go_wp2_with fail
  refine (c_hK40 H36.out).mono ?_
  rintro e w37 ⟨rfl, h⟩
  have H37 := Lib.hid h
  clear h
  clear H36
  go_wp2_with fail
  refine (c_fa _).mono ?_
  rintro e w38 ⟨rfl, h⟩
  have H38 := Lib.hid (H37.out.quiet h)
  clear h
  clear H37
  have hbb := eq_bb
  go_wp2_with fail
  refine (c_fb _).mono ?_
  rintro e w39 ⟨rfl, h⟩
  have H39 := Lib.hid (H38.out.quiet h)
  clear h
  clear H38
  go_wp2_with fail
  refine (c_fa _).mono ?_
  rintro e w40 ⟨rfl, h⟩
  have H40 := Lib.hid (H39.out.quiet h)
  clear h
  clear H39
  go_wp2_with fail
  refine (c_f0 _).mono ?_
  rintro e w41 ⟨rfl, h⟩
  have H41 := Lib.hid (H40.out.quiet h)
  clear h
  clear H40
  go_wp2_with fail
  refine (sync_nil _).mono ?_
  rintro e w42 ⟨rfl, rfl⟩
  have H42 := H41
  clear H41
  go_wp2_with fail
  refine (c_fa _).mono ?_
  rintro e w43 ⟨rfl, h⟩
  have H43 := Lib.hid (H42.out.quiet h)
  clear h
  clear H42
  go_wp2_with fail
  refine (write_nil _ 0 _).mono ?_
  rintro e w44 ⟨rfl, h⟩
  have H44 := Lib.hid (H43.out.quiet h)
  clear h
  clear H43
  go_wp2_with fail
  refine (new_bad _ 0 (by decide)).mono ?_
  rintro e w45 ⟨rfl, rfl⟩
  have H45 := H44
  clear H44
  go_wp2_with fail
  refine (new_bad _ 4001 (by decide)).mono ?_
  rintro e w46 ⟨rfl, rfl⟩
  have H46 := H45
  clear H45
  go_wp2_with fail
  go_ret
  exact ⟨rfl, H46.out.chg⟩
end Go.Proofs.Ytnlgblcldbdnlaa
