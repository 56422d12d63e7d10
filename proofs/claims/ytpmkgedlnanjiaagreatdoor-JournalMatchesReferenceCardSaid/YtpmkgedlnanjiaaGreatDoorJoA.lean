/-
  Journal: numbers, sealed sectors.
-/
import Derived.Test.YtpmkgedlnanjiaaGreatDoorJgE
import Derived.Test.YtpmkgedlnanjiaaGreatDoorJnC
import Derived.Test.YtpmkgedlnanjiaaGreatDoorDkA
namespace Go.Proofs.YtpmkgedlnanjiaaGreatDoor
set_option linter.unusedVariables false
set_option linter.unusedSimpArgs false
set_option maxRecDepth 100000
open Go Go.RowKit
theorem rep_one (c : UInt8) : ∀ n : Nat, Lib.repeatL [c] n = List.replicate n c
  | 0 => rfl
  | n + 1 => by
    show [c] ++ Lib.repeatL [c] n = _
    rw [rep_one c n]
    rfl
theorem join44 (a x : Bytes) : (⟨a.toArray⟩ : ByteArray) ++ ⟨x.toArray⟩ = ⟨(a ++ x).toArray⟩ := ByteArray.ext (by simp)
theorem digits_r {w : World} (HL : Hid (Laid w)) (n : Nat) (wd : Nat) (hn : n ≤ 1000000000) (hw : wd ≤ 100) {R : Ending → World → Prop} (h : ∀ w', Chg [] w w' → R (.returned (.string ⟨(Jn.dgt n wd).toArray⟩)) w') :
    Calls Tryz.prog 71 #[.int .i64 (n : Int), .int .i64 (wd : Int)] w R := by
  have HRR := Lib.hid h
  clear h
  go_enter Tryz.func71, Tryz.ntmps71
  go_wp2_with fail
  refine (Tryz.strconv_Itoa (n : Int) (by omega) (by omega) w HL.out.pow).mono ?_
  rintro e w2 ⟨rfl, d, os, rfl⟩
  have hb2 : Chg [] w (Go.Sort.grow (w.drewN d) os) := Below.chg (Chg.refl _ _) (Lib.below_grow _ _ (Nat.le_refl _) _ _)
  generalize Go.Sort.grow (w.drewN d) os = w2 at *
  have HC2 := Lib.hid hb2
  clear hb2
  obtain ⟨it, hit⟩ : ∃ it, it = Lib.itoa (n : Int) := ⟨_, rfl⟩
  have hil : it.length ≤ 21 := by rw [hit]; exact Lib.itoa_length_le _ (by omega) (by omega)
  rw [← hit]
  have HIT := Lib.hid hit
  clear hit
  obtain ⟨c, hc⟩ : ∃ c : Nat, c = wd - it.length := ⟨_, rfl⟩
  have HCC := Lib.hid hc
  have hmx : max 0 ((wd : Int) - (it.length : Int)) = (c : Int) := by omega
  have hc1 : c ≤ 100 := by omega
  clear hc
  go_wp2_with fail
  refine (Tryz.strings_Repeat ⟨#[48]⟩ c w2 (by omega) (by show 1 * c ≤ _; omega)).mono ?_
  rintro e w3 ⟨rfl, hb3⟩
  have HC3 : Hid (Chg [] w w3) := Lib.hid (HC2.out.trans (Below.chg (Chg.refl _ _) hb3) (by simp))
  clear hb3 hmx
  have hz : ¬ 9223372036854775807 < (List.replicate c (48 : UInt8)).length + it.length := by rw [List.length_replicate]; omega
  rw [show Lib.repeatL (⟨#[48]⟩ : ByteArray).data.toList c = List.replicate c 48 from rep_one 48 c]
  go_wp2_with fail
  rw [join44]
  have h9 := HRR.out w3 HC3.out
  have e : Jn.dgt n wd = List.replicate c 48 ++ it := by unfold Jn.dgt; rw [HCC.out, HIT.out]
  rw [e] at h9
  exact h9
theorem zero_r {w : World} {R : Ending → World → Prop} (h : ∀ w', Chg [] w w' → R (.returned (.string ⟨Jn.zero.toArray⟩)) w') : Calls Tryz.prog 41 #[] w R := by
  have HRR := Lib.hid h
  clear h
  go_enter Tryz.func41, Tryz.ntmps41
  go_wp2_with fail
  refine (Tryz.strings_Repeat ⟨#[0]⟩ 64 w (by omega) (by show 1 * 64 ≤ _; omega)).mono ?_
  rintro e w3 ⟨rfl, hb3⟩
  have HC3 : Hid (Chg [] w w3) := Lib.hid (Below.chg (Chg.refl _ _) hb3)
  clear hb3
  rw [show Lib.repeatL (⟨#[0]⟩ : ByteArray).data.toList 64 = Jn.zero from rep_one 0 64]
  go_wp2_with fail
  exact HRR.out w3 HC3.out
theorem zeros48 : (List.replicate 48 (0 : UInt8)).map B8 = List.replicate 48 (.int .u8 0) := by simp [B8]
theorem splice_fit (c : Bytes) (h : c.length ≤ 48) : splice (List.replicate 48 (.int .u8 0)) 0 (c.map B8) = (Jn.fit c).map B8 := by
  unfold splice Jn.fit
  rw [List.take_zero, List.nil_append, List.take_of_length_le h, List.map_append, Nat.zero_add, List.length_map, List.drop_replicate, List.map_replicate]
  rfl
set_option maxHeartbeats 2000000 in
theorem seal_r {w : World} (HL : Hid (Laid w)) (p : Nat) (c : Bytes) (hp : p ≤ 1000000000) (hc : c.length ≤ 48) {R : Ending → World → Prop} (h : ∀ w', Chg [] w w' → R (.returned (.string ⟨(Jn.sealed Dg.sum p c).toArray⟩)) w') :
    Calls Tryz.prog 70 #[.int .i64 (p : Int), .string ⟨c.toArray⟩] w R := by
  have HRR := Lib.hid h
  clear h
  obtain ⟨cb, hcb⟩ : ∃ z : ByteArray, z = ⟨c.toArray⟩ := ⟨_, rfl⟩
  rw [← hcb]
  have HCB := Lib.hid hcb
  have HSZ : Hid (cb.size ≤ 48) := Lib.hid (by rw [hcb]; exact hc)
  have HCL := Lib.hid hc
  clear hcb hc
  go_enter Tryz.func70, Tryz.ntmps70
  go_upto_region 2 with (fail)
  obtain ⟨w1, hw⟩ : ∃ W, W = w.alloc (.cells #[.int .u8 0, .int .u8 0, .int .u8 0, .int .u8 0, .int .u8 0, .int .u8 0, .int .u8 0, .int .u8 0, .int .u8 0, .int .u8 0, .int .u8 0, .int .u8 0, .int .u8 0, .int .u8 0, .int .u8 0, .int .u8 0, .int .u8 0, .int .u8 0, .int .u8 0, .int .u8 0, .int .u8 0, .int .u8 0, .int .u8 0, .int .u8 0, .int .u8 0, .int .u8 0, .int .u8 0, .int .u8 0, .int .u8 0, .int .u8 0, .int .u8 0, .int .u8 0, .int .u8 0, .int .u8 0, .int .u8 0, .int .u8 0, .int .u8 0, .int .u8 0, .int .u8 0, .int .u8 0, .int .u8 0, .int .u8 0, .int .u8 0, .int .u8 0, .int .u8 0, .int .u8 0, .int .u8 0, .int .u8 0] 114) := ⟨_, rfl⟩
  rw [← hw]
  obtain ⟨B, hB⟩ : ∃ X, X = w.heap.size := ⟨_, rfl⟩
  rw [← hB]
  have HB : Hid (Blk w1 B (List.replicate 48 (.int .u8 0)) 114) := Lib.hid (by rw [hw, hB]; exact Blk.new w (List.replicate 48 (.int .u8 0)) _)
  have C1 : Hid (Chg [] w w1) := Lib.hid (by rw [hw]; exact (Chg.refl _ _).alloc _)
  have HBW : Hid (w.heap.size ≤ B) := Lib.hid (by rw [hB]; exact Nat.le_refl _)
  clear hw hB
  go_wp2_with (refine wpList_copy_str rfl (.tmp 7) (.tmp 8) 56 9 rfl 5 Tryz.underlying56 info_u8 B 0 48 48 cb (by rfl) (by rfl) HB.out HSZ.out (by rw [List.length_replicate, Nat.zero_add]; exact HSZ.out) ?kk)
  case kk =>
    intro w2 hb2 hc2
    have e2 : cb.data.toList = c := by rw [HCB.out]
    rw [e2] at hb2
    have hb2 : Blk w2 B ((Jn.fit c).map B8) 114 := by rw [← splice_fit c HCL.out]; exact hb2
    have C2 : Hid (Chg [] w w2) := Lib.hid (C1.out.trans hc2 (fun k hk => by rw [List.mem_singleton] at hk; subst hk; exact .inr HBW.out))
    have hcv : (convert 56 9 (.slice (some ⟨B, 0, none⟩) 48 48)).run Tryz.prog w2 = .ok (.string ⟨(Jn.fit c).toArray⟩) w2 := by
      have hrun' : (Conv.bytesToString (.slice (some ⟨B, 0, none⟩) 48 48)).run Tryz.prog w2 = .ok (.string ⟨(Jn.fit c).toArray⟩) w2 := run_bytes_of (l := Jn.fit c) hb2 (Jn.fit_len c) (fun j hj => by rw [Nat.zero_add])
      rw [run_convert_bytes_string _ _ _ 5 _ _ _ Tryz.underlying56 Tryz.underlying5 Tryz.underlying9]
      exact hrun'
    obtain ⟨f, hf⟩ : ∃ f, f = Jn.fit c := ⟨_, rfl⟩
    rw [← hf] at hcv
    have HF := Lib.hid hf
    have hfl : f.length = 48 := by rw [hf]; exact Jn.fit_len c
    clear hb2 hc2 e2 hf
    go_wp2_with fail
    refine digits_r (Lib.hid (HL.out.quiet C2.out)) p 8 hp (by decide) (fun w3 h3 => ?_)
    have C3 : Hid (Chg [] w w3) := Lib.hid (C2.out.trans h3 (by simp))
    obtain ⟨d, hd⟩ : ∃ d, d = Jn.dgt p 8 := ⟨_, rfl⟩
    rw [← hd]
    have HD := Lib.hid hd
    have hdl : d.length ≤ 30 := by rw [hd]; unfold Jn.dgt; rw [List.length_append, List.length_replicate]; have := Lib.itoa_length_le (p : Int) (by omega) (by omega); omega
    clear h3 hd hcv
    have hz : ¬ 9223372036854775807 < d.length + f.length := by omega
    go_wp2_with fail
    rw [join44]
    refine (sum_spec w3 (Lib.hid (HL.out.quiet C3.out)) (d ++ f) (by rw [List.length_append]; omega)).mono ?_
    rintro e w4 ⟨rfl, h4⟩
    have C4 : Hid (Chg [] w w4) := Lib.hid (C3.out.trans h4 (by simp))
    obtain ⟨sm, hsm⟩ : ∃ z, z = Dg.sum (d ++ f) := ⟨_, rfl⟩
    rw [← hsm]
    have HSM := Lib.hid hsm
    have hsl : sm.length = 16 := by rw [hsm]; exact Dg.sum_len _
    clear h4 hsm hz
    have hz : ¬ 9223372036854775807 < sm.length + f.length := by omega
    go_wp2_with fail
    rw [join44]
    have h9 := HRR.out w4 C4.out
    have e : Jn.sealed Dg.sum p c = sm ++ f := by unfold Jn.sealed; rw [← HF.out, ← HD.out, HSM.out]
    rw [e] at h9
    exact h9
theorem head44_r {w : World} (HL : Hid (Laid w)) (p n : Nat) (hp : p ≤ 1000000000) (hn : n < 100000000) {R : Ending → World → Prop} (h : ∀ w', Chg [] w w' → R (.returned (.string ⟨(Jn.head Dg.sum p n).toArray⟩)) w') :
    Calls Tryz.prog 40 #[.int .i64 (p : Int), .int .i64 (n : Int)] w R := by
  have HRR := Lib.hid h
  clear h
  have h8 : (Jn.dgt n 8).length = 8 := Jn.dgt_len (w := 7) hn
  have H8 := Lib.hid h8
  clear h8
  go_enter Tryz.func40, Tryz.ntmps40
  go_wp2_with fail
  refine digits_r HL n 8 (by omega) (by decide) (fun w2 h2 => ?_)
  have C2 := Lib.hid h2
  clear h2
  go_wp2_with fail
  refine seal_r (Lib.hid (HL.out.quiet C2.out)) p (Jn.dgt n 8) hp (by rw [H8.out]; decide) (fun w3 h3 => ?_)
  have C3 : Hid (Chg [] w w3) := Lib.hid (C2.out.trans h3 (by simp))
  clear h3
  go_wp2_with fail
  exact HRR.out w3 C3.out
theorem sector_r {w : World} (HL : Hid (Laid w)) (p : Nat) (s : Bytes) (hp : p ≤ 1000000000) (hs : s.length ≤ 46) {R : Ending → World → Prop} (h : ∀ w', Chg [] w w' → R (.returned (.string ⟨(Jn.sector Dg.sum p s).toArray⟩)) w') :
    Calls Tryz.prog 36 #[.int .i64 (p : Int), .string ⟨s.toArray⟩] w R := by
  have HRR := Lib.hid h
  clear h
  obtain ⟨d, hd⟩ : ∃ d, d = Jn.dgt s.length 2 := ⟨_, rfl⟩
  have HD := Lib.hid hd
  have hdl : d.length = 2 := by rw [hd]; exact Jn.dgt_len (w := 1) (by omega)
  clear hd
  go_enter Tryz.func36, Tryz.ntmps36
  go_wp2_with fail
  refine digits_r HL s.length 2 (by omega) (by decide) (fun w2 h2 => ?_)
  have C2 := Lib.hid h2
  clear h2
  rw [← HD.out]
  have hz : ¬ 9223372036854775807 < d.length + s.length := by omega
  go_wp2_with fail
  rw [join44]
  refine seal_r (Lib.hid (HL.out.quiet C2.out)) p (d ++ s) hp (by rw [List.length_append]; omega) (fun w3 h3 => ?_)
  have C3 : Hid (Chg [] w w3) := Lib.hid (C2.out.trans h3 (by simp))
  clear h3 hz
  go_wp2_with fail
  have h9 := HRR.out w3 C3.out
  have e : Jn.sector Dg.sum p s = Jn.sealed Dg.sum p (d ++ s) := by unfold Jn.sector; rw [HD.out]
  rw [e] at h9
  exact h9
end Go.Proofs.YtpmkgedlnanjiaaGreatDoor
