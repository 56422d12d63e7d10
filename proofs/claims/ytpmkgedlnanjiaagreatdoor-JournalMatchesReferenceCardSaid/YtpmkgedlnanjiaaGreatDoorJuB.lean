/-
  JuA, JuB in one text.
-/
import Derived.Test.YtpmkgedlnanjiaaGreatDoorJpE
import Derived.Test.YtpmkgedlnanjiaaGreatDoorJuP
import Derived.Test.YtpmkgedlnanjiaaGreatDoorJnH
import Derived.Test.YtpmkgedlnanjiaaGreatDoorJtD
namespace Go.Proofs.YtpmkgedlnanjiaaGreatDoor
set_option linter.unusedVariables false
set_option linter.unusedSimpArgs false
set_option maxRecDepth 100000
open Go Go.RowKit
attribute [local irreducible] Go.wpStill
theorem rzeros_r {w : World} (n : Nat) (hn : n ≤ 1000000) {R : Ending → World → Prop} (h : ∀ w', Chg [] w w' → R (.returned (.string ⟨(List.replicate n (0 : UInt8)).toArray⟩)) w') :
    Calls Tryz.prog 83 #[.int .i64 (n : Int)] w R := by
  have HRR := Lib.hid h
  clear h
  have hmk := make_bytes n hn
  go_enter Tryz.func83, Tryz.ntmps83
  have hcv : (convert 56 9 (.slice (some ⟨w.heap.size, 0, none⟩) n n)).run Tryz.prog (w.alloc (.cells ((List.replicate n (0 : UInt8)).map B8).toArray 5)) = .ok (.string ⟨(List.replicate n (0 : UInt8)).toArray⟩) (w.alloc (.cells ((List.replicate n (0 : UInt8)).map B8).toArray 5)) := by
    have hrun' : (Conv.bytesToString (.slice (some ⟨w.heap.size, 0, none⟩) n n)).run Tryz.prog (w.alloc (.cells ((List.replicate n (0 : UInt8)).map B8).toArray 5)) = .ok (.string ⟨(List.replicate n (0 : UInt8)).toArray⟩) _ := run_bytes_of (l := List.replicate n 0) (Blk.new w ((List.replicate n (0 : UInt8)).map B8) _) (by simp) (fun j hj => by rw [Nat.zero_add])
    rw [run_convert_bytes_string _ _ _ 5 _ _ _ Tryz.underlying56 Tryz.underlying5 Tryz.underlying9]
    exact hrun'
  obtain ⟨Z, hZ⟩ : ∃ Z, Z = ((List.replicate n (0 : UInt8)).map B8).toArray := ⟨_, rfl⟩
  rw [← hZ] at hmk hcv
  clear hZ
  go_wp2_with fail
  exact HRR.out _ ((Chg.refl _ _).alloc _)
theorem rzero_r {w : World} {R : Ending → World → Prop} (h : ∀ w', Chg [] w w' → R (.returned (.string ⟨Jn.zero.toArray⟩)) w') : Calls Tryz.prog 59 #[] w R := by
  have HRR := Lib.hid h
  clear h
  go_enter Tryz.func59, Tryz.ntmps59
  go_wp2_with fail
  refine rzeros_r 64 (by decide) (fun w2 hc => ?_)
  rw [show List.replicate 64 (0 : UInt8) = Jn.zero from rfl]
  go_wp2_with fail
  exact HRR.out _ hc
theorem rdigits_r {w : World} (n wd : Nat) (hn : n ≤ 1000000000) (hw : wd ≤ 100) {R : Ending → World → Prop} (h : R (.returned (.string ⟨(Jn.dgt n wd).toArray⟩)) w) :
    Calls Tryz.prog 82 #[.int .i64 (n : Int), .int .i64 (wd : Int)] w R := by
  have HRR := Lib.hid h
  clear h
  obtain ⟨d, hd⟩ : ∃ d, d = Lib.itoa (n : Int) := ⟨_, rfl⟩
  have HD := Lib.hid hd
  have hdl : d.length ≤ 21 := by rw [hd]; exact Lib.itoa_length_le _ (by omega) (by omega)
  obtain ⟨dl, hdn⟩ : ∃ m, m = d.length := ⟨_, rfl⟩
  have HDN := Lib.hid hdn
  go_enter Tryz.func82, Tryz.ntmps82
  go_wp2_with fail
  refine (decimal_spec w n (by omega)).mono ?_
  rintro e w2 ⟨rfl, rfl⟩
  rw [← hd]
  rw [← hdn] at hdl
  clear hd hdn
  go_wp2_with fail
  go_loopw [5] (fun sv wr => ∃ (k : Nat) (sb : ByteArray), sv = .string sb ∧ sb.size = k + dl ∧ wr = w ∧ (k = 0 ∨ k + dl ≤ wd) ∧ Hid (sb = ⟨(List.replicate k 48 ++ d).toArray⟩)) (fun sv _ => 200 - sLen sv)
  case atStart => exact ⟨0, _, rfl, by rw [Nat.zero_add, HDN.out]; rfl, rfl, .inl rfl, Lib.hid rfl⟩
  case round =>
    obtain ⟨k, sb, rfl, hsz, rfl, hk, HSB⟩ := hrel
    by_cases hlt : k + dl < wd
    · have z1 : ((k + dl : Nat) : Int) < (wd : Int) := by omega
      have z2 : (k : Int) + (dl : Int) < (wd : Int) := by omega
      have z3 : ¬ 9223372036854775807 < 1 + (k + dl) := by omega
      go_wp2_with fail
      go_roundw
      case rel => exact ⟨k + 1, _, rfl, by rw [ByteArray.size_append, hsz]; show 1 + (k + dl) = _; omega, trivial, .inr (by omega), Lib.hid (by rw [HSB.out, List.replicate_succ]; exact join44 [48] (List.replicate k 48 ++ d))⟩
      case measure =>
        have e1 : (⟨#[48]⟩ : ByteArray).size = 1 := rfl
        simp only [Array.getD_eq_getD_getElem?, sLen, ByteArray.size_append, hsz, e1]
        simp [sLen, hsz, ByteArray.size_append, e1]
        omega
    · have z1 : ¬ ((k + dl : Nat) : Int) < (wd : Int) := by omega
      have z2 : ¬ (k : Int) + (dl : Int) < (wd : Int) := by omega
      go_wp2_with fail
      have h9 := HRR.out
      have e : Jn.dgt n wd = List.replicate k 48 ++ d := by
        unfold Jn.dgt
        rw [← HD.out, ← HDN.out, show wd - dl = k by omega]
      rw [e] at h9
      rw [HSB.out]
      exact h9
theorem rseal_r {w : World} (p : Nat) (c : Bytes) (hp : p ≤ 1000000000) (hc : c.length ≤ 1000) {R : Ending → World → Prop} (h : R (.returned (.string ⟨(Dg.sum (Jn.dgt p 8 ++ c) ++ c).toArray⟩)) w) :
    Calls Tryz.prog 81 #[.int .i64 (p : Int), .string ⟨c.toArray⟩] w R := by
  have HRR := Lib.hid h
  clear h
  obtain ⟨m, hm⟩ : ∃ m, m = c.length := ⟨_, rfl⟩
  have hsz : (⟨c.toArray⟩ : ByteArray).size = m := by rw [hm]; rfl
  go_enter Tryz.func81, Tryz.ntmps81
  go_wp2_with fail
  refine rdigits_r p 8 hp (by decide) ?_
  obtain ⟨d, hd⟩ : ∃ d, d = Jn.dgt p 8 := ⟨_, rfl⟩
  rw [← hd]
  rw [← hd] at HRR
  have hdl : d.length ≤ 30 := by rw [hd]; unfold Jn.dgt; rw [List.length_append, List.length_replicate]; have := Lib.itoa_length_le (p : Int) (by omega) (by omega); omega
  obtain ⟨k, hk⟩ : ∃ k, k = d.length := ⟨_, rfl⟩
  have hsd : (⟨d.toArray⟩ : ByteArray).size = k := by rw [hk]; rfl
  have z1 : ¬ 9223372036854775807 < k + m := by omega
  have HK := Lib.hid hk
  have HM := Lib.hid hm
  rw [← hk] at hdl
  rw [← hm] at hc
  clear hd hk hm
  go_wp2_with fail
  rw [join44]
  refine (rsum_spec w (d ++ c) (by rw [List.length_append, ← HK.out, ← HM.out]; omega)).mono ?_
  rintro e w2 ⟨rfl, rfl⟩
  obtain ⟨s, hs⟩ : ∃ s, s = Dg.sum (d ++ c) := ⟨_, rfl⟩
  rw [← hs]
  rw [← hs] at HRR
  have hss : (⟨s.toArray⟩ : ByteArray).size = 16 := by rw [hs]; exact Dg.sum_len _
  have z2 : ¬ 9223372036854775807 < 16 + m := by omega
  clear hs
  go_wp2_with fail
  rw [join44]
  exact HRR.out
theorem rhead_r {w : World} (p n : Nat) (hp : p ≤ 1000000000) (hn : n < 100000000) {R : Ending → World → Prop} (h : ∀ w', Chg [] w w' → R (.returned (.string ⟨(Jn.head Dg.sum p n).toArray⟩)) w') :
    Calls Tryz.prog 58 #[.int .i64 (p : Int), .int .i64 (n : Int)] w R := by
  have HRR := Lib.hid h
  clear h
  go_enter Tryz.func58, Tryz.ntmps58
  go_wp2_with fail
  refine rdigits_r n 8 (by omega) (by decide) ?_
  obtain ⟨d, hd⟩ : ∃ d, d = Jn.dgt n 8 := ⟨_, rfl⟩
  have hdl : d.length = 8 := by rw [hd]; exact Jn.dgt_len (w := 7) hn
  have hsd : (⟨d.toArray⟩ : ByteArray).size = 8 := hdl
  have HF : Hid (Jn.head Dg.sum p n = Dg.sum (Jn.dgt p 8 ++ (d ++ List.replicate 40 0)) ++ (d ++ List.replicate 40 0)) := Lib.hid (by rw [← Jn.fit_full (k := 40) (by omega), hd]; rfl)
  rw [← hd]
  have HDL := Lib.hid hdl
  clear hd hdl
  go_wp2_with fail
  refine rzeros_r 40 (by decide) (fun w2 hc => ?_)
  have C2 := Lib.hid hc
  clear hc
  obtain ⟨z, hz⟩ : ∃ z : Bytes, z = List.replicate 40 0 := ⟨_, rfl⟩
  have hsz : (⟨z.toArray⟩ : ByteArray).size = 40 := by rw [hz]; rfl
  rw [← hz] at HF ⊢
  have HZL : Hid (z.length = 40) := Lib.hid hsz
  clear hz
  go_wp2_with fail
  rw [join44]
  refine rseal_r p (d ++ z) hp (by rw [List.length_append, HDL.out, HZL.out]; decide) ?_
  rw [← HF.out]
  go_wp2_with fail
  exact HRR.out _ C2.out
theorem rsector_r {w : World} (p : Nat) (x : Bytes) (hp : p ≤ 1000000000) (hx : x.length ≤ 46) {R : Ending → World → Prop} (h : ∀ w', Chg [] w w' → R (.returned (.string ⟨(Jn.sector Dg.sum p x).toArray⟩)) w') :
    Calls Tryz.prog 66 #[.int .i64 (p : Int), .string ⟨x.toArray⟩] w R := by
  have HRR := Lib.hid h
  clear h
  obtain ⟨m, hm⟩ : ∃ m, m = x.length := ⟨_, rfl⟩
  have hsx : (⟨x.toArray⟩ : ByteArray).size = m := by rw [hm]; rfl
  have HM := Lib.hid hm
  rw [← hm] at hx
  obtain ⟨q, hq⟩ : ∃ q, q = 46 - m := ⟨_, rfl⟩
  have y1 : IntKind.i64.wrap (46 - (m : Int)) = (q : Int) := by rw [IntWalk.i64_in _ (by omega)]; omega
  have HQ := Lib.hid hq
  clear hm hq
  go_enter Tryz.func66, Tryz.ntmps66
  go_wp2_with fail
  refine rdigits_r m 2 (by omega) (by decide) ?_
  obtain ⟨d, hd⟩ : ∃ d, d = Jn.dgt m 2 := ⟨_, rfl⟩
  have hdl : d.length = 2 := by rw [hd]; exact Jn.dgt_len (w := 1) (by omega)
  have hsd : (⟨d.toArray⟩ : ByteArray).size = 2 := hdl
  have HF : Hid (Jn.sector Dg.sum p x = Dg.sum (Jn.dgt p 8 ++ ((d ++ x) ++ List.replicate q 0)) ++ ((d ++ x) ++ List.replicate q 0)) := Lib.hid (by rw [← Jn.fit_full (k := q) (by rw [List.length_append, hdl, ← HM.out, HQ.out]; omega), hd, HM.out]; rfl)
  rw [← hd]
  have HDL := Lib.hid hdl
  have z1 : ¬ 9223372036854775807 < 2 + m := by omega
  clear hd hdl
  go_wp2_with fail
  rw [join44]
  refine rzeros_r q (by have := HQ.out; omega) (fun w2 hc => ?_)
  have C2 := Lib.hid hc
  clear hc
  obtain ⟨z, hz⟩ : ∃ z : Bytes, z = List.replicate q 0 := ⟨_, rfl⟩
  have hzl : z.length = q := by rw [hz, List.length_replicate]
  have hsz : (⟨z.toArray⟩ : ByteArray).size = q := hzl
  rw [← hz] at HF ⊢
  have HZL := Lib.hid hzl
  clear hz hzl
  obtain ⟨dx, hdx⟩ : ∃ z, z = d ++ x := ⟨_, rfl⟩
  have hdxl : dx.length = 2 + m := by rw [hdx, List.length_append, HDL.out, HM.out]
  have hsdx : (⟨dx.toArray⟩ : ByteArray).size = 2 + m := hdxl
  rw [← hdx] at HF ⊢
  have HDX := Lib.hid hdxl
  have z2 : ¬ 9223372036854775807 < 2 + m + q := by have := HQ.out; omega
  clear hdx hdxl
  go_wp2_with fail
  rw [join44]
  refine rseal_r p (dx ++ z) hp (by rw [List.length_append, HDX.out, HZL.out, HQ.out]; omega) ?_
  rw [← HF.out]
  go_wp2_with fail
  exact HRR.out _ C2.out
end Go.Proofs.YtpmkgedlnanjiaaGreatDoor
namespace Go.Proofs.YtpmkgedlnanjiaaGreatDoor
set_option linter.unusedVariables false
set_option linter.unusedSimpArgs false
set_option maxRecDepth 100000
open Go Go.RowKit
attribute [local irreducible] Go.wpStill
set_option maxHeartbeats 1000000 in
theorem rnumber_r {w : World} (s : Bytes) (hs : s.length ≤ 8) {R : Ending → World → Prop} (h : R (.returned (.int .i64 (Jn.oi (Jn.numR s)))) w) :
    Calls Tryz.prog 80 #[.string ⟨s.toArray⟩] w R := by
  have HRR := Lib.hid h
  clear h
  obtain ⟨n, hn⟩ : ∃ n, n = s.length := ⟨_, rfl⟩
  have hsz : (⟨s.toArray⟩ : ByteArray).size = n := by rw [hn]; rfl
  have HN := Lib.hid hn
  rw [← hn] at hs
  clear hn
  go_enter Tryz.func80, Tryz.ntmps80
  go_wp2_with fail
  go_loopw [3, 4] (fun vv iv wr => ∃ k v : Nat, k ≤ n ∧ iv = .int .i64 (k : Int) ∧ vv = .int .i64 (v : Int) ∧ v < 100000000 ∧ wr = w ∧ Hid ((∀ c ∈ s.take k, Jn.isD c = true) ∧ Jn.val (s.take k) = v)) (fun _ iv _ => n - (intOf iv).toNat)
  case atStart => exact ⟨0, 0, Nat.zero_le _, rfl, rfl, by omega, rfl, Lib.hid ⟨by simp, rfl⟩⟩
  case round =>
    obtain ⟨k, v, hk, rfl, rfl, hv, rfl, HA⟩ := hrel
    by_cases hlt : k < n
    · obtain ⟨c, hx⟩ : ∃ c, s[k]? = some c := ⟨s[k]'(by rw [← HN.out]; exact hlt), by simp⟩
      have hkx : k < (⟨s.toArray⟩ : ByteArray).size := by rw [hsz]; exact hlt
      have hbx := byte_of hx hkx
      have z0 : (0 : Int) ≤ (k : Int) := by omega
      have z1 : (k : Int) < (n : Int) := by omega
      have HTK : Hid (s.take (k + 1) = s.take k ++ [c]) := Lib.hid (by rw [List.take_add_one, hx]; rfl)
      have HMC : Hid (c ∈ s) := Lib.hid (List.mem_of_getElem? hx)
      have hc9 := c.toNat_lt
      obtain ⟨b, hb⟩ : ∃ b, b = c.toNat := ⟨_, rfl⟩
      have HB := Lib.hid hb
      have HBAD : Hid (¬ (48 ≤ b ∧ b ≤ 57) → Jn.numR s = none) := Lib.hid (fun h => by
        unfold Jn.numR
        rw [if_neg]
        intro ha
        have h1 := of_decide_eq_true (List.all_eq_true.1 ha c HMC.out)
        rw [← HB.out] at h1
        exact h h1)
      rw [← hb] at hc9
      clear hx
      by_cases h48 : b < 48
      · have z2 : (c.toNat : Int) < 48 := by rw [← hb]; omega
        clear hb
        go_wp2_with fail
        have h9 := HRR.out
        rw [HBAD.out (by omega)] at h9
        exact h9
      have z2 : ¬ (c.toNat : Int) < 48 := by rw [← hb]; omega
      by_cases h57 : 57 < b
      · have z3 : (57 : Int) < (c.toNat : Int) := by rw [← hb]; omega
        clear hb
        go_wp2_with fail
        have h9 := HRR.out
        rw [HBAD.out (by omega)] at h9
        exact h9
      have z3 : ¬ (57 : Int) < (c.toNat : Int) := by rw [← hb]; omega
      obtain ⟨d, hd⟩ : ∃ d, d = b - 48 := ⟨_, rfl⟩
      have y1 : IntKind.u8.wrap ((c.toNat : Int) - 48) = (d : Int) := by rw [← hb, IntWalk.u8_in _ (by omega)]; omega
      have y2 : IntKind.i64.wrap (d : Int) = (d : Int) := IntWalk.i64_in _ (by omega)
      obtain ⟨t, ht⟩ : ∃ t, t = 10 * v := ⟨_, rfl⟩
      have y3 : IntKind.i64.wrap (10 * (v : Int)) = (t : Int) := by rw [IntWalk.i64_in _ (by omega)]; omega
      obtain ⟨u, hu⟩ : ∃ u, u = t + d := ⟨_, rfl⟩
      have y4 : IntKind.i64.wrap ((t : Int) + (d : Int)) = (u : Int) := by rw [IntWalk.i64_in _ (by omega)]; omega
      have HNEW : Hid ((∀ x ∈ s.take (k + 1), Jn.isD x = true) ∧ Jn.val (s.take (k + 1)) = u) := Lib.hid (by
        rw [HTK.out]
        refine ⟨fun x hx => ?_, ?_⟩
        · rcases List.mem_append.1 hx with h1 | h1
          · exact HA.out.1 x h1
          · rw [List.mem_singleton.1 h1]
            exact decide_eq_true (by rw [← HB.out]; omega)
        · rw [Jn.val_snoc, HA.out.2, ← HB.out]
          omega)
      have hu8 : u < 100000000 := by
        have h1 := Jn.val_lt _ HNEW.out.1
        rw [HNEW.out.2, List.length_take] at h1
        have h2 : (10 : Nat) ^ (min (k + 1) s.length) ≤ 10 ^ 8 := Nat.pow_le_pow_right (by decide) (by rw [← HN.out]; omega)
        have h3 : (10 : Nat) ^ 8 = 100000000 := rfl
        omega
      clear hd hb ht hu
      go_wp2_with fail
      go_roundw
      case rel => exact ⟨k + 1, u, by omega, by go_num, rfl, hu8, trivial, HNEW⟩
      case measure => simp [intOf]; omega
    · have hkn : k = n := by omega
      subst hkn
      go_wp2_with fail
      have h9 := HRR.out
      have h1 := HA.out
      rw [HN.out, List.take_length] at h1
      have e : Jn.numR s = some v := by unfold Jn.numR; rw [if_pos (List.all_eq_true.2 h1.1), h1.2]
      rw [e] at h9
      exact h9
theorem str_eq {a b : Bytes} {x y : ByteArray} (hx : x = ⟨a.toArray⟩) (hy : y = ⟨b.toArray⟩) : ((x.toList == y.toList) = decide (a = b)) := by
  rw [hx, hy, ByteArray.toList_mk, ByteArray.toList_mk]
  by_cases h : a = b
  · subst h
    simp
  · rw [decide_eq_false h, beq_eq_false_iff_ne]
    exact h
set_option maxHeartbeats 1000000 in
theorem rcount_r {w : World} (p : Nat) (s : Bytes) (room : Nat) (hp : p ≤ 1000000000) (hr : room ≤ 1000) (hl : s.length = 64) {R : Ending → World → Prop} (h : ∀ w', Chg [] w w' → R (.returned (.int .i64 (Jn.oi (Jn.cnt Dg.sum p s room)))) w') :
    Calls Tryz.prog 55 #[.int .i64 (p : Int), .string ⟨s.toArray⟩, .int .i64 (room : Int)] w R := by
  have HRR := Lib.hid h
  clear h
  have hsz : (⟨s.toArray⟩ : ByteArray).size = 64 := hl
  obtain ⟨sb, hsb⟩ : ∃ z : ByteArray, z = ⟨s.toArray⟩ := ⟨_, rfl⟩
  have HSB := Lib.hid hsb
  rw [← hsb] at hsz ⊢
  go_enter Tryz.func55, Tryz.ntmps55
  go_wp2_with fail
  refine rzero_r (fun w2 hc => ?_)
  have C2 := Lib.hid hc
  clear hc
  obtain ⟨zb, hzb⟩ : ∃ z : ByteArray, z = ⟨Jn.zero.toArray⟩ := ⟨_, rfl⟩
  rw [← hzb]
  by_cases hz : s = Jn.zero
  · have z1 : (sb.toList == zb.toList) = true := by rw [str_eq hsb hzb]; exact decide_eq_true hz
    have HCN : Hid (Jn.cnt Dg.sum p s room = some 0) := Lib.hid (by unfold Jn.cnt; rw [if_pos hz])
    clear hsb hzb hz
    go_wp2_with fail
    have h9 := HRR.out _ C2.out
    rw [HCN.out] at h9
    exact h9
  have z1 : (sb.toList == zb.toList) = false := by rw [str_eq hsb hzb]; exact decide_eq_false hz
  have HCR := Lib.hid (Jn.cnt_ref (sm := Dg.sum) Dg.sum_len (p := p) (room := room) (by omega) hz)
  have HX : Hid (sb.extract 16 24 = ⟨((s.drop 16).take 8).toArray⟩) := Lib.hid (cutMid44 HSB 16 24 (by decide))
  clear hsb hzb hz
  go_wp2_with fail
  rw [HX.out]
  refine rnumber_r _ (by rw [List.length_take]; omega) ?_
  cases hv : Jn.numR ((s.drop 16).take 8) with
  | none =>
    have HV := Lib.hid hv
    clear hv
    rw [HV.out] at HCR
    rw [show Jn.oi none = -1 from rfl]
    go_wp2_with fail
    have h9 := HRR.out _ C2.out
    rw [HCR.out] at h9
    exact h9
  | some v =>
    have HV := Lib.hid hv
    have hv8 : v < 100000000 := by
      obtain ⟨h1, h2⟩ := Jn.numR_some hv
      have h3 := Jn.val_lt _ h1
      rw [h2, List.length_take] at h3
      have h4 : (10 : Nat) ^ (min 8 (s.drop 16).length) ≤ 10 ^ 8 := Nat.pow_le_pow_right (by decide) (Nat.min_le_left _ _)
      have h5 : (10 : Nat) ^ 8 = 100000000 := rfl
      omega
    clear hv
    rw [HV.out] at HCR
    have HCR : Hid (Jn.cnt Dg.sum p s room = if v ≤ room ∧ Jn.head Dg.sum p v = s then some v else none) := HCR
    rw [show Jn.oi (some v) = (v : Int) from rfl]
    have q0 : ¬ (v : Int) < 0 := by omega
    by_cases hvr : room < v
    · have q1 : (room : Int) < (v : Int) := by omega
      have HC2 : Hid (Jn.cnt Dg.sum p s room = none) := Lib.hid (by rw [HCR.out, if_neg (by omega)])
      go_wp2_with fail
      have h9 := HRR.out _ C2.out
      rw [HC2.out] at h9
      exact h9
    have q1 : ¬ (room : Int) < (v : Int) := by omega
    go_wp2_with fail
    refine rhead_r p v hp hv8 (fun w3 hc => ?_)
    have C3 : Hid (Chg [] w w3) := Lib.hid (C2.out.trans hc (by simp))
    clear hc
    obtain ⟨hb, hhb⟩ : ∃ z : ByteArray, z = ⟨(Jn.head Dg.sum p v).toArray⟩ := ⟨_, rfl⟩
    rw [← hhb]
    by_cases he : Jn.head Dg.sum p v = s
    · have z2 : (hb.toList == sb.toList) = true := by rw [str_eq hhb HSB.out]; exact decide_eq_true he
      have z3 : (!hb.toList == sb.toList) = false := by rw [z2]; rfl
      have HC2 : Hid (Jn.cnt Dg.sum p s room = some v) := Lib.hid (by rw [HCR.out, if_pos ⟨by omega, he⟩])
      clear hhb he
      go_wp2_with fail
      have h9 := HRR.out _ C3.out
      rw [HC2.out] at h9
      exact h9
    · have z2 : (hb.toList == sb.toList) = false := by rw [str_eq hhb HSB.out]; exact decide_eq_false he
      have z3 : (!hb.toList == sb.toList) = true := by rw [z2]; rfl
      have HC2 : Hid (Jn.cnt Dg.sum p s room = none) := Lib.hid (by rw [HCR.out, if_neg (fun h => he h.2)])
      clear hhb he
      go_wp2_with fail
      have h9 := HRR.out _ C3.out
      rw [HC2.out] at h9
      exact h9
/-- A piece, or nothing. -/
def op (o : Option Bytes) : Bytes := o.getD []
set_option maxHeartbeats 1000000 in
theorem rpiece_r {w : World} (p : Nat) (s : Bytes) (hp : p ≤ 1000000000) (hl : s.length = 64) {R : Ending → World → Prop} (h : ∀ w', Chg [] w w' → R (.returned (.string ⟨(op (Jn.piece Dg.sum p s)).toArray⟩)) w') :
    Calls Tryz.prog 56 #[.int .i64 (p : Int), .string ⟨s.toArray⟩] w R := by
  have HRR := Lib.hid h
  clear h
  have hsz : (⟨s.toArray⟩ : ByteArray).size = 64 := hl
  have HL9 := Lib.hid hl
  obtain ⟨sb, hsb⟩ : ∃ z : ByteArray, z = ⟨s.toArray⟩ := ⟨_, rfl⟩
  have HSB := Lib.hid hsb
  rw [← hsb] at hsz ⊢
  have HPR := Lib.hid (Jn.piece_ref (sm := Dg.sum) Dg.sum_len (p := p) (s := s))
  have HX : Hid (sb.extract 16 18 = ⟨((s.drop 16).take 2).toArray⟩) := Lib.hid (cutMid44 HSB 16 18 (by decide))
  have HNO : Hid (Jn.piece Dg.sum p s = none → R (.returned (.string ⟨#[]⟩)) w) := Lib.hid (fun h => by have h9 := HRR.out _ (Chg.refl _ _); rw [h] at h9; exact h9)
  clear hsb hl
  go_enter Tryz.func56, Tryz.ntmps56
  go_wp2_with fail
  rw [HX.out]
  refine rnumber_r _ (by rw [List.length_take]; omega) ?_
  cases hv : Jn.numR ((s.drop 16).take 2) with
  | none =>
    have HV := Lib.hid hv
    clear hv
    rw [HV.out] at HPR
    rw [show Jn.oi none = -1 from rfl]
    go_wp2_with fail
    exact HNO.out HPR.out
  | some v =>
    have HV := Lib.hid hv
    clear hv
    rw [HV.out] at HPR
    have HPR : Hid (Jn.piece Dg.sum p s = if 1 ≤ v ∧ v ≤ 46 ∧ Jn.sector Dg.sum p ((s.drop 18).take v) = s then some ((s.drop 18).take v) else none) := HPR
    rw [show Jn.oi (some v) = (v : Int) from rfl]
    by_cases h1 : v < 1
    · have q0 : (v : Int) < 1 := by omega
      have HC2 : Hid (Jn.piece Dg.sum p s = none) := Lib.hid (by rw [HPR.out, if_neg (by omega)])
      go_wp2_with fail
      exact HNO.out HC2.out
    have q0 : ¬ (v : Int) < 1 := by omega
    by_cases h46 : 46 < v
    · have q1 : (46 : Int) < (v : Int) := by omega
      have HC2 : Hid (Jn.piece Dg.sum p s = none) := Lib.hid (by rw [HPR.out, if_neg (by omega)])
      go_wp2_with fail
      exact HNO.out HC2.out
    have q1 : ¬ (46 : Int) < (v : Int) := by omega
    obtain ⟨e, he⟩ : ∃ e, e = 18 + v := ⟨_, rfl⟩
    have y1 : IntKind.i64.wrap (18 + (v : Int)) = (e : Int) := by rw [IntWalk.i64_in _ (by omega)]; omega
    have q2 : (18 : Int) ≤ (e : Int) := by omega
    have q3 : (e : Int) ≤ 64 := by omega
    obtain ⟨x, hx⟩ : ∃ x, x = (s.drop 18).take v := ⟨_, rfl⟩
    have HXE : Hid (sb.extract 18 e = ⟨x.toArray⟩) := Lib.hid (by rw [cutMid44 HSB 18 e (by omega), hx, he, Nat.add_sub_cancel_left])
    have HXL : Hid (x.length ≤ 46) := Lib.hid (by rw [hx, List.length_take]; omega)
    rw [← hx] at HPR
    clear hx he
    go_wp2_with fail
    rw [HXE.out]
    refine rsector_r p x hp HXL.out (fun w3 hc => ?_)
    have C3 := Lib.hid hc
    clear hc
    obtain ⟨hb, hhb⟩ : ∃ z : ByteArray, z = ⟨(Jn.sector Dg.sum p x).toArray⟩ := ⟨_, rfl⟩
    rw [← hhb]
    by_cases he : Jn.sector Dg.sum p x = s
    · have z2 : (hb.toList == sb.toList) = true := by rw [str_eq hhb HSB.out]; exact decide_eq_true he
      have z3 : (!hb.toList == sb.toList) = false := by rw [z2]; rfl
      have HC2 : Hid (Jn.piece Dg.sum p s = some x) := Lib.hid (by rw [HPR.out, if_pos ⟨by omega, by omega, he⟩])
      clear hhb he
      go_wp2_with fail
      have h9 := HRR.out _ C3.out
      rw [HC2.out] at h9
      try rw [HXE.out]
      exact h9
    · have z2 : (hb.toList == sb.toList) = false := by rw [str_eq hhb HSB.out]; exact decide_eq_false he
      have z3 : (!hb.toList == sb.toList) = true := by rw [z2]; rfl
      have HC2 : Hid (Jn.piece Dg.sum p s = none) := Lib.hid (by rw [HPR.out, if_neg (fun h => he h.2.2)])
      clear hhb he
      go_wp2_with fail
      have h9 := HRR.out _ C3.out
      rw [HC2.out] at h9
      exact h9
end Go.Proofs.YtpmkgedlnanjiaaGreatDoor
