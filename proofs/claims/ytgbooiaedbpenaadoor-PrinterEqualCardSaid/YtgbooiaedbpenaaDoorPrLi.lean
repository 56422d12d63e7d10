/-
  Printer, layer 22: what looks through the lines of a text.
-/
import Derived.Test.YtgbooiaedbpenaaDoorPrV
import Derived.Test.YtgbooiaedbpenaaDoorPrJ
import Derived.Deep.DeepCutAuto
namespace Go.Proofs.YtgbooiaedbpenaaDoor
set_option linter.unusedVariables false
set_option linter.unusedSimpArgs false
open Go Go.RowKit Go.Shelf
attribute [local irreducible] Go.wpStill

theorem cut_mid9 {s : Bytes} {sb : ByteArray} (HSB : Hid (sb = ⟨s.toArray⟩)) {i j : Nat} (h : i ≤ j) : sb.extract i j = ⟨((s.drop i).take (j - i)).toArray⟩ := by
  rw [HSB.out]
  refine ByteArray.ext ?_
  simp [ByteArray.data_extract, List.extract_toArray, List.extract_eq_take_drop]
theorem byte_ne {sb : ByteArray} {s : Bytes} (HSB : Hid (sb = ⟨s.toArray⟩)) {k : Nat} (h : k < sb.size) {c : UInt8} {d : UInt8} (hc : s[k]? = some c) (hd : c ≠ d) : ((sb[k].toNat : Int) == (d.toNat : Int)) = false := by
  obtain ⟨hk, e⟩ := List.getElem?_eq_some_iff.1 hc
  rw [sb_get HSB h hk, e, beq_eq_false_iff_ne]
  intro h1
  exact hd (UInt8.toNat_inj.1 (by omega))
theorem byte_eq {sb : ByteArray} {s : Bytes} (HSB : Hid (sb = ⟨s.toArray⟩)) {k : Nat} (h : k < sb.size) {c : UInt8} (hc : s[k]? = some c) : ((sb[k].toNat : Int) == (c.toNat : Int)) = true := by
  obtain ⟨hk, e⟩ := List.getElem?_eq_some_iff.1 hc
  rw [sb_get HSB h hk, e]
  exact beq_self_eq_true _
set_option maxHeartbeats 4000000 in
set_option maxRecDepth 100000 in
theorem lines_r {w : World} (l : List (Nat × Bytes)) (n : Nat) (HN : Hid ((Pr.full l).length = n)) (hn : n ≤ 1000000) (HLG : Hid (∀ x ∈ l, Pr.Lg x.2)) (HDP : Hid (Pr.Dp 0 l 0)) {R : Ending → World → Prop} (hR : R (.returned (.bool true)) w) :
    Calls Tryd.prog 15 #[.string ⟨(Pr.full l).toArray⟩] w R := by
  have HRR := hd hR
  clear hR
  obtain ⟨s, hs⟩ : ∃ z, z = Pr.full l := ⟨_, rfl⟩
  obtain ⟨sb, hsb⟩ : ∃ sb : ByteArray, sb = ⟨s.toArray⟩ := ⟨_, rfl⟩
  rw [← hs] at HN ⊢
  rw [← hsb]
  have HSB := hd hsb
  have HS := hd hs
  have HSZ : Hid (sb.size = n) := hd (by rw [hsb, size_of9]; exact HN.out)
  clear hs hsb
  go_enter Tryd.func15, Tryd.ntmps15
  go_wp2_with fail
  go_loop [3, 4, 5] (fun ov fv iv => ∃ (p q : List (Nat × Bytes)) (a f i : Nat), ov = .int .i64 (a : Int) ∧ fv = .int .i64 (f : Int) ∧ iv = .int .i64 (i : Int) ∧ f ≤ i ∧ i ≤ n ∧ Hid (Pr.LAt l p q a) ∧ Hid (f = (Pr.full p).length) ∧ Hid (∀ x q', q = x :: q' → i - f ≤ (Pr.lineT x).length)) (fun _ _ iv => n - intN iv)
  case atStart => exact ⟨[], l, 0, 0, 0, rfl, rfl, rfl, Nat.le_refl _, Nat.zero_le _, hd (Pr.LAt.start HLG.out HDP.out), hd rfl, hd (fun x q' _ => by simp)⟩
  case round =>
    obtain ⟨p, q, a, f, i, rfl, rfl, rfl, hfi, hin, HLA, HF, HK⟩ := hrel
    by_cases hlt : i < n
    · cases q with
      | nil =>
        exfalso
        have h1 := HLA.out.nil.2
        rw [← HS.out] at h1
        have h2 := HN.out
        have h3 := HF.out
        rw [h1] at h2
        omega
      | cons x q' =>
        have HE : Hid (s = Pr.full p ++ (Pr.lineT x ++ 10 :: Pr.full q')) := hd (by rw [HS.out]; exact HLA.out.cons)
        obtain ⟨h1, h2, h3, h4⟩ := HLA.out.step
        have HA := hd h1
        have HLK := hd h2
        have HNE := hd h3
        have HNX := hd h4
        have hk := HK.out x q' rfl
        clear h1 h2 h3 h4 HK
        obtain ⟨L, hL⟩ : ∃ z, z = Pr.lineT x := ⟨_, rfl⟩
        rw [← hL] at HE HLK hk
        have HLT := hd hL
        clear hL
        obtain ⟨m, hm⟩ : ∃ z, z = L.length := ⟨_, rfl⟩
        rw [← hm] at hk
        have HM := hd hm
        clear hm
        have r1 : (i : Int) < (sb.size : Int) := by rw [HSZ.out]; omega
        have r0 : (0 : Int) ≤ (i : Int) := by omega
        have hkk : i < sb.size := by rw [HSZ.out]; exact hlt
        have HIB := hd hkk
        by_cases hkm : i - f < m
        · have hg : s[i]? = L[i - f]? := by
            rw [HE.out, List.getElem?_append_right (by rw [← HF.out]; exact hfi), ← HF.out, List.getElem?_append_left (by rw [← HM.out]; exact hkm)]
          obtain ⟨c, hc⟩ : ∃ c, L[i - f]? = some c := ⟨L[i - f]'(by rw [← HM.out]; exact hkm), by simp⟩
          rw [hc] at hg
          have b1 : ((sb[i].toNat : Int) == 10) = false := byte_ne HSB HIB.out hg (d := 10) (HLK.out.nl _ _ hc)
          have b2 : ¬ (sb[i].toNat : Int) = 10 := by rw [beq_eq_false_iff_ne] at b1; exact b1
          clear hg hc
          go_wp2_with fail
          go_round
          case rel => exact ⟨p, x :: q', a, f, i + 1, rfl, rfl, vint (by omega), by omega, by omega, HLA, HF, hd (fun y r e => by cases e; rw [← HLT.out, ← HM.out]; omega)⟩
          case measure => simp [intN]; omega
        · have him : i = f + m := by omega
          have hg : s[i]? = some 10 := by
            rw [HE.out, List.getElem?_append_right (by rw [← HF.out]; exact hfi), ← HF.out, List.getElem?_append_right (by rw [← HM.out]; omega), ← HM.out, show i - f - m = 0 by omega]
            rfl
          have b1 : ((sb[i].toNat : Int) == 10) = true := byte_eq HSB HIB.out hg
          have b2 : (sb[i].toNat : Int) = 10 := by rw [beq_iff_eq] at b1; exact b1
          have HLX : Hid (sb.extract f i = ⟨L.toArray⟩) := hd (by
            rw [cut_mid9 HSB hfi, HE.out, HF.out, List.drop_left]
            rw [show i - (Pr.full p).length = L.length by rw [← HF.out, ← HM.out]; omega, List.take_left])
          have HI := hd him
          have f1 : (f : Int) ≤ (i : Int) := by omega
          have f2 : (i : Int) ≤ (sb.size : Int) := by rw [HSZ.out]; omega
          clear hg him hkm
          go_upto_region 8 with (fail)
          rw [HLX.out]
          obtain ⟨lb, hlb⟩ : ∃ z : ByteArray, z = ⟨L.toArray⟩ := ⟨_, rfl⟩
          rw [← hlb]
          have HLB := hd hlb
          have hm0 : 0 < m := by have h1 := HLK.out.lt; have h2 := HM.out; omega
          obtain ⟨m1, hm1⟩ : ∃ z, m = z + 1 := ⟨m - 1, by omega⟩
          have hz : lb.size = m1 + 1 := by rw [hlb, size_of9, ← HM.out, hm1]
          have HZ := hd hz
          have HM1 := hd hm1
          have hd0 : x.1 ≤ m1 := by have h1 := HLK.out.lt; have h2 := HM.out; omega
          have hmb : m1 ≤ 1000000 := by have h1 := HI.out; omega
          have g1 : m1 < lb.size := by omega
          clear hlb hm1 b1 b2
          have he : lb.toList.isEmpty = false := by
            rw [HLB.out, ByteArray.toList_mk]
            cases L with
            | nil => exact absurd HM.out (by simp only [List.length_nil]; omega)
            | cons c r => rfl
          have HLL : Hid (L[m1]? = some (L[m1]'(by have h1 := HM1.out; rw [← HM.out]; omega))) := hd (by simp)
          obtain ⟨cl, hcl⟩ : ∃ c, c = L[m1]'(by have h1 := HM1.out; rw [← HM.out]; omega) := ⟨_, rfl⟩
          rw [← hcl] at HLL
          clear hcl
          have HCL : Hid (x.2.getLast? = some cl ∧ cl ≠ 32) := hd ⟨by
            have h1 := Pr.lineT_last HNE.out
            rw [← HLT.out, ← HM.out, HM1.out, Nat.add_sub_cancel, HLL.out] at h1
            exact h1.symm, HLK.out.last _ (by rw [← HM.out, HM1.out, Nat.add_sub_cancel]; exact HLL.out)⟩
          have G1 := hd g1
          obtain ⟨d, hdd⟩ : ∃ d, d = x.1 := ⟨_, rfl⟩
          rw [← hdd] at hd0 HA HLK
          have HD := hd hdd
          clear hdd
          have ha1 : a ≤ d + 1 := by have h1 := HA.out; split at h1 <;> omega
          go_upto_if 32 with (fail)
          go_cut [3] (fun s3 wx => wx = w ∧ s3 = .int .i64 (d : Int))
          case first =>
            by_cases hc : cl = 125
            · have e1 : ((lb[m1].toNat : Int) == 125) = true := byte_eq HLB G1.out (c := 125) (by rw [HLL.out, hc])
              have e2 : (lb[m1].toNat : Int) = 125 := by rw [beq_iff_eq] at e1; exact e1
              have h1 := HA.out
              rw [HCL.out.1, hc, if_pos rfl] at h1
              subst h1
              clear hc
              go_wp2_with fail
              go_meet
              exact ⟨rfl, vint (by omega)⟩
            · have e1 : ((lb[m1].toNat : Int) == 125) = false := byte_ne HLB G1.out HLL.out (d := 125) hc
              have e2 : ¬ (lb[m1].toNat : Int) = 125 := by rw [beq_eq_false_iff_ne] at e1; exact e1
              have h1 := HA.out
              rw [HCL.out.1, if_neg (by simpa using hc)] at h1
              subst h1
              clear hc
              go_wp2_with fail
              go_meet
              exact ⟨rfl, rfl⟩
          case rest =>
            obtain ⟨hw, h3⟩ := hcut
            subst h3
            subst hw
            clear ha1
            go_wp2_with fail
            go_loop [7] (fun jv => ∃ j : Nat, jv = .int .i64 (j : Int) ∧ j ≤ d) (fun jv => d - intN jv)
            case atStart => exact ⟨0, rfl, Nat.zero_le _⟩
            case round =>
              obtain ⟨j, rfl, hj⟩ := hrel
              have j1 : (j : Int) < (lb.size : Int) := by rw [HZ.out]; omega
              have j0 : (0 : Int) ≤ (j : Int) := by omega
              have j2 : j < lb.size := by rw [HZ.out]; omega
              by_cases hjd : j < d
              · have e1 : ((lb[j].toNat : Int) == 9) = true := byte_eq HLB j2 (HLK.out.tab j hjd)
                have e2 : (lb[j].toNat : Int) = 9 := by rw [beq_iff_eq] at e1; exact e1
                go_wp2_with fail
                go_round
                case rel => exact ⟨j + 1, vint (by omega), by omega⟩
                case measure => simp [intN]; omega
              · obtain ⟨rfl⟩ : j = d := by omega
                obtain ⟨c, hc⟩ : ∃ c, L[d]? = some c := ⟨L[d]'(HLK.out.lt), by simp⟩
                have hce := HLK.out.end_ c hc
                have e1 : ((lb[d].toNat : Int) == 9) = false := byte_ne HLB j2 hc (d := 9) hce.1
                have e2 : ¬ (lb[d].toNat : Int) = 9 := by rw [beq_eq_false_iff_ne] at e1; exact e1
                have e3 : ((lb[d].toNat : Int) == 32) = false := byte_ne HLB j2 hc (d := 32) hce.2
                have e4 : ¬ (lb[d].toNat : Int) = 32 := by rw [beq_eq_false_iff_ne] at e3; exact e3
                have e5 : ((lb[m1].toNat : Int) == 32) = false := byte_ne HLB G1.out HLL.out (d := 32) HCL.out.2
                have e6 : ¬ (lb[m1].toNat : Int) = 32 := by rw [beq_eq_false_iff_ne] at e5; exact e5
                clear hc hce hjd
                go_upto_region 18 with (fail)
                clear e1 e2 e3 e4 e5 e6 j1 j2
                go_wp2_with fail
                go_loop [8] (fun kv => ∃ k : Nat, kv = .int .i64 (k : Int) ∧ d ≤ k ∧ k ≤ m1) (fun kv => m1 - intN kv)
                case atStart => exact ⟨d, rfl, Nat.le_refl _, hd0⟩
                case round =>
                  obtain ⟨k, rfl, hk1, hk2⟩ := hrel
                  by_cases hkm : k < m1
                  · have j1 : (k : Int) < (lb.size : Int) := by rw [HZ.out]; omega
                    have j0 : (0 : Int) ≤ (k : Int) := by omega
                    have j2 : k < lb.size := by rw [HZ.out]; omega
                    have j3 : (k : Int) + 1 < (lb.size : Int) := by rw [HZ.out]; omega
                    have j4 : k + 1 < lb.size := by rw [HZ.out]; omega
                    have hlen : L.length = m1 + 1 := by have h1 := HM1.out; rw [← HM.out]; exact h1
                    obtain ⟨c, hc⟩ : ∃ c, L[k]? = some c := ⟨L[k]'(by omega), by simp⟩
                    obtain ⟨e, hce⟩ : ∃ e, L[k + 1]? = some e := ⟨L[k + 1]'(by omega), by simp⟩
                    have hin := HLK.out.in_ k hk1 c e hc hce
                    have e1 : ((lb[k].toNat : Int) == 9) = false := byte_ne HLB j2 hc (d := 9) hin.1
                    have e2 : ¬ (lb[k].toNat : Int) = 9 := by rw [beq_eq_false_iff_ne] at e1; exact e1
                    by_cases hc32 : c = 32
                    · have e3 : ((lb[k].toNat : Int) == 32) = true := byte_eq HLB j2 (c := 32) (by rw [hc, hc32])
                      have e4 : (lb[k].toNat : Int) = 32 := by rw [beq_iff_eq] at e3; exact e3
                      have e5 : ((lb[k + 1].toNat : Int) == 32) = false := byte_ne HLB j4 hce (d := 32) (fun h => hin.2 ⟨hc32, h⟩)
                      have e6 : ¬ (lb[k + 1].toNat : Int) = 32 := by rw [beq_eq_false_iff_ne] at e5; exact e5
                      clear hc hce hin hc32 hlen
                      go_wp2_with fail
                      go_round
                      case rel => exact ⟨k + 1, vint (by omega), by omega, by omega⟩
                      case measure => simp [intN]; omega
                    · have e3 : ((lb[k].toNat : Int) == 32) = false := byte_ne HLB j2 hc (d := 32) hc32
                      have e4 : ¬ (lb[k].toNat : Int) = 32 := by rw [beq_eq_false_iff_ne] at e3; exact e3
                      clear hc hce hin hc32 hlen
                      go_wp2_with fail
                      go_round
                      case rel => exact ⟨k + 1, vint (by omega), by omega, by omega⟩
                      case measure => simp [intN]; omega
                  · have j1 : ¬ (k : Int) + 1 < (lb.size : Int) := by rw [HZ.out]; omega
                    by_cases hc : cl = 123
                    · have e1 : ((lb[m1].toNat : Int) == 123) = true := byte_eq HLB G1.out (c := 123) (by rw [HLL.out, hc])
                      have e2 : (lb[m1].toNat : Int) = 123 := by rw [beq_iff_eq] at e1; exact e1
                      have HND : Hid (Pr.nextD x = d + 1) := hd (by unfold Pr.nextD; rw [HCL.out.1, hc, if_pos rfl, ← HD.out])
                      clear hc
                      go_wp2_with fail
                      go_round
                      case rel => exact ⟨p ++ [x], q', d + 1, i + 1, i + 1, vint (by omega), vint (by omega), vint (by omega), Nat.le_refl _, by omega, hd (by have h9 := HNX.out; rw [HND.out] at h9; exact h9), hd (by
                        unfold Pr.full
                        rw [List.flatMap_append, List.length_append]
                        have h1 := HF.out
                        unfold Pr.full at h1
                        rw [← h1, List.flatMap_singleton, Pr.lineB_T, List.length_append, ← HLT.out, ← HM.out, List.length_singleton]
                        have h2 := HI.out
                        omega), hd (fun y r _ => by simp)⟩
                      case measure => simp [intN]; omega
                    · have e1 : ((lb[m1].toNat : Int) == 123) = false := byte_ne HLB G1.out HLL.out (d := 123) hc
                      have e2 : ¬ (lb[m1].toNat : Int) = 123 := by rw [beq_eq_false_iff_ne] at e1; exact e1
                      have HND : Hid (Pr.nextD x = d) := hd (by unfold Pr.nextD; rw [HCL.out.1, if_neg (by simpa using hc), ← HD.out])
                      clear hc
                      go_wp2_with fail
                      go_round
                      case rel => exact ⟨p ++ [x], q', d, i + 1, i + 1, vint (by omega), vint (by omega), vint (by omega), Nat.le_refl _, by omega, hd (by have h9 := HNX.out; rw [HND.out] at h9; exact h9), hd (by
                        unfold Pr.full
                        rw [List.flatMap_append, List.length_append]
                        have h1 := HF.out
                        unfold Pr.full at h1
                        rw [← h1, List.flatMap_singleton, Pr.lineB_T, List.length_append, ← HLT.out, ← HM.out, List.length_singleton]
                        have h2 := HI.out
                        omega), hd (fun y r _ => by simp)⟩
                      case measure => simp [intN]; omega
    · have HQ : Hid (q = []) := hd (by
        cases q with
        | nil => rfl
        | cons x q' =>
          exfalso
          have h1 := HLA.out.cons
          rw [← HS.out] at h1
          have h2 := HN.out
          have h3 := HF.out
          have h4 := HK.out x q' rfl
          rw [h1] at h2
          simp only [List.length_append, List.length_cons] at h2
          omega)
      have HQE : Hid (a = 0 ∧ f = n) := hd (by
        have h1 := HLA.out
        rw [HQ.out] at h1
        exact ⟨h1.nil.1, by rw [HF.out, ← HN.out, HS.out, h1.nil.2]⟩)
      have r1 : ¬ (i : Int) < (sb.size : Int) := by rw [HSZ.out]; omega
      have ha : a = 0 := HQE.out.1
      have hf : f = sb.size := by rw [HSZ.out]; exact HQE.out.2
      subst ha hf
      go_wp2_with fail
      exact HRR.out
end Go.Proofs.YtgbooiaedbpenaaDoor
