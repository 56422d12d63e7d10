/-
  Journal: heads read, sectors written.
-/
import Derived.Test.YtpmkgedlnanjiaaGreatDoorJoC
import Derived.Test.YtpmkgedlnanjiaaGreatDoorJnE
import Derived.Test.YtpmkgedlnanjiaaGreatDoorDkE
import Derived.Test.YtpmkgedlnanjiaaGreatDoorDkF
namespace Go.Proofs.YtpmkgedlnanjiaaGreatDoor
set_option linter.unusedVariables false
set_option linter.unusedSimpArgs false
set_option maxRecDepth 100000
open Go Go.RowKit
def cntV (o : Option Nat) : Int := match o with | some n => (n : Int) | none => -1
theorem cutMid44 {s : Bytes} {sb : ByteArray} (HSB : Hid (sb = ⟨s.toArray⟩)) (i j : Nat) (h : i ≤ j) : sb.extract i j = ⟨((s.drop i).take (j - i)).toArray⟩ := by
  rw [HSB.out]
  refine ByteArray.ext ?_
  simp [ByteArray.data_extract, List.extract_toArray, List.extract_eq_take_drop]
set_option maxHeartbeats 4000000 in
theorem count_r {w : World} (HL : Hid (Laid w)) (p room : Nat) (hp : p ≤ 1000) (hr : room ≤ 4000) (s : Bytes) (hs : s.length = 64) {R : Ending → World → Prop} (h : ∀ w', Chg [] w w' → R (.returned (.int .i64 (cntV (Jn.cnt Dg.sum p s room)))) w') :
    Calls Tryz.prog 34 #[.int .i64 (p : Int), .string ⟨s.toArray⟩, .int .i64 (room : Int)] w R := by
  have HRR := Lib.hid h
  clear h
  have HDS := Lib.hid Dg.sum_len
  obtain ⟨q, hq⟩ : ∃ q, q = cntV (Jn.cnt Dg.sum p s room) := ⟨_, rfl⟩
  rw [← hq] at HRR
  have HQ := Lib.hid hq
  clear hq
  go_enter Tryz.func34, Tryz.ntmps34
  go_wp2_with fail
  refine zero_r (fun w2 h2 => ?_)
  have C2 := Lib.hid h2
  clear h2
  by_cases hz : s = Jn.zero
  · have HF : Hid (q = 0) := Lib.hid (by rw [HQ.out]; unfold Jn.cnt; rw [if_pos hz]; rfl)
    have en : (s == Jn.zero) = true := by rw [hz]; exact beq_self_eq_true _
    clear hz
    go_wp2_with fail
    have h9 := HRR.out w2 C2.out
    rw [HF.out] at h9
    exact h9
  · have en : (s == Jn.zero) = false := by rw [beq_eq_false_iff_ne]; exact hz
    have HLIB : Hid (Jn.cnt Dg.sum p s room = (match Lib.atoiAll ((s.drop 16).take 8) with | .ok v => if 0 ≤ v ∧ v ≤ (room : Int) ∧ Jn.head Dg.sum p v.toNat = s then some v.toNat else none | _ => none)) := Lib.hid (Jn.cnt_lib HDS.out (by omega) hz)
    obtain ⟨sb, hsb⟩ : ∃ z : ByteArray, z = ⟨s.toArray⟩ := ⟨_, rfl⟩
    have HSB := Lib.hid hsb
    have hsz : sb.size = 64 := by rw [hsb]; exact hs
    go_upto_region 3 with (fail)
    rw [← hsb]
    clear en hsb hz
    go_wp2_with fail
    rw [show sb.extract 16 24 = ⟨((s.drop 16).take 8).toArray⟩ from cutMid44 HSB 16 24 (by decide)]
    obtain ⟨d, hd⟩ : ∃ d, d = (s.drop 16).take 8 := ⟨_, rfl⟩
    rw [← hd] at HLIB ⊢
    have hdl : d.length ≤ 8 := by rw [hd, List.length_take]; omega
    clear hd
    refine atoi_r (Lib.hid (HL.out.quiet C2.out)) d (by omega) (fun v w3 hv h3 => ?_) (fun nn T N w3 hv hnn h3 => ?_)
    · have C3 : Hid (Chg [] w w3) := Lib.hid (C2.out.trans h3 (by simp))
      have HV : Hid (q = cntV (if 0 ≤ v ∧ v ≤ (room : Int) ∧ Jn.head Dg.sum p v.toNat = s then some v.toNat else none)) := Lib.hid (by rw [HQ.out, HLIB.out, hv])
      have hvb := Lib.atoiAll_bounds hv
      clear h3 hv HLIB HQ
      by_cases hv0 : v < 0
      · have HF : Hid (q = -1) := Lib.hid (by rw [HV.out, if_neg (by omega)]; rfl)
        go_wp2_with fail
        have h9 := HRR.out w3 C3.out
        rw [HF.out] at h9
        exact h9
      by_cases hvr : (room : Int) < v
      · have HF : Hid (q = -1) := Lib.hid (by rw [HV.out, if_neg (by omega)]; rfl)
        go_wp2_with fail
        have h9 := HRR.out w3 C3.out
        rw [HF.out] at h9
        exact h9
      obtain ⟨m, rfl⟩ : ∃ m : Nat, v = (m : Int) := ⟨v.toNat, by omega⟩
      go_wp2_with fail
      refine head44_r (Lib.hid (HL.out.quiet C3.out)) p m (by omega) (by omega) (fun w4 h4 => ?_)
      have C4 : Hid (Chg [] w w4) := Lib.hid (C3.out.trans h4 (by simp))
      clear h4
      obtain ⟨hh, hhh⟩ : ∃ z : ByteArray, z = ⟨(Jn.head Dg.sum p m).toArray⟩ := ⟨_, rfl⟩
      rw [← hhh]
      have HH := Lib.hid hhh
      clear hhh
      by_cases hc : hh = sb
      · have HF : Hid (q = (m : Int)) := Lib.hid (by
          rw [HV.out, if_pos ⟨by omega, by omega, by
            have h8 := hc
            rw [HH.out, HSB.out] at h8
            injection h8 with h8
            rw [Int.toNat_natCast]
            exact List.toArray_inj h8⟩, Int.toNat_natCast]
          rfl)
        subst hc
        go_wp2_with fail
        have h9 := HRR.out w4 C4.out
        rw [HF.out] at h9
        exact h9
      · have HF : Hid (q = -1) := Lib.hid (by
          rw [HV.out, if_neg (fun h8 => hc (by rw [HH.out, HSB.out, ← h8.2.2, Int.toNat_natCast]))]
          rfl)
        have en : (hh.toList == sb.toList) = false := by
          rw [HH.out, HSB.out, ByteArray.toList_mk, ByteArray.toList_mk, beq_eq_false_iff_ne]
          intro e
          exact hc (by rw [HH.out, HSB.out, e])
        have fn : (hh.toList != sb.toList) = true := by simp [bne, en]
        go_wp2_with fail
        have h9 := HRR.out w4 C4.out
        rw [HF.out] at h9
        exact h9
    · have C3 : Hid (Chg [] w w3) := Lib.hid (C2.out.trans h3 (by simp))
      have HF : Hid (q = -1) := Lib.hid (by
        rw [HQ.out, HLIB.out]
        cases h9 : Lib.atoiAll d using num_cases with
        | ok v => exact absurd h9 (hv v)
        | bad => rfl
        | range => rfl)
      clear h3 hv hnn
      go_wp2_with fail
      have h9 := HRR.out w3 C3.out
      rw [HF.out] at h9
      exact h9
end Go.Proofs.YtpmkgedlnanjiaaGreatDoor
