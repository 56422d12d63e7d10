/-
  Journal: whether one of some texts is too long.
-/
import Derived.Test.YtpmkgedlnanjiaaGreatDoorJoE
namespace Go.Proofs.YtpmkgedlnanjiaaGreatDoor
set_option linter.unusedVariables false
set_option linter.unusedSimpArgs false
set_option maxRecDepth 100000
open Go Go.RowKit
attribute [local irreducible] Go.wpStill
theorem long_r {w : World} (s : Bytes) {R : Ending → World → Prop} (h : R (.returned (.bool (decide (2000 < s.length)))) w) :
    Calls Tryz.prog 46 #[.string ⟨s.toArray⟩] w R := by
  have HRR := Lib.hid h
  clear h
  obtain ⟨sb, hsb⟩ : ∃ z : ByteArray, z = ⟨s.toArray⟩ := ⟨_, rfl⟩
  obtain ⟨n, hn⟩ : ∃ n, n = s.length := ⟨_, rfl⟩
  have hsz : sb.size = n := by rw [hsb, hn]; rfl
  rw [← hsb]
  have HN := Lib.hid hn
  rw [← hn] at HRR
  clear hsb hn
  go_enter Tryz.func46, Tryz.ntmps46
  by_cases hc : 2000 < n
  · rw [decide_eq_true hc] at HRR
    have z1 : (2000 : Int) < (n : Int) := by omega
    go_wp2_with fail
    exact HRR.out
  · rw [decide_eq_false hc] at HRR
    have z1 : ¬ (2000 : Int) < (n : Int) := by omega
    go_wp2_with fail
    exact HRR.out
set_option maxHeartbeats 1000000 in
theorem index_r {w : World} (v : Value) (l : List Bytes) (HV : Hid (Strs w v l)) (hl : l.length ≤ 1000000) {R : Ending → World → Prop} (h : ∀ z : Int, (0 ≤ z ↔ l.any (fun r => decide (2000 < r.length)) = true) → z ≤ 1000000 → -1 ≤ z → R (.returned (.int .i64 z)) w) :
    Calls Tryz.prog 79 #[v, .func (.func 46) #[] #[]] w R := by
  have HRR := Lib.hid h
  clear h
  obtain ⟨ao, cap, rfl, hle, hv⟩ := HV.out
  have HE := Lib.hid hv
  obtain ⟨n, hn⟩ : ∃ n, n = l.length := ⟨_, rfl⟩
  rw [← hn] at hl hle ⊢
  have HN := Lib.hid hn
  clear hv hn HV
  go_enter Tryz.func79, Tryz.ntmps79
  go_wp2_with fail
  go_loopw [8] (fun iv wr => ∃ k : Nat, k ≤ n ∧ iv = .int .i64 (k : Int) ∧ wr = w ∧ Hid ((l.take k).any (fun r => decide (2000 < r.length)) = false)) (fun iv _ => n - (intOf iv).toNat)
  case atStart => exact ⟨0, Nat.zero_le _, rfl, rfl, Lib.hid rfl⟩
  case round =>
    obtain ⟨k, hk, rfl, rfl, HA⟩ := hrel
    by_cases hlt : k < n
    · obtain ⟨x, hx⟩ : ∃ x, l[k]? = some x := ⟨l[k]'(by rw [← HN.out]; exact hlt), by simp⟩
      obtain ⟨g, off, rfl, hc⟩ := HE.out k x hx
      have z0 : (0 : Int) ≤ (k : Int) := by omega
      have z1 : (k : Int) < (n : Int) := by omega
      have z2 : (k : Int) ≤ (cap : Int) := by omega
      have HX := Lib.hid hx
      clear hx
      go_wp2_with fail
      refine long_r x ?_
      by_cases hx9 : 2000 < x.length
      · have HX9 := Lib.hid hx9
        rw [decide_eq_true hx9]
        clear hx9
        go_wp2_with fail
        refine HRR.out (k : Int) ⟨fun _ => List.any_eq_true.2 ⟨x, List.mem_of_getElem? HX.out, decide_eq_true HX9.out⟩, fun _ => by omega⟩ (by omega) (by omega)
      · have HX9 := Lib.hid hx9
        rw [decide_eq_false hx9]
        clear hx9
        go_wp2_with fail
        go_roundw
        case rel => exact ⟨k + 1, by omega, by go_num, trivial, Lib.hid (by rw [List.take_add_one, HX.out, List.any_append, HA.out]; simpa using HX9.out)⟩
        case measure => simp [intOf]; omega
    · have hkn : k = n := by omega
      subst hkn
      go_wp2_with fail
      refine HRR.out (-1) ⟨fun h => by omega, fun h => ?_⟩ (by omega) (by omega)
      have h1 := HA.out
      rw [HN.out, List.take_length, h] at h1
      cases h1
theorem contains_r {w : World} (v : Value) (l : List Bytes) (HV : Hid (Strs w v l)) (hl : l.length ≤ 1000000) {R : Ending → World → Prop} (h : R (.returned (.bool (l.any (fun r => decide (2000 < r.length))))) w) :
    Calls Tryz.prog 45 #[v, .func (.func 46) #[] #[]] w R := by
  have HRR := Lib.hid h
  clear h
  obtain ⟨bb, hb⟩ : ∃ b, b = l.any (fun r => decide (2000 < r.length)) := ⟨_, rfl⟩
  rw [← hb] at HRR
  have HB := Lib.hid hb
  clear hb
  go_enter Tryz.func45, Tryz.ntmps45
  go_wp2_with fail
  refine index_r v l HV hl (fun z hz h1 h2 => ?_)
  rw [← HB.out] at hz
  have HZ : Hid (decide (0 ≤ z) = bb) := Lib.hid (by
    cases bb with
    | true => exact decide_eq_true (hz.2 rfl)
    | false => exact decide_eq_false (fun h => by cases hz.1 h))
  clear hz
  go_wp2_with fail
  show R (.returned (.bool (decide (0 ≤ z)))) w
  rw [HZ.out]
  exact HRR.out
end Go.Proofs.YtpmkgedlnanjiaaGreatDoor
