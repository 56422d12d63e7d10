/-
  The reference of the digest (layer 2): the digest of a text.
-/
import Derived.Test.YtpeehlflhnhhjaaDoorRgC
namespace Go.Proofs.YtpeehlflhnhhjaaDoor
set_option linter.unusedVariables false
set_option linter.unusedSimpArgs false
open Go Go.RowKit Go.Shelf

theorem hex_str : ∀ d : Nat, d < 16 → (⟨#[48, 49, 50, 51, 52, 53, 54, 55, 56, 57, 97, 98, 99, 100, 101, 102]⟩ : ByteArray).extract d (d + 1) = ⟨[Dg.hexd d].toArray⟩ := by decide
set_option maxHeartbeats 2000000 in
theorem rsum_spec (w : World) (l : Bytes) (hl : l.length ≤ 4000000000000) :
    Calls Tryd.prog 36 #[.string ⟨l.toArray⟩] w fun e w' => e = .returned (.string ⟨(Dg.sum l).toArray⟩) ∧ w = w' := by
  have HSUM := Lib.hid (Dg.sum_st l)
  obtain ⟨n, hn⟩ : ∃ n, n = l.length := ⟨_, rfl⟩
  have HN := Lib.hid hn
  have hsz : (⟨l.toArray⟩ : ByteArray).size = n := by rw [Lib.size_eq, hn]
  have hn9 : n ≤ 4000000000000 := by omega
  clear hn hl
  go_enter Tryd.func36, Tryd.ntmps36
  go_wp2_with fail
  go_loop [3, 4] (fun s f => ∃ j : Nat, j ≤ n / 8 + 1 ∧ f = .int .i64 ((8 * j : Nat) : Int) ∧ s = .int .u64 (Dg.st l j : Nat)) (fun _ f => n + 9 - (intOf f).toNat)
  case atStart => exact ⟨0, Nat.zero_le _, rfl, rfl⟩
  case round =>
    obtain ⟨j, hj, rfl, rfl⟩ := hrel
    obtain ⟨fr, hfr⟩ : ∃ fr, fr = 8 * j := ⟨_, rfl⟩
    rw [← hfr]
    have HFR := Lib.hid hfr
    have hst := Dg.st_lt l j
    obtain ⟨S, hS⟩ : ∃ S, S = Dg.st l j := ⟨_, rfl⟩
    rw [← hS] at hst ⊢
    have HS := Lib.hid hS
    by_cases hle : fr ≤ n
    · have hle2 : (fr : Int) ≤ (n : Int) := by omega
      clear hfr hS
      go_wp2_with fail
      go_loop [5, 6] (fun b i => ∃ (k : Nat) (z : Int), k ≤ 8 ∧ z = 7 - (k : Int) ∧ i = .int .i64 z ∧ b = .int .u64 (Dg.V l fr k : Nat)) (fun _ i => (intOf i + 1).toNat)
      case atStart => exact ⟨0, 7, by omega, by omega, rfl, rfl⟩
      case round =>
        obtain ⟨k, z, hk, hz, rfl, rfl⟩ := hrel
        by_cases hk8 : k < 8
        · obtain ⟨ii, hii⟩ : ∃ ii : Nat, z = (ii : Int) := ⟨7 - k, by omega⟩
          subst hii
          have hki : ii = 7 - k := by omega
          have hV := Dg.V_lt l fr k
          have hV7 : Dg.V l fr k < 72057594037927936 := Nat.lt_of_lt_of_le hV (Nat.le_trans (Nat.pow_le_pow_right (by decide) (show k ≤ 7 by omega)) (by decide))
          have HVS : Hid (Dg.V l fr (k + 1) = Dg.V l fr k * 256 + Dg.cs l (fr + ii)) := Lib.hid (by rw [Dg.V, ← hki])
          have hcl := Dg.cs_lt l (fr + ii)
          obtain ⟨x, hx⟩ : ∃ x, x = Dg.V l fr k := ⟨_, rfl⟩
          obtain ⟨cx, hcx⟩ : ∃ cx, cx = Dg.cs l (fr + ii) := ⟨_, rfl⟩
          rw [← hx] at hV7 HVS ⊢
          rw [← hcx] at hcl HVS
          have HCX := Lib.hid hcx
          have hw1 : IntKind.u64.wrap ((x : Int) * 256) = ((x * 256 : Nat) : Int) := by rw [IntWalk.u64_in _ (by omega)]; omega
          have hii0 : (0 : Int) ≤ (ii : Int) := by omega
          have hii7 : ii ≤ 7 := by omega
          have HKI := Lib.hid hki
          clear hV hx hcx hki hz
          by_cases hlt : fr + ii < n
          · have hb : (fr : Int) + (ii : Int) < (n : Int) := by omega
            have hne : ((fr : Int) + (ii : Int) == (n : Int)) = false := by rw [beq_eq_false_iff_ne]; omega
            obtain ⟨bx, hbx⟩ : ∃ bx, l[fr + ii]? = some bx := ⟨l[fr + ii]'(by rw [← HN.out]; exact hlt), by simp⟩
            have HC : Hid (cx = bx.toNat) := Lib.hid (by
              rw [HCX.out]
              unfold Dg.cs
              rw [if_pos (by rw [← HN.out]; exact hlt), List.getD_eq_getElem?_getD, hbx]
              rfl)
            have HBX := Lib.hid hbx
            have hbl := bx.toNat_lt
            clear hbx
            go_wp2_with fail
            refine ⟨⟨k + 1, (ii : Int) - 1, by omega, by have := HKI.out; omega, rfl, ?_⟩, by simp [intOf]⟩
            rw [byte_of HBX.out, IntWalk.u64_in (bx.toNat : Int) (by omega), IntWalk.u64_in _ (by omega), HVS.out, HC.out]
            exact vint (by omega)
          · have hb : ¬ (fr : Int) + (ii : Int) < (n : Int) := by omega
            by_cases heq : fr + ii = n
            · have hne : ((fr : Int) + (ii : Int) == (n : Int)) = true := by rw [beq_iff_eq]; omega
              have HC : Hid (cx = 1) := Lib.hid (by
                rw [HCX.out]
                unfold Dg.cs
                rw [if_neg (by rw [← HN.out]; exact hlt), if_pos (by rw [← HN.out]; exact heq)])
              clear heq
              go_wp2_with fail
              refine ⟨⟨k + 1, (ii : Int) - 1, by omega, by have := HKI.out; omega, rfl, ?_⟩, by simp [intOf]⟩
              rw [HVS.out, HC.out]
              exact vint (by omega)
            · have hne : ((fr : Int) + (ii : Int) == (n : Int)) = false := by rw [beq_eq_false_iff_ne]; omega
              have HC : Hid (cx = 0) := Lib.hid (by
                rw [HCX.out]
                unfold Dg.cs
                rw [if_neg (by rw [← HN.out]; exact hlt), if_neg (by rw [← HN.out]; exact heq)])
              clear heq
              go_wp2_with fail
              refine ⟨⟨k + 1, (ii : Int) - 1, by omega, by have := HKI.out; omega, rfl, ?_⟩, by simp [intOf]⟩
              rw [HVS.out, HC.out]
              exact vint (by omega)
        · have hk9 : k = 8 := by omega
          subst hk9
          have hz1 : z < 0 := by omega
          have hV := Dg.V_lt l fr 8
          have hV9 : Dg.V l fr 8 < 18446744073709551616 := Nat.lt_of_lt_of_le hV (by decide)
          have hxx := bits_xor_u64_nat S (Dg.V l fr 8) hst hV9
          have hxl := Dg.xor_lt hst hV9
          have HNX : Hid (Dg.mx (S ^^^ Dg.V l fr 8) = Dg.st l (j + 1)) := Lib.hid (by rw [Dg.st, ← HS.out, ← HFR.out])
          obtain ⟨X, hX⟩ : ∃ X, X = S ^^^ Dg.V l fr 8 := ⟨_, rfl⟩
          rw [← hX] at hxx hxl HNX
          clear hV hz hX
          go_wp2_with fail
          refine (mix_spec _ X hxl).mono ?_
          rintro e w2 ⟨rfl, rfl⟩
          rw [HNX.out]
          go_wp2_with fail
          have hj2 : j + 1 ≤ n / 8 + 1 := by have := HFR.out; omega
          refine ⟨⟨j + 1, hj2, vint (by rw [HFR.out]; omega), rfl⟩, by simp [intOf]; omega⟩
    · have hle2 : ¬ (fr : Int) ≤ (n : Int) := by omega
      have hjn : j = n / 8 + 1 := by omega
      have HT : Hid (Dg.sum l = Dg.text S) := Lib.hid (by rw [HSUM.out, hS, hjn, HN.out])
      have htl : (Dg.text S).length = 16 := by unfold Dg.text; simp
      obtain ⟨tx, htx⟩ : ∃ tx, tx = Dg.text S := ⟨_, rfl⟩
      have HTD : Hid (∀ i, i < 16 → tx.drop (16 - (i + 1)) = Dg.hexd ((S / 16 ^ i) % 16) :: tx.drop (16 - i)) := Lib.hid (fun i hi => by rw [htx]; exact Dg.text_drop S i hi)
      rw [← htx] at HT htl
      have HTL := Lib.hid htl
      clear hfr hS hjn htl htx
      go_wp2_with fail
      go_loop [3, 7, 8] (fun s t i => ∃ (k : Nat) (r : Nat), k ≤ 16 ∧ i = .int .i64 (k : Int) ∧ t = .string ⟨(tx.drop (16 - k)).toArray⟩ ∧ s = .int .u64 (r : Int) ∧ r = S / 16 ^ k ∧ r < 18446744073709551616) (fun _ _ i => 16 - (intOf i).toNat)
      case atStart => exact ⟨0, S, by omega, rfl, by rw [show 16 - 0 = tx.length by rw [HTL.out], List.drop_length], rfl, by simp, hst⟩
      case round =>
        obtain ⟨k, r, hk, rfl, rfl, rfl, hr, hrl⟩ := hrel
        by_cases hk16 : k < 16
        · have hd := hex_str (r % 16) (Nat.mod_lt _ (by decide))
          have hrs := HTD.out k hk16
          rw [← hr] at hrs
          have HR := Lib.hid hr
          have hr0 : (0 : Int) ≤ (r : Int) := by omega
          have hdl : (tx.drop (16 - k)).length = k := by rw [List.length_drop, HTL.out]; omega
          obtain ⟨tl, htl⟩ : ∃ tl, tl = tx.drop (16 - k) := ⟨_, rfl⟩
          rw [← htl] at hdl hrs ⊢
          have HRS := Lib.hid hrs
          have htl9 : tl.length ≤ 16 := by omega
          have hsz2 : ¬ 9223372036854775807 < 1 + tl.length := by omega
          clear hrs hr hdl htl
          go_wp2_with fail
          refine ⟨⟨k + 1, r / 16, by omega, by go_num, ?_, vint (by omega), ?_, by omega⟩, by simp [intOf]; omega⟩
          · rw [HRS.out]
            exact congrArg Value.string (join2 [Dg.hexd (r % 16)] tl)
          · rw [HR.out, Nat.pow_succ, Nat.div_div_eq_div_mul]
        · have hkk : k = 16 := by omega
          subst hkk
          rw [show 16 - 16 = 0 from rfl, List.drop_zero]
          clear hr
          go_wp2_with fail
          go_ret
          exact ⟨by rw [HT.out]; rfl, rfl⟩
end Go.Proofs.YtpeehlflhnhhjaaDoor
