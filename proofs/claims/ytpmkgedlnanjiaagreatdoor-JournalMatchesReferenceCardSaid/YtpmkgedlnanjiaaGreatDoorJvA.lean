/-
  Journal: the reference's text, pieces, and whether a record is too long.
-/
import Derived.Test.YtpmkgedlnanjiaaGreatDoorJpE
import Derived.Test.YtpmkgedlnanjiaaGreatDoorJtD
namespace Go.Proofs.YtpmkgedlnanjiaaGreatDoor
set_option linter.unusedVariables false
set_option linter.unusedSimpArgs false
set_option maxRecDepth 100000
open Go Go.RowKit
attribute [local irreducible] Go.wpStill
theorem rtext_r {w : World} (v : Value) (l : List Bytes) (HV : Hid (Strs w v l)) (hl : l.length ≤ 900) (HB : Hid (∀ x ∈ l, x.length ≤ 1000000)) {R : Ending → World → Prop} (h : ∀ w', Chg [] w w' → R (.returned (.string ⟨(Jn.text l).toArray⟩)) w') :
    Calls Tryz.prog 11 #[v] w R := by
  have HRR := Lib.hid h
  clear h
  obtain ⟨ao, cap, rfl, -, -⟩ := HV.out
  obtain ⟨n, hn⟩ : ∃ n, n = l.length := ⟨_, rfl⟩
  rw [← hn] at HV ⊢
  clear hn
  go_enter Tryz.func11, Tryz.ntmps11
  go_wp2_with fail
  refine (joined_spec w (.slice ao n cap) l HV hl HB).mono ?_
  rintro e w2 ⟨rfl, hc⟩
  have e9 : Dg.joined l = Jn.text l := rfl
  obtain ⟨t, ht⟩ : ∃ t, t = Dg.joined l := ⟨_, rfl⟩
  rw [← ht]
  rw [← e9, ← ht] at HRR
  clear ht e9
  go_wp2_with fail
  exact HRR.out _ hc
theorem rlong_r {w : World} (v : Value) (l : List Bytes) (HV : Hid (Strs w v l)) (hl : l.length ≤ 1000000) {R : Ending → World → Prop} (h : R (.returned (.bool (l.any (fun r => decide (2000 < r.length))))) w) :
    Calls Tryz.prog 12 #[v] w R := by
  have HRR := Lib.hid h
  clear h
  obtain ⟨ao, cap, rfl, hle, hv⟩ := HV.out
  have HE := Lib.hid hv
  obtain ⟨n, hn⟩ : ∃ n, n = l.length := ⟨_, rfl⟩
  rw [← hn] at hl hle ⊢
  have HN := Lib.hid hn
  clear hv hn HV
  go_enter Tryz.func12, Tryz.ntmps12
  go_wp2_with fail
  go_loopw [3] (fun iv wr => ∃ k : Nat, k ≤ n ∧ iv = .int .i64 (k : Int) ∧ wr = w ∧ Hid ((l.take k).any (fun r => decide (2000 < r.length)) = false)) (fun iv _ => n - (intOf iv).toNat)
  case atStart => exact ⟨0, Nat.zero_le _, rfl, rfl, Lib.hid rfl⟩
  case round =>
    obtain ⟨k, hk, rfl, rfl, HA⟩ := hrel
    by_cases hlt : k < n
    · obtain ⟨x, hx⟩ : ∃ x, l[k]? = some x := ⟨l[k]'(by rw [← HN.out]; exact hlt), by simp⟩
      obtain ⟨g, off, rfl, hc⟩ := HE.out k x hx
      have z0 : (0 : Int) ≤ (k : Int) := by omega
      have z1 : (k : Int) < (n : Int) := by omega
      have HX := Lib.hid hx
      obtain ⟨sb, hsb⟩ : ∃ z : ByteArray, z = ⟨x.toArray⟩ := ⟨_, rfl⟩
      obtain ⟨m, hm⟩ : ∃ n, n = x.length := ⟨_, rfl⟩
      have hsz : sb.size = m := by rw [hsb, hm]; rfl
      rw [← hsb] at hc
      have HM := Lib.hid hm
      clear hx hsb hm
      by_cases h2 : 2000 < m
      · have z2 : (2000 : Int) < (m : Int) := by omega
        go_wp2_with fail
        have h9 := HRR.out
        rw [show l.any (fun r => decide (2000 < r.length)) = true from List.any_eq_true.2 ⟨x, List.mem_of_getElem? HX.out, decide_eq_true (by rw [← HM.out]; exact h2)⟩] at h9
        exact h9
      · have z2 : ¬ (2000 : Int) < (m : Int) := by omega
        go_wp2_with fail
        go_roundw
        case rel => exact ⟨k + 1, by omega, by go_num, trivial, Lib.hid (by rw [List.take_add_one, HX.out, List.any_append, HA.out]; simp only [Option.toList_some, List.any_cons, List.any_nil, Bool.or_false, Bool.false_or, decide_eq_false_iff_not]; rw [← HM.out]; exact h2)⟩
        case measure => simp [intOf]; omega
    · have hkn : k = n := by omega
      subst hkn
      go_wp2_with fail
      have h9 := HRR.out
      have h1 := HA.out
      rw [HN.out, List.take_length] at h1
      rw [h1] at h9
      exact h9
set_option maxHeartbeats 2000000 in
theorem rpieces_r {w : World} (s : Bytes) (hs : s.length ≤ 1000000) {R : Ending → World → Prop} (h : ∀ v w', OwT w.heap.size (Jn.pieces s) v w' → Chg [] w w' → R (.returned v) w') :
    Calls Tryz.prog 10 #[.string ⟨s.toArray⟩] w R := by
  have HRR := Lib.hid h
  clear h
  obtain ⟨B, hB⟩ : ∃ B, B = w.heap.size := ⟨_, rfl⟩
  have HBB := Lib.hid hB
  rw [← hB] at HRR
  obtain ⟨sb, hsb⟩ : ∃ z : ByteArray, z = ⟨s.toArray⟩ := ⟨_, rfl⟩
  obtain ⟨n, hn⟩ : ∃ n, n = s.length := ⟨_, rfl⟩
  have hsz : sb.size = n := by rw [hsb, hn]; rfl
  have HSB := Lib.hid hsb
  have HN := Lib.hid hn
  rw [← hsb]
  rw [← hn] at hs
  clear hB hsb hn
  go_enter Tryz.func10, Tryz.ntmps10
  go_wp2_with fail
  go_loopw [3, 4] (fun vv fv wr => ∃ (f : Nat) (ps : List Bytes) (ao : Option Addr) (cp : Nat), fv = .int .i64 (f : Int) ∧ vv = .slice ao ps.length cp ∧ f ≤ n + 45 ∧ ps.length ≤ f ∧ Hid (OwT B ps (.slice ao ps.length cp) wr) ∧ Hid (Chg [] w wr) ∧ Hid (Jn.pieces s = ps ++ Jn.pieces (s.drop f))) (fun _ fv _ => n + 50 - (intOf fv).toNat)
  case atStart => exact ⟨0, [], none, 0, rfl, rfl, by omega, by simp, Lib.hid (OwT.nil _ _), Lib.hid (Chg.refl _ _), Lib.hid rfl⟩
  case round =>
    obtain ⟨f, ps, ao, cp, rfl, rfl, hf, hpf, HO, HC, HP⟩ := hrel
    by_cases hlt : f < n
    · obtain ⟨m, hm⟩ : ∃ m : Nat, m = min (f + 46) n := ⟨_, rfl⟩
      have z0 : (0 : Int) ≤ (f : Int) := by omega
      have z1 : (f : Int) < (n : Int) := by omega
      have y1 : IntKind.i64.wrap ((f : Int) + 46) = ((f + 46 : Nat) : Int) := by rw [IntWalk.i64_in _ (by omega)]; omega
      have y2 : min (((f + 46 : Nat) : Int)) (n : Int) = (m : Int) := by omega
      have hmm : min ((f : Int) + 46) (n : Int) = (m : Int) := by omega
      have q0 : (f : Int) ≤ (m : Int) := by omega
      have q1 : (m : Int) ≤ (n : Int) := by omega
      have HX : Hid (sb.extract f m = ⟨((s.drop f).take 46).toArray⟩) := Lib.hid (by
        rw [cutMid44 HSB f m (by omega)]
        by_cases h6 : f + 46 ≤ n
        · rw [show m - f = 46 by omega]
        · rw [List.take_of_length_le (by rw [List.length_drop, ← HN.out]; omega), List.take_of_length_le (by rw [List.length_drop, ← HN.out]; omega)])
      have HST : Hid (Jn.pieces (s.drop f) = (s.drop f).take 46 :: Jn.pieces (s.drop (f + 46))) := Lib.hid (by
        rw [Jn.pieces_cons (by intro e; have := congrArg List.length e; rw [List.length_drop, ← HN.out] at this; simp at this; omega), List.drop_drop])
      obtain ⟨x, hx⟩ : ∃ x, x = (s.drop f).take 46 := ⟨_, rfl⟩
      rw [← hx] at HX HST
      obtain ⟨xb, hxb⟩ : ∃ xb, xb = sb.extract f m := ⟨_, rfl⟩
      have HXB : Hid (xb = ⟨x.toArray⟩) := Lib.hid (by rw [hxb, HX.out])
      have HCW : Hid (Chg [] wr (wr.alloc (.cells #[.string xb] 9))) := Lib.hid ((Chg.refl _ _).alloc _)
      have HXS : Hid (Strs (wr.alloc (.cells #[.string xb] 9)) (.slice (some ⟨wr.heap.size, 0, none⟩) 1 1) [x]) := Lib.hid (by rw [HXB.out]; exact strs_one wr x)
      have HOX := Lib.hid (HO.out.keep HCW.out (by simp))
      have HBA : Hid (B ≤ (wr.alloc (.cells #[.string xb] 9)).heap.size) := Lib.hid (by have h1 := HC.out.size; have h2 := HBB.out; have h3 := HCW.out.size; omega)
      clear hx hm
      rw [hxb] at HCW HXS HOX HBA
      clear hxb
      go_wp2_with (at_builtin; go_loud (refine wpList_strs rfl (.tmp 11) (.tmp 20) rfl B ps (.slice ao ps.length cp) (by rfl) HOX.out [x] (.slice (some ⟨wr.heap.size, 0, none⟩) 1 1) (by rfl) HXS.out (by simp only [List.length_singleton]; omega) HBA.out ?kk))
      case kk =>
        intro v9 w9 h5 h6 h7
        have HO9 : Hid (OwT B (ps ++ [x]) v9 w9) := Lib.hid h5
        obtain ⟨a9, c9, rfl⟩ := h5.form
        have C9 : Hid (Chg [] w w9) := Lib.hid ((HC.out.trans HCW.out (by simp)).trans h6 (fun q hq => .inr (by have := (HOX.out.ge q (Option.mem_toList.1 hq)).1; rw [← HBB.out]; exact this)))
        have HP9 : Hid (Jn.pieces s = (ps ++ [x]) ++ Jn.pieces (s.drop (f + 46))) := Lib.hid (by rw [HP.out, HST.out, List.append_assoc]; rfl)
        have HPL : Hid ((ps ++ [x]).length ≤ f + 46) := Lib.hid (by rw [List.length_append, List.length_singleton]; omega)
        clear h5 h6 h7
        obtain ⟨p2, hp2⟩ : ∃ z, z = ps ++ [x] := ⟨_, rfl⟩
        rw [← hp2] at HO9 HP9 HPL ⊢
        clear hp2
        go_wp2_with fail
        go_roundw
        case rel => exact ⟨f + 46, p2, a9, c9, by go_num, rfl, by omega, HPL.out, HO9, C9, HP9⟩
        case measure => simp [intOf]; omega
    · have z1 : ¬ (f : Int) < (n : Int) := by omega
      go_wp2_with fail
      refine HRR.out _ wr ?_ HC.out
      have h9 := HP.out
      rw [List.drop_of_length_le (by rw [← HN.out]; omega), Jn.pieces_nil, List.append_nil] at h9
      rw [h9]
      exact HO.out
end Go.Proofs.YtpmkgedlnanjiaaGreatDoor
