/-
  Rule, the law RuleOffsets: the walk. Printed by genoffs07.py.
-/
import Derived.Test.YtmfjebpefneboaaDoorLwRErr
import Derived.Test.YtmfjebpefneboaaDoorRlW
namespace Go.Proofs.YtmfjebpefneboaaDoor
set_option linter.unusedVariables false
set_option linter.unusedSimpArgs false
open Go Go.RowKit Go.Shelf
open Lx (Tk)

theorem tok_r {w : World} {v : Value} {l : List Tk} (HV : Hid (TokS w v l)) (hl : l.length ≤ 1000000) (o : Nat) {t : Tk} (ht : Hid (tokAt l o = t)) :
    Calls Tryd.prog 18 #[v, .int .i64 (o : Int)] w fun e w' => e = .returned (.agg #[.int .i64 (t.kind : Nat), .string ⟨t.text.toArray⟩, .int .i64 (t.n : Nat), .int .i64 (t.at_ : Nat)]) ∧ Chg [] w w' := by
  have h := token_spec w v l HV hl o
  rw [ht.out] at h
  exact h

set_option maxHeartbeats 4000000 in
set_option maxRecDepth 100000 in
theorem ruleOffsets_walk (w : World) (s : Bytes) (hs0 : s.length ≤ 9223372036854775807) :
    Calls Tryd.prog 6 #[.string ⟨s.toArray⟩] w fun e w' => e = .returned (.bool true) ∧ Chg [] w w' := by
  obtain ⟨sb, hsb⟩ : ∃ sb : ByteArray, sb = ⟨s.toArray⟩ := ⟨_, rfl⟩
  rw [← hsb]
  have HSB := Lib.hid hsb
  have hsz := hsize HSB
  clear hsb
  go_enter Tryd.func6, Tryd.ntmps6
  go_wp2_with fail
  refine (head_spec07 _).mono ?_
  rintro e w1 ⟨rfl, hc1⟩
  have HC1 := Lib.hid hc1
  clear hc1
  by_cases hl : s.length ≤ 4000
  · have q1 : ¬ (4000 : Int) < (sb.size : Int) := by rw [hsz]; omega
    have HL := Lib.hid hl
    clear hl hs0 hsz
    go_wp2_with fail
    refine parse_r (by have := HL.out; omega) HSB (fun bo k bp E1 A1 w2 HL2 HC2 HE1 => ?_)
    go_wp2_with fail
    refine lex_r (by have := HL.out; omega) HSB (fun ao n cap E0 A0 w3 HT3 HC3 HE0 => ?_)
    have hb := HC3.out.blk (Blk.new w2 [.slice bo k bp] 25) (by simp)
    obtain ⟨B0, hB0⟩ : ∃ B0, B0 = w2.heap.size := ⟨_, rfl⟩
    rw [← hB0] at hb ⊢
    have HB := Lib.hid hb
    have HL3 : Hid (ListS w1.heap.size 42 9 (Ci w1.heap.size) (Rl.parse s).1 (.slice bo k bp) w3) := Lib.hid (HL2.out.keep (kp_i _) ((Chg.refl [] w2).alloc _ |>.trans HC3.out (by simp)) (TyB.nil _ _ _))
    have HC13 : Hid (Chg [] w w3) := Lib.hid ((HC1.out.trans HC2.out (by simp)).alloc _ |>.trans HC3.out (by simp))
    clear hb hB0
    by_cases e1 : E1 = 0
    · have n1 : ((E1 : Int) != 0) = false := by subst e1; rfl
      obtain ⟨k1, k2⟩ := Rl.offsets_law (s := s) (HE1.out.2.1.trans e1)
      have e0 : E0 = 0 := HE0.out.2.1.symm.trans k1
      have n0 : ((E0 : Int) == 0) = true := by rw [e0]; rfl
      have N0 := Lib.hid n0
      have HRI : Hid (Rl.RI (Lx.lex s).1 (-1) (Rl.parse s).1) := Lib.hid k2
      have HLL : Hid ((Lx.lex s).1.length ≤ 1000000) := Lib.hid (by have h1 := Lx.lex_len s; have h2 := HL.out; omega)
      obtain ⟨xs, hxs⟩ : ∃ xs, xs = (Rl.parse s).1 := ⟨_, rfl⟩
      obtain ⟨L, hLx⟩ : ∃ L, L = (Lx.lex s).1 := ⟨_, rfl⟩
      rw [← hxs] at HL3 HRI
      rw [← hLx] at HRI HLL HT3
      have HXL : Hid (xs.length = k) := Lib.hid (by rw [hxs]; exact HE1.out.1)
      have hml := HL3.out.len_le
      rw [HXL.out] at hml
      clear e1 k1 k2 e0 n0 hxs hLx
      go_upto_region 9 with fail
      obtain ⟨W, hW⟩ : ∃ W, W = w3.alloc (.cells #[.string ⟨#[97, 108, 108, 111, 119]⟩, .string ⟨#[100, 101, 110, 121]⟩, .string ⟨#[112, 114, 105, 99, 101]⟩, .string ⟨#[114, 101, 115, 97, 108, 101]⟩, .string ⟨#[114, 101, 102, 117, 110, 100]⟩, .string ⟨#[116, 111, 103, 101, 116, 104, 101, 114]⟩, .string ⟨#[115, 105, 110, 103, 108, 101]⟩] 9) := ⟨_, rfl⟩
      rw [← hW]
      obtain ⟨BW, hBW⟩ : ∃ BW, BW = w3.heap.size := ⟨_, rfl⟩
      rw [← hBW]
      have HC3W : Hid (Chg [] w3 W) := Lib.hid (by rw [hW]; exact (Chg.refl _ _).alloc _)
      have HBW : Hid (Blk W BW [.string ⟨#[97, 108, 108, 111, 119]⟩, .string ⟨#[100, 101, 110, 121]⟩, .string ⟨#[112, 114, 105, 99, 101]⟩, .string ⟨#[114, 101, 115, 97, 108, 101]⟩, .string ⟨#[114, 101, 102, 117, 110, 100]⟩, .string ⟨#[116, 111, 103, 101, 116, 104, 101, 114]⟩, .string ⟨#[115, 105, 110, 103, 108, 101]⟩] 9) := Lib.hid (by rw [hW, hBW]; exact Blk.new w3 _ _)
      have HLW : Hid (ListS w1.heap.size 42 9 (Ci w1.heap.size) xs (.slice bo k bp) W) := Lib.hid (HL3.out.keep (kp_i _) HC3W.out (TyB.nil _ _ _))
      have HTW : Hid (TokS W (.slice ao n cap) L) := Lib.hid (HT3.out.quiet HC3W.out)
      have HB2 : Hid (Blk W B0 [.slice bo k bp] 25) := Lib.hid (HC3W.out.blk HB.out (by simp))
      have HCW : Hid (Chg [] w W) := Lib.hid (HC13.out.trans HC3W.out (by simp))
      clear hW hBW
      go_wp2_with fail
      go_loopw [11, 12, 13, 14, 15, 16] (fun la i _ _ _ _ wr => ∃ (q : Int) (j : Nat), la = .int .i64 q ∧ i = .int .i64 (j : Int) ∧ j ≤ k ∧ Hid (Chg [] W wr) ∧ Hid (Rl.RI L q (xs.drop j))) (fun _ i _ _ _ _ _ => k - (intOf i).toNat)
      case atStart => exact ⟨-1, 0, rfl, rfl, Nat.zero_le _, Lib.hid (Chg.refl _ _), Lib.hid (by rw [List.drop_zero]; exact HRI.out)⟩
      case round =>
        obtain ⟨q, j, rfl, rfl, hj, HCR, HRJ⟩ := hrel
        have v2 := (HCR.out.blk HB2.out (by simp)).cell (i := 0) rfl
        by_cases hlt : j < k
        · obtain ⟨x, hx⟩ : ∃ x, xs[j]? = some x := ⟨xs[j]'(by rw [HXL.out]; exact hlt), by simp⟩
          have hri := HRJ.out
          rw [Rl.drop_at hx] at hri
          obtain ⟨⟨⟨jj, hk1, hk2⟩, hla⟩, hrg⟩ := hri.cons
          have HRGx := Lib.hid hrg
          obtain ⟨g, cap', uo, uc, e1, e2, e3, a0, a1, a2, a3, a4, a5, a6, a7, a8⟩ := itm_get (HLW.out.keep (kp_i _) HCR.out (TyB.nil _ _ _)) hx
          rw [HXL.out] at e1 e2
          simp only [Value.slice.injEq, true_and] at e1
          obtain ⟨rfl, rfl⟩ := e1
          obtain ⟨m, hm⟩ : ∃ m, x.whn.length = m := ⟨_, rfl⟩
          obtain ⟨kd, hkd⟩ : ∃ kd, x.kind = kd := ⟨_, rfl⟩
          obtain ⟨nm, hnm⟩ : ∃ nm, x.name = nm := ⟨_, rfl⟩
          obtain ⟨at7, hat⟩ : ∃ a, x.at_ = a := ⟨_, rfl⟩
          rw [hm] at a2 e3
          rw [hkd] at a0
          rw [hnm] at a1
          rw [hat] at a8
          rw [hat] at hla hk2 HRGx
          rw [hkd] at hk1
          obtain ⟨tk, htk⟩ : ∃ tk, tokAt L at7 = tk := ⟨_, rfl⟩
          rw [htk] at hk2
          have HTK := Lib.hid htk
          have HM := Lib.hid hm
          have HWN := Lib.hid e3
          have HLA := Lib.hid hla
          have hjj : jj < 7 := (List.getElem?_eq_some_iff.1 hk2).1
          have HKW : Hid (([.string ⟨#[97, 108, 108, 111, 119]⟩, .string ⟨#[100, 101, 110, 121]⟩, .string ⟨#[112, 114, 105, 99, 101]⟩, .string ⟨#[114, 101, 115, 97, 108, 101]⟩, .string ⟨#[114, 101, 102, 117, 110, 100]⟩, .string ⟨#[116, 111, 103, 101, 116, 104, 101, 114]⟩, .string ⟨#[115, 105, 110, 103, 108, 101]⟩] : List Value)[jj]? = some (.string ⟨tk.text.toArray⟩)) := Lib.hid (by
            have h : (Rl.kindsL.map (fun t : Bytes => Value.string ⟨t.toArray⟩))[jj]? = some (.string ⟨tk.text.toArray⟩) := by rw [List.getElem?_map, hk2]; rfl
            exact h)
          have q0 : (0 : Int) ≤ (j : Int) := by omega
          have q1 : (j : Int) < (k : Int) := by omega
          have q2 : (j : Int) ≤ (bp : Int) := by omega
          have qj : ((j : Int)).toNat = j := by omega
          have HK1 := Lib.hid hk1
          have HJJ := Lib.hid hjj
          clear hx hri hrg hm hkd hnm hat htk e3 hk2 hla hk1 hjj
          go_upto_region 14 with fail
          obtain ⟨V, hV⟩ : ∃ V, V = wr.alloc (.cells #[.int .i64 (kd : Int), .string ⟨nm.toArray⟩, .slice uo m uc, .int .i64 (x.n : Nat), .int .i64 (x.r.1 : Nat), .int .i64 (x.r.2 : Nat), .int .i64 (x.s.1 : Nat), .int .i64 (x.s.2 : Nat), .int .i64 (at7 : Int)] 42) := ⟨_, rfl⟩
          rw [← hV]
          obtain ⟨X, hX⟩ : ∃ X, X = wr.heap.size := ⟨_, rfl⟩
          rw [← hX]
          have HXB : Hid (Blk V X [.int .i64 (kd : Int), .string ⟨nm.toArray⟩, .slice uo m uc, .int .i64 (x.n : Nat), .int .i64 (x.r.1 : Nat), .int .i64 (x.r.2 : Nat), .int .i64 (x.s.1 : Nat), .int .i64 (x.s.2 : Nat), .int .i64 (at7 : Int)] 42) := Lib.hid (by rw [hV, hX]; exact Blk.new wr _ _)
          have HCV : Hid (Chg [] W V) := Lib.hid (by rw [hV]; exact HCR.out.alloc _)
          have HTV : Hid (TokS V (.slice ao n cap) L) := Lib.hid (HTW.out.quiet HCV.out)
          have HBV : Hid (Blk V BW [.string ⟨#[97, 108, 108, 111, 119]⟩, .string ⟨#[100, 101, 110, 121]⟩, .string ⟨#[112, 114, 105, 99, 101]⟩, .string ⟨#[114, 101, 115, 97, 108, 101]⟩, .string ⟨#[114, 101, 102, 117, 110, 100]⟩, .string ⟨#[116, 111, 103, 101, 116, 104, 101, 114]⟩, .string ⟨#[115, 105, 110, 103, 108, 101]⟩] 9) := Lib.hid (HCV.out.blk HBW.out (by simp))
          have HB3 : Hid (Blk V B0 [.slice (some ⟨g, 0, none⟩) k bp] 25) := Lib.hid (HCV.out.blk HB2.out (by simp))
          have HWV : Hid (ListS w1.heap.size 46 1 (Cr w1.heap.size) x.whn (.slice uo m uc) V) := Lib.hid (HWN.out.keep (kp_r _) (by rw [hV]; exact (Chg.refl [] wr).alloc _) (TyB.nil _ _ _))
          have hk1 := HK1.out
          have hjj := HJJ.out
          have hkd1 : ¬ (kd : Int) < 1 := by omega
          have hkd2 : ¬ (7 : Int) < (kd : Int) := by omega
          have hkw : IntKind.i64.wrap ((kd : Int) - 1) = (jj : Int) := by rw [IntWalk.i64_in _ (by omega)]; omega
          have hjj0 : (0 : Int) ≤ (jj : Int) := by omega
          have hjj1 : (jj : Int) < 7 := by omega
          have hjj2 : ((jj : Int)).toNat = jj := by omega
          have hq9 : ¬ (at7 : Int) ≤ q := by have := HLA.out; omega
          clear hV hX v2 a0 a1 a2 a3 a4 a5 a6 a7 a8 hk1 hjj

          refine wp_region_held_drew (S := fun W' => Chg [] V W') (by kernel_rfl) (Chg.refl _ _).drew (fun hHeld => ?_)
          refine wpAnyH_take (i := 0) (v := ?vp0) rfl (by kernel_rfl) (by kernel_rfl) (by kernel_rfl) (fun _ _ _ h => h) (Or.inl ⟨by kernel_rfl, ?hyp0⟩) (by assumption) ?rsp0
          case hyp0 => (intro w9 hSw; skip; go_simp; try with_reducible rfl)
          try simp only [Act.put, List.setIfInBounds_toArray, List.set_cons_zero, List.set_cons_succ, List.getElem_toArray, List.getElem_cons_succ, List.getElem_cons_zero]
          refine wpAnyH_take (i := 1) (v := ?vp1) rfl (by kernel_rfl) (by kernel_rfl) (by kernel_rfl) (fun _ _ _ h => h) (Or.inl ⟨by kernel_rfl, ?hyp1⟩) (by assumption) ?rsp1
          case hyp1 => (intro w9 hSw; have d := cell_quiet hSw (HXB.out.cell (i := 0) rfl) (by simp); go_simp; try with_reducible rfl)
          try simp only [Act.put, List.setIfInBounds_toArray, List.set_cons_zero, List.set_cons_succ, List.getElem_toArray, List.getElem_cons_succ, List.getElem_cons_zero]
          refine wpAnyH_take (i := 2) (v := ?vp2) rfl (by kernel_rfl) (by kernel_rfl) (by kernel_rfl) (fun _ _ _ h => h) (Or.inl ⟨by kernel_rfl, ?hyp2⟩) (by assumption) ?rsp2
          case hyp2 => (intro w9 hSw; skip; go_simp; try with_reducible rfl)
          try simp only [Act.put, List.setIfInBounds_toArray, List.set_cons_zero, List.set_cons_succ, List.getElem_toArray, List.getElem_cons_succ, List.getElem_cons_zero]
          refine wpAnyH_take (i := 3) (v := ?vp3) rfl (by kernel_rfl) (by kernel_rfl) (by kernel_rfl) (fun _ _ _ h => h) (Or.inl ⟨by kernel_rfl, ?hyp3⟩) (by assumption) ?rsp3
          case hyp3 => (intro w9 hSw; skip; go_simp; try with_reducible rfl)
          try simp only [Act.put, List.setIfInBounds_toArray, List.set_cons_zero, List.set_cons_succ, List.getElem_toArray, List.getElem_cons_succ, List.getElem_cons_zero]
          refine wpAnyH_take (i := 4) (v := ?vp4) rfl (by kernel_rfl) (by kernel_rfl) (by kernel_rfl) (fun _ _ _ h => h) (Or.inl ⟨by kernel_rfl, ?hyp4⟩) (by assumption) ?rsp4
          case hyp4 => (intro w9 hSw; skip; go_simp; try with_reducible rfl)
          try simp only [Act.put, List.setIfInBounds_toArray, List.set_cons_zero, List.set_cons_succ, List.getElem_toArray, List.getElem_cons_succ, List.getElem_cons_zero]
          refine wpAnyH_take (i := 5) (v := ?vp5) rfl (by kernel_rfl) (by kernel_rfl) (by kernel_rfl) (fun _ _ _ h => h) (Or.inl ⟨by kernel_rfl, ?hyp5⟩) (by assumption) ?rsp5
          case hyp5 => (intro w9 hSw; have d := cell_quiet hSw (HXB.out.cell (i := 0) rfl) (by simp); go_simp; try with_reducible rfl)
          try simp only [Act.put, List.setIfInBounds_toArray, List.set_cons_zero, List.set_cons_succ, List.getElem_toArray, List.getElem_cons_succ, List.getElem_cons_zero]
          refine wpAnyH_take (i := 6) (v := ?vp6) rfl (by kernel_rfl) (by kernel_rfl) (by kernel_rfl) (fun _ _ _ h => h) (Or.inl ⟨by kernel_rfl, ?hyp6⟩) (by assumption) ?rsp6
          case hyp6 => (intro w9 hSw; skip; go_simp; try with_reducible rfl)
          try simp only [Act.put, List.setIfInBounds_toArray, List.set_cons_zero, List.set_cons_succ, List.getElem_toArray, List.getElem_cons_succ, List.getElem_cons_zero]
          refine wpAnyH_take (i := 7) (v := ?vp7) rfl (by kernel_rfl) (by kernel_rfl) (by kernel_rfl) (fun _ _ _ h => h) (Or.inl ⟨by kernel_rfl, ?hyp7⟩) (by assumption) ?rsp7
          case hyp7 => (intro w9 hSw; skip; go_simp; try with_reducible rfl)
          try simp only [Act.put, List.setIfInBounds_toArray, List.set_cons_zero, List.set_cons_succ, List.getElem_toArray, List.getElem_cons_succ, List.getElem_cons_zero]
          refine wpAnyH_take (i := 8) (v := ?vp8) rfl (by kernel_rfl) (by kernel_rfl) (by kernel_rfl) (fun _ _ _ h => h) (Or.inl ⟨by kernel_rfl, ?hyp8⟩) (by assumption) ?rsp8
          case hyp8 => (intro w9 hSw; skip; go_simp; try with_reducible rfl)
          try simp only [Act.put, List.setIfInBounds_toArray, List.set_cons_zero, List.set_cons_succ, List.getElem_toArray, List.getElem_cons_succ, List.getElem_cons_zero]
          refine wpAnyH_take (i := 9) (v := ?vp9) rfl (by kernel_rfl) (by kernel_rfl) (by kernel_rfl) (fun _ _ _ h => h) (Or.inl ⟨by kernel_rfl, ?hyp9⟩) (by assumption) ?rsp9
          case hyp9 => (intro w9 hSw; skip; go_simp; try with_reducible rfl)
          try simp only [Act.put, List.setIfInBounds_toArray, List.set_cons_zero, List.set_cons_succ, List.getElem_toArray, List.getElem_cons_succ, List.getElem_cons_zero]
          refine wpAnyH_take (i := 10) (v := ?vp10) rfl (by kernel_rfl) (by kernel_rfl) (by kernel_rfl) (fun _ _ _ h => h) (Or.inl ⟨by kernel_rfl, ?hyp10⟩) (by assumption) ?rsp10
          case hyp10 => (intro w9 hSw; skip; go_simp; try with_reducible rfl)
          try simp only [Act.put, List.setIfInBounds_toArray, List.set_cons_zero, List.set_cons_succ, List.getElem_toArray, List.getElem_cons_succ, List.getElem_cons_zero]
          refine wpAnyH_take (i := 11) (v := ?vp11) rfl (by kernel_rfl) (by kernel_rfl) (by kernel_rfl) (fun _ _ _ h => h) (Or.inl ⟨by kernel_rfl, ?hyp11⟩) (by assumption) ?rsp11
          case hyp11 => (intro w9 hSw; skip; go_simp; try with_reducible rfl)
          try simp only [Act.put, List.setIfInBounds_toArray, List.set_cons_zero, List.set_cons_succ, List.getElem_toArray, List.getElem_cons_succ, List.getElem_cons_zero]
          refine wpAnyH_take (i := 12) (v := ?vp12) rfl (by kernel_rfl) (by kernel_rfl) (by kernel_rfl) (fun _ _ _ h => h) (Or.inl ⟨by kernel_rfl, ?hyp12⟩) (by assumption) ?rsp12
          case hyp12 => (intro w9 hSw; skip; go_simp; try with_reducible rfl)
          try simp only [Act.put, List.setIfInBounds_toArray, List.set_cons_zero, List.set_cons_succ, List.getElem_toArray, List.getElem_cons_succ, List.getElem_cons_zero]
          refine wpAnyH_take (i := 13) (v := ?vp13) rfl (by kernel_rfl) (by kernel_rfl) (by kernel_rfl) (fun _ _ _ h => h) (Or.inl ⟨by kernel_rfl, ?hyp13⟩) (by assumption) ?rsp13
          case hyp13 => (intro w9 hSw; have d := cell_quiet hSw (HXB.out.cell (i := 8) rfl) (by simp); go_simp; try with_reducible rfl)
          try simp only [Act.put, List.setIfInBounds_toArray, List.set_cons_zero, List.set_cons_succ, List.getElem_toArray, List.getElem_cons_succ, List.getElem_cons_zero]
          refine wpAnyH_take (i := 16) (v := ?vp16) rfl (by kernel_rfl) (by kernel_rfl) (by kernel_rfl) (fun _ _ _ h => h) (Or.inl ⟨by kernel_rfl, ?hyp16⟩) (by assumption) ?rsp16
          case hyp16 => (intro w9 hSw; skip; go_simp; try with_reducible rfl)
          try simp only [Act.put, List.setIfInBounds_toArray, List.set_cons_zero, List.set_cons_succ, List.getElem_toArray, List.getElem_cons_succ, List.getElem_cons_zero]
          refine wpAnyH_take (i := 17) (v := ?vp17) rfl (by kernel_rfl) (by kernel_rfl) (by kernel_rfl) (fun _ _ _ h => h) (Or.inl ⟨by kernel_rfl, ?hyp17⟩) (by assumption) ?rsp17
          case hyp17 => (intro w9 hSw; skip; go_simp; try with_reducible rfl)
          try simp only [Act.put, List.setIfInBounds_toArray, List.set_cons_zero, List.set_cons_succ, List.getElem_toArray, List.getElem_cons_succ, List.getElem_cons_zero]
          refine wpAnyH_take (i := 18) (v := ?vp18) rfl (by kernel_rfl) (by kernel_rfl) (by kernel_rfl) (fun _ _ _ h => h) (Or.inl ⟨by kernel_rfl, ?hyp18⟩) (by assumption) ?rsp18
          case hyp18 => (intro w9 hSw; have d := cell_quiet hSw (HXB.out.cell (i := 0) rfl) (by simp); go_simp; try with_reducible rfl)
          try simp only [Act.put, List.setIfInBounds_toArray, List.set_cons_zero, List.set_cons_succ, List.getElem_toArray, List.getElem_cons_succ, List.getElem_cons_zero]
          refine wpAnyH_take (i := 19) (v := ?vp19) rfl (by kernel_rfl) (by kernel_rfl) (by kernel_rfl) (fun _ _ _ h => h) (Or.inl ⟨by kernel_rfl, ?hyp19⟩) (by assumption) ?rsp19
          case hyp19 => (intro w9 hSw; skip; go_simp; try with_reducible rfl)
          try simp only [Act.put, List.setIfInBounds_toArray, List.set_cons_zero, List.set_cons_succ, List.getElem_toArray, List.getElem_cons_succ, List.getElem_cons_zero]
          refine wpAnyH_take (i := 20) (v := ?vp20) rfl (by kernel_rfl) (by kernel_rfl) (by kernel_rfl) (fun _ _ _ h => h) (Or.inl ⟨by kernel_rfl, ?hyp20⟩) (by assumption) ?rsp20
          case hyp20 => (intro w9 hSw; skip; go_simp; try with_reducible rfl)
          try simp only [Act.put, List.setIfInBounds_toArray, List.set_cons_zero, List.set_cons_succ, List.getElem_toArray, List.getElem_cons_succ, List.getElem_cons_zero]
          refine wpAnyH_take (i := 21) (v := ?vp21) rfl (by kernel_rfl) (by kernel_rfl) (by kernel_rfl) (fun _ _ _ h => h) (Or.inl ⟨by kernel_rfl, ?hyp21⟩) (by assumption) ?rsp21
          case hyp21 => (intro w9 hSw; have d := cell_quiet hSw (HBV.out.cell HKW.out) (by simp); go_simp; try with_reducible rfl)
          try simp only [Act.put, List.setIfInBounds_toArray, List.set_cons_zero, List.set_cons_succ, List.getElem_toArray, List.getElem_cons_succ, List.getElem_cons_zero]
          refine wpAnyH_ready (rs := [14]) (by kernel_rfl) (by simp) (AllReadyH.cons rfl (fun K hK => ?_) AllReadyH.nil)
          go_simp
          refine (tok_r (Lib.hid (HTV.out.quiet hHeld)) HLL.out at7 HTK).mono ?_
          rintro e9 w9 ⟨rfl, hcx⟩
          refine hK.out _ _ (hHeld.trans hcx (by simp)) (fun hHeld => ?_)
          clear hK K
          try simp only [Act.put, List.setIfInBounds_toArray, List.set_cons_zero, List.set_cons_succ, List.getElem_toArray, List.getElem_cons_succ, List.getElem_cons_zero]
          refine wpAnyH_take (i := 15) (v := ?vp15) rfl (by kernel_rfl) (by kernel_rfl) (by kernel_rfl) (fun _ _ _ h => h) (Or.inl ⟨by kernel_rfl, ?hyp15⟩) (by assumption) ?rsp15
          case hyp15 => (intro w9 hSw; have hf := fld1; go_simp; try with_reducible rfl)
          try simp only [Act.put, List.setIfInBounds_toArray, List.set_cons_zero, List.set_cons_succ, List.getElem_toArray, List.getElem_cons_succ, List.getElem_cons_zero]
          refine wpAnyH_take (i := 22) (v := ?vp22) rfl (by kernel_rfl) (by kernel_rfl) (by kernel_rfl) (fun _ _ _ h => h) (Or.inl ⟨by kernel_rfl, ?hyp22⟩) (by assumption) ?rsp22
          case hyp22 => (intro w9 hSw; skip; go_simp; try with_reducible rfl)
          try simp only [Act.put, List.setIfInBounds_toArray, List.set_cons_zero, List.set_cons_succ, List.getElem_toArray, List.getElem_cons_succ, List.getElem_cons_zero]
          refine wpAnyH_take (i := 23) (v := ?vp23) rfl (by kernel_rfl) (by kernel_rfl) (by kernel_rfl) (fun _ _ _ h => h) (Or.inl ⟨by kernel_rfl, ?hyp23⟩) (by assumption) ?rsp23
          case hyp23 => (intro w9 hSw; skip; go_simp; try with_reducible rfl)
          try simp only [Act.put, List.setIfInBounds_toArray, List.set_cons_zero, List.set_cons_succ, List.getElem_toArray, List.getElem_cons_succ, List.getElem_cons_zero]
          refine wpAnyH_take (i := 24) (v := ?vp24) rfl (by kernel_rfl) (by kernel_rfl) (by kernel_rfl) (fun _ _ _ h => h) (Or.inl ⟨by kernel_rfl, ?hyp24⟩) (by assumption) ?rsp24
          case hyp24 => (intro w9 hSw; skip; go_simp; try with_reducible rfl)
          try simp only [Act.put, List.setIfInBounds_toArray, List.set_cons_zero, List.set_cons_succ, List.getElem_toArray, List.getElem_cons_succ, List.getElem_cons_zero]
          refine wpAnyH_take (i := 25) (v := ?vp25) rfl (by kernel_rfl) (by kernel_rfl) (by kernel_rfl) (fun _ _ _ h => h) (Or.inl ⟨by kernel_rfl, ?hyp25⟩) (by assumption) ?rsp25
          case hyp25 => (intro w9 hSw; skip; go_simp; try with_reducible rfl)
          try simp only [Act.put, List.setIfInBounds_toArray, List.set_cons_zero, List.set_cons_succ, List.getElem_toArray, List.getElem_cons_succ, List.getElem_cons_zero]
          refine wpAnyH_take (i := 26) (v := ?vp26) rfl (by kernel_rfl) (by kernel_rfl) (by kernel_rfl) (fun _ _ _ h => h) (Or.inl ⟨by kernel_rfl, ?hyp26⟩) (by assumption) ?rsp26
          case hyp26 => (intro w9 hSw; have d := cell_quiet hSw (HXB.out.cell (i := 8) rfl) (by simp); go_simp; try with_reducible rfl)
          try simp only [Act.put, List.setIfInBounds_toArray, List.set_cons_zero, List.set_cons_succ, List.getElem_toArray, List.getElem_cons_succ, List.getElem_cons_zero]
          refine wpAnyH_take (i := 27) (v := ?vp27) rfl (by kernel_rfl) (by kernel_rfl) (by kernel_rfl) (fun _ _ _ h => h) (Or.inl ⟨by kernel_rfl, ?hyp27⟩) (by assumption) ?rsp27
          case hyp27 => (intro w9 hSw; skip; go_simp; try with_reducible rfl)
          try simp only [Act.put, List.setIfInBounds_toArray, List.set_cons_zero, List.set_cons_succ, List.getElem_toArray, List.getElem_cons_succ, List.getElem_cons_zero]
          refine wpAnyH_take (i := 28) (v := ?vp28) rfl (by kernel_rfl) (by kernel_rfl) (by kernel_rfl) (fun _ _ _ h => h) (Or.inl ⟨by kernel_rfl, ?hyp28⟩) (by assumption) ?rsp28
          case hyp28 => (intro w9 hSw; skip; go_simp; try with_reducible rfl)
          try simp only [Act.put, List.setIfInBounds_toArray, List.set_cons_zero, List.set_cons_succ, List.getElem_toArray, List.getElem_cons_succ, List.getElem_cons_zero]
          refine wpAnyH_take (i := 29) (v := ?vp29) rfl (by kernel_rfl) (by kernel_rfl) (by kernel_rfl) (fun _ _ _ h => h) (Or.inl ⟨by kernel_rfl, ?hyp29⟩) (by assumption) ?rsp29
          case hyp29 => (intro w9 hSw; skip; go_simp; try with_reducible rfl)
          try simp only [Act.put, List.setIfInBounds_toArray, List.set_cons_zero, List.set_cons_succ, List.getElem_toArray, List.getElem_cons_succ, List.getElem_cons_zero]
          refine wpAnyH_done (by kernel_rfl) ?_ _
          try simp only [Act.put, List.setIfInBounds_toArray, List.set_cons_zero, List.set_cons_succ, List.getElem_toArray, List.getElem_cons_succ, List.getElem_cons_zero]

          have HV9 := Lib.hid hHeld
          have d8 := cell_quiet HV9.out (HXB.out.cell (i := 8) rfl) (by simp)
          clear hHeld hcx
          go_wp2_with fail
          go_loopw [11, 14, 15, 16] (fun la i _ _ wr2 => ∃ (q : Int) (y : Nat), la = .int .i64 q ∧ i = .int .i64 (y : Int) ∧ y ≤ m ∧ Hid (Chg [] V wr2) ∧ Hid (Rl.RG L q (x.whn.drop y) (xs.drop (j + 1)))) (fun _ i _ _ _ => m - (intOf i).toNat)
          case atStart => exact ⟨at7, 0, rfl, rfl, Nat.zero_le _, Lib.hid ⟨HV9.out.os, HV9.out.tape, HV9.out.output, HV9.out.size, HV9.out.block⟩, Lib.hid (by rw [List.drop_zero]; exact HRGx.out)⟩
          case round =>
            obtain ⟨q7, y, rfl, rfl, hy, HCR2, HRG2⟩ := hrel
            have x2 := (HCR2.out.blk HXB.out (by simp)).cell (i := 2) rfl
            have hml2 := HWV.out.len_le
            rw [HM.out] at hml2
            by_cases hlt2 : y < m
            · obtain ⟨gs, hgs⟩ : ∃ gs, x.whn[y]? = some gs := ⟨x.whn[y]'(by rw [HM.out]; exact hlt2), by simp⟩
              have hrg := HRG2.out
              rw [Rl.drop_at hgs] at hrg
              obtain ⟨hne, hrt⟩ := hrg.cons
              have HRT := Lib.hid hrt
              obtain ⟨g4, cap4, go4, gc4, f1, f2, f3, f4⟩ := whn_get HWV.out hgs
              rw [HM.out] at f1 f2
              simp only [Value.slice.injEq, true_and] at f1
              obtain ⟨rfl, rfl⟩ := f1
              obtain ⟨d, hd⟩ : ∃ d, gs.length = d := ⟨_, rfl⟩
              rw [hd] at f3 f4
              have hdl := f4.len_le
              rw [hd] at hdl
              have HD := Lib.hid hd
              have HF3 := Lib.hid f3
              have HF4 := Lib.hid f4
              have f3 := cell_quiet HCR2.out HF3.out (by simp)
              have hd0 : 0 < d := by rw [← hd]; exact List.length_pos_iff.2 hne
              have q0' : (0 : Int) ≤ (y : Int) := by omega
              have q1' : (y : Int) < (m : Int) := by omega
              have q2' : (y : Int) ≤ (uc : Int) := by omega
              have qj' : ((y : Int)).toNat = y := by omega
              have qd : ((d : Int) == 0) = false := beq_eq_false_iff_ne.2 (by omega)
              clear hgs hrg hne hrt hd f4
              go_wp2_with fail
              go_loopw [11, 15, 16] (fun la i _ wr3 => ∃ (q : Int) (z : Nat), la = .int .i64 q ∧ i = .int .i64 (z : Int) ∧ z ≤ d ∧ Hid (Chg [] V wr3) ∧ Hid (Rl.RT L q (gs.drop z) (x.whn.drop (y + 1)) (xs.drop (j + 1)))) (fun _ i _ _ => d - (intOf i).toNat)
              case atStart => exact ⟨q7, 0, rfl, rfl, Nat.zero_le _, Lib.hid ⟨HCR2.out.os, HCR2.out.tape, HCR2.out.output, HCR2.out.size, HCR2.out.block⟩, Lib.hid (by rw [List.drop_zero]; exact HRT.out)⟩
              case round =>
                obtain ⟨q8, z, rfl, rfl, hz, HCR3, HRT3⟩ := hrel
                have x2 := (HCR3.out.blk HXB.out (by simp)).cell (i := 2) rfl
                have f3 := cell_quiet HCR3.out HF3.out (by simp)
                by_cases hlt3 : z < d
                · obtain ⟨t, ht⟩ : ∃ t, gs[z]? = some t := ⟨gs[z]'(by rw [HD.out]; exact hlt3), by simp⟩
                  have hrt := HRT3.out
                  rw [Rl.drop_at ht] at hrt
                  obtain ⟨⟨k1, k2, k3⟩, hrt2⟩ := hrt.cons
                  have HRT4 := Lib.hid hrt2
                  obtain ⟨g2, cap2, b1, b2, b3, b4, b5, b6, b7⟩ := tst_get HF4.out ht
                  rw [HD.out] at b1 b2
                  simp only [Value.slice.injEq, true_and] at b1
                  obtain ⟨rfl, rfl⟩ := b1
                  obtain ⟨tx, htx⟩ : ∃ tx, t.attr = tx := ⟨_, rfl⟩
                  obtain ⟨a8, ha8⟩ : ∃ a, t.at_ = a := ⟨_, rfl⟩
                  rw [htx] at b3 k3
                  rw [ha8] at b7 k1 k2 k3 HRT4
                  obtain ⟨tk2, htk2⟩ : ∃ tk, tokAt L a8 = tk := ⟨_, rfl⟩
                  rw [htk2] at k2 k3
                  have HTK2 := Lib.hid htk2
                  have K1 := Lib.hid k1
                  have K2 := Lib.hid k2
                  have K3 := Lib.hid k3
                  have b3 := cell_quiet HCR3.out b3 (by simp)
                  have b4 := cell_quiet HCR3.out b4 (by simp)
                  have b5 := cell_quiet HCR3.out b5 (by simp)
                  have b6 := cell_quiet HCR3.out b6 (by simp)
                  have b7 := cell_quiet HCR3.out b7 (by simp)
                  have p0 : (0 : Int) ≤ (z : Int) := by omega
                  have p1 : (z : Int) < (d : Int) := by omega
                  have p2 : (z : Int) ≤ (gc4 : Int) := by omega
                  have pj : ((z : Int)).toNat = z := by omega
                  clear ht hrt hrt2 htx ha8 htk2 k1 k2 k3
                  go_upto_region 26 with fail
                  obtain ⟨U, hU⟩ : ∃ U, U = wr.alloc (.cells #[.string ⟨tx.toArray⟩, .int .i64 (t.op : Nat), .string ⟨t.name.toArray⟩, .int .i64 (t.n : Nat), .int .i64 (a8 : Int)] 48) := ⟨_, rfl⟩
                  rw [← hU]
                  obtain ⟨Y, hY⟩ : ∃ Y, Y = wr.heap.size := ⟨_, rfl⟩
                  rw [← hY]
                  have HYB : Hid (Blk U Y [.string ⟨tx.toArray⟩, .int .i64 (t.op : Nat), .string ⟨t.name.toArray⟩, .int .i64 (t.n : Nat), .int .i64 (a8 : Int)] 48) := Lib.hid (by rw [hU, hY]; exact Blk.new wr _ _)
                  have HCU : Hid (Chg [] V U) := Lib.hid (by rw [hU]; exact HCR3.out.alloc _)
                  have HTU : Hid (TokS U (.slice ao n cap) L) := Lib.hid (HTV.out.quiet HCU.out)
                  have hq9' : ¬ (a8 : Int) ≤ q8 := by have := K1.out; omega
                  have hkk : ((tk2.kind : Int) != 1) = false := by rw [K2.out]; rfl
                  have hkt : tk2.text = tx := K3.out
                  clear hU hY x2 f3 b3 b4 b5 b6 b7

                  refine wp_region_held_drew (S := fun W' => Chg [] U W') (by kernel_rfl) (Chg.refl _ _).drew (fun hHeld => ?_)
                  refine wpAnyH_take (i := 0) (v := ?vr0) rfl (by kernel_rfl) (by kernel_rfl) (by kernel_rfl) (fun _ _ _ h => h) (Or.inl ⟨by kernel_rfl, ?hyr0⟩) (by assumption) ?rsr0
                  case hyr0 => (intro w9 hSw; skip; go_simp; try with_reducible rfl)
                  try simp only [Act.put, List.setIfInBounds_toArray, List.set_cons_zero, List.set_cons_succ, List.getElem_toArray, List.getElem_cons_succ, List.getElem_cons_zero]
                  refine wpAnyH_take (i := 1) (v := ?vr1) rfl (by kernel_rfl) (by kernel_rfl) (by kernel_rfl) (fun _ _ _ h => h) (Or.inl ⟨by kernel_rfl, ?hyr1⟩) (by assumption) ?rsr1
                  case hyr1 => (intro w9 hSw; have d := cell_quiet hSw (HYB.out.cell (i := 4) rfl) (by simp); go_simp; try with_reducible rfl)
                  try simp only [Act.put, List.setIfInBounds_toArray, List.set_cons_zero, List.set_cons_succ, List.getElem_toArray, List.getElem_cons_succ, List.getElem_cons_zero]
                  refine wpAnyH_take (i := 2) (v := ?vr2) rfl (by kernel_rfl) (by kernel_rfl) (by kernel_rfl) (fun _ _ _ h => h) (Or.inl ⟨by kernel_rfl, ?hyr2⟩) (by assumption) ?rsr2
                  case hyr2 => (intro w9 hSw; skip; go_simp; try with_reducible rfl)
                  try simp only [Act.put, List.setIfInBounds_toArray, List.set_cons_zero, List.set_cons_succ, List.getElem_toArray, List.getElem_cons_succ, List.getElem_cons_zero]
                  refine wpAnyH_take (i := 3) (v := ?vr3) rfl (by kernel_rfl) (by kernel_rfl) (by kernel_rfl) (fun _ _ _ h => h) (Or.inl ⟨by kernel_rfl, ?hyr3⟩) (by assumption) ?rsr3
                  case hyr3 => (intro w9 hSw; skip; go_simp; try with_reducible rfl)
                  try simp only [Act.put, List.setIfInBounds_toArray, List.set_cons_zero, List.set_cons_succ, List.getElem_toArray, List.getElem_cons_succ, List.getElem_cons_zero]
                  refine wpAnyH_take (i := 4) (v := ?vr4) rfl (by kernel_rfl) (by kernel_rfl) (by kernel_rfl) (fun _ _ _ h => h) (Or.inl ⟨by kernel_rfl, ?hyr4⟩) (by assumption) ?rsr4
                  case hyr4 => (intro w9 hSw; skip; go_simp; try with_reducible rfl)
                  try simp only [Act.put, List.setIfInBounds_toArray, List.set_cons_zero, List.set_cons_succ, List.getElem_toArray, List.getElem_cons_succ, List.getElem_cons_zero]
                  refine wpAnyH_take (i := 5) (v := ?vr5) rfl (by kernel_rfl) (by kernel_rfl) (by kernel_rfl) (fun _ _ _ h => h) (Or.inl ⟨by kernel_rfl, ?hyr5⟩) (by assumption) ?rsr5
                  case hyr5 => (intro w9 hSw; skip; go_simp; try with_reducible rfl)
                  try simp only [Act.put, List.setIfInBounds_toArray, List.set_cons_zero, List.set_cons_succ, List.getElem_toArray, List.getElem_cons_succ, List.getElem_cons_zero]
                  refine wpAnyH_take (i := 6) (v := ?vr6) rfl (by kernel_rfl) (by kernel_rfl) (by kernel_rfl) (fun _ _ _ h => h) (Or.inl ⟨by kernel_rfl, ?hyr6⟩) (by assumption) ?rsr6
                  case hyr6 => (intro w9 hSw; skip; go_simp; try with_reducible rfl)
                  try simp only [Act.put, List.setIfInBounds_toArray, List.set_cons_zero, List.set_cons_succ, List.getElem_toArray, List.getElem_cons_succ, List.getElem_cons_zero]
                  refine wpAnyH_take (i := 7) (v := ?vr7) rfl (by kernel_rfl) (by kernel_rfl) (by kernel_rfl) (fun _ _ _ h => h) (Or.inl ⟨by kernel_rfl, ?hyr7⟩) (by assumption) ?rsr7
                  case hyr7 => (intro w9 hSw; have d := cell_quiet hSw (HYB.out.cell (i := 4) rfl) (by simp); go_simp; try with_reducible rfl)
                  try simp only [Act.put, List.setIfInBounds_toArray, List.set_cons_zero, List.set_cons_succ, List.getElem_toArray, List.getElem_cons_succ, List.getElem_cons_zero]
                  refine wpAnyH_ready (rs := [8]) (by kernel_rfl) (by simp) (AllReadyH.cons rfl (fun K hK => ?_) AllReadyH.nil)
                  go_simp
                  refine (tok_r (Lib.hid (HTU.out.quiet hHeld)) HLL.out a8 HTK2).mono ?_
                  rintro e9 w9 ⟨rfl, hcx⟩
                  refine hK.out _ _ (hHeld.trans hcx (by simp)) (fun hHeld => ?_)
                  clear hK K
                  try simp only [Act.put, List.setIfInBounds_toArray, List.set_cons_zero, List.set_cons_succ, List.getElem_toArray, List.getElem_cons_succ, List.getElem_cons_zero]
                  refine wpAnyH_take (i := 9) (v := ?vr9) rfl (by kernel_rfl) (by kernel_rfl) (by kernel_rfl) (fun _ _ _ h => h) (Or.inl ⟨by kernel_rfl, ?hyr9⟩) (by assumption) ?rsr9
                  case hyr9 => (intro w9 hSw; have hf := fld0; go_simp; try with_reducible rfl)
                  try simp only [Act.put, List.setIfInBounds_toArray, List.set_cons_zero, List.set_cons_succ, List.getElem_toArray, List.getElem_cons_succ, List.getElem_cons_zero]
                  refine wpAnyH_take (i := 10) (v := ?vr10) rfl (by kernel_rfl) (by kernel_rfl) (by kernel_rfl) (fun _ _ _ h => h) (Or.inl ⟨by kernel_rfl, ?hyr10⟩) (by assumption) ?rsr10
                  case hyr10 => (intro w9 hSw; skip; go_simp; try with_reducible rfl)
                  try simp only [Act.put, List.setIfInBounds_toArray, List.set_cons_zero, List.set_cons_succ, List.getElem_toArray, List.getElem_cons_succ, List.getElem_cons_zero]
                  refine wpAnyH_take (i := 11) (v := ?vr11) rfl (by kernel_rfl) (by kernel_rfl) (by kernel_rfl) (fun _ _ _ h => h) (Or.inl ⟨by kernel_rfl, ?hyr11⟩) (by assumption) ?rsr11
                  case hyr11 => (intro w9 hSw; skip; go_simp; try with_reducible rfl)
                  try simp only [Act.put, List.setIfInBounds_toArray, List.set_cons_zero, List.set_cons_succ, List.getElem_toArray, List.getElem_cons_succ, List.getElem_cons_zero]
                  refine wpAnyH_take (i := 12) (v := ?vr12) rfl (by kernel_rfl) (by kernel_rfl) (by kernel_rfl) (fun _ _ _ h => h) (Or.inl ⟨by kernel_rfl, ?hyr12⟩) (by assumption) ?rsr12
                  case hyr12 => (intro w9 hSw; skip; go_simp; try with_reducible rfl)
                  try simp only [Act.put, List.setIfInBounds_toArray, List.set_cons_zero, List.set_cons_succ, List.getElem_toArray, List.getElem_cons_succ, List.getElem_cons_zero]
                  refine wpAnyH_take (i := 13) (v := ?vr13) rfl (by kernel_rfl) (by kernel_rfl) (by kernel_rfl) (fun _ _ _ h => h) (Or.inl ⟨by kernel_rfl, ?hyr13⟩) (by assumption) ?rsr13
                  case hyr13 => (intro w9 hSw; skip; go_simp; try with_reducible rfl)
                  try simp only [Act.put, List.setIfInBounds_toArray, List.set_cons_zero, List.set_cons_succ, List.getElem_toArray, List.getElem_cons_succ, List.getElem_cons_zero]
                  refine wpAnyH_take (i := 14) (v := ?vr14) rfl (by kernel_rfl) (by kernel_rfl) (by kernel_rfl) (fun _ _ _ h => h) (Or.inl ⟨by kernel_rfl, ?hyr14⟩) (by assumption) ?rsr14
                  case hyr14 => (intro w9 hSw; skip; go_simp; try with_reducible rfl)
                  try simp only [Act.put, List.setIfInBounds_toArray, List.set_cons_zero, List.set_cons_succ, List.getElem_toArray, List.getElem_cons_succ, List.getElem_cons_zero]
                  refine wpAnyH_take (i := 15) (v := ?vr15) rfl (by kernel_rfl) (by kernel_rfl) (by kernel_rfl) (fun _ _ _ h => h) (Or.inl ⟨by kernel_rfl, ?hyr15⟩) (by assumption) ?rsr15
                  case hyr15 => (intro w9 hSw; have d := cell_quiet hSw (HYB.out.cell (i := 4) rfl) (by simp); go_simp; try with_reducible rfl)
                  try simp only [Act.put, List.setIfInBounds_toArray, List.set_cons_zero, List.set_cons_succ, List.getElem_toArray, List.getElem_cons_succ, List.getElem_cons_zero]
                  refine wpAnyH_take (i := 18) (v := ?vr18) rfl (by kernel_rfl) (by kernel_rfl) (by kernel_rfl) (fun _ _ _ h => h) (Or.inl ⟨by kernel_rfl, ?hyr18⟩) (by assumption) ?rsr18
                  case hyr18 => (intro w9 hSw; skip; go_simp; try with_reducible rfl)
                  try simp only [Act.put, List.setIfInBounds_toArray, List.set_cons_zero, List.set_cons_succ, List.getElem_toArray, List.getElem_cons_succ, List.getElem_cons_zero]
                  refine wpAnyH_take (i := 19) (v := ?vr19) rfl (by kernel_rfl) (by kernel_rfl) (by kernel_rfl) (fun _ _ _ h => h) (Or.inl ⟨by kernel_rfl, ?hyr19⟩) (by assumption) ?rsr19
                  case hyr19 => (intro w9 hSw; have d := cell_quiet hSw (HYB.out.cell (i := 0) rfl) (by simp); go_simp; try with_reducible rfl)
                  try simp only [Act.put, List.setIfInBounds_toArray, List.set_cons_zero, List.set_cons_succ, List.getElem_toArray, List.getElem_cons_succ, List.getElem_cons_zero]
                  refine wpAnyH_ready (rs := [16]) (by kernel_rfl) (by simp) (AllReadyH.cons rfl (fun K hK => ?_) AllReadyH.nil)
                  go_simp
                  refine (tok_r (Lib.hid (HTU.out.quiet hHeld)) HLL.out a8 HTK2).mono ?_
                  rintro e9 w10 ⟨rfl, hcy⟩
                  refine hK.out _ _ (hHeld.trans hcy (by simp)) (fun hHeld => ?_)
                  clear hK K
                  try simp only [Act.put, List.setIfInBounds_toArray, List.set_cons_zero, List.set_cons_succ, List.getElem_toArray, List.getElem_cons_succ, List.getElem_cons_zero]
                  refine wpAnyH_take (i := 17) (v := ?vr17) rfl (by kernel_rfl) (by kernel_rfl) (by kernel_rfl) (fun _ _ _ h => h) (Or.inl ⟨by kernel_rfl, ?hyr17⟩) (by assumption) ?rsr17
                  case hyr17 => (intro w9 hSw; have hf := fld1; go_simp; try with_reducible rfl)
                  try simp only [Act.put, List.setIfInBounds_toArray, List.set_cons_zero, List.set_cons_succ, List.getElem_toArray, List.getElem_cons_succ, List.getElem_cons_zero]
                  refine wpAnyH_take (i := 20) (v := ?vr20) rfl (by kernel_rfl) (by kernel_rfl) (by kernel_rfl) (fun _ _ _ h => h) (Or.inl ⟨by kernel_rfl, ?hyr20⟩) (by assumption) ?rsr20
                  case hyr20 => (intro w9 hSw; skip; go_simp; try with_reducible rfl)
                  try simp only [Act.put, List.setIfInBounds_toArray, List.set_cons_zero, List.set_cons_succ, List.getElem_toArray, List.getElem_cons_succ, List.getElem_cons_zero]
                  refine wpAnyH_take (i := 21) (v := ?vr21) rfl (by kernel_rfl) (by kernel_rfl) (by kernel_rfl) (fun _ _ _ h => h) (Or.inl ⟨by kernel_rfl, ?hyr21⟩) (by assumption) ?rsr21
                  case hyr21 => (intro w9 hSw; skip; go_simp; try with_reducible rfl)
                  try simp only [Act.put, List.setIfInBounds_toArray, List.set_cons_zero, List.set_cons_succ, List.getElem_toArray, List.getElem_cons_succ, List.getElem_cons_zero]
                  refine wpAnyH_done (by kernel_rfl) ?_ _
                  try simp only [Act.put, List.setIfInBounds_toArray, List.set_cons_zero, List.set_cons_succ, List.getElem_toArray, List.getElem_cons_succ, List.getElem_cons_zero]

                  have HU9 := Lib.hid hHeld
                  have d4 := cell_quiet HU9.out (HYB.out.cell (i := 4) rfl) (by simp)
                  have HC9 : Hid (Chg [] V w10) := Lib.hid (HCU.out.trans HU9.out (by simp))
                  clear hHeld hcx hcy
                  go_wp2_with fail
                  refine ⟨?_, by simp [intOf]; omega⟩
                  first | exact ⟨a8, z + 1, rfl, vint (by omega), by omega, HC9, HRT4⟩ | ((repeat apply Exists.intro); exact ⟨⟨a8, z + 1, rfl, vint (by omega), by omega, HC9, HRT4⟩, rfl⟩)
                · have q1 : ¬ (z : Int) < (d : Int) := by omega
                  have hdr : gs.drop z = [] := List.drop_of_length_le (by rw [HD.out]; omega)
                  rw [hdr] at HRT3
                  have HRG5 := Lib.hid HRT3.out.nil
                  clear hdr
                  go_wp2_with fail
                  refine ⟨?_, by simp [intOf]; omega⟩
                  first | exact ⟨q8, y + 1, rfl, vint (by omega), by omega, HCR3, HRG5⟩ | ((repeat apply Exists.intro); exact ⟨⟨q8, y + 1, rfl, vint (by omega), by omega, HCR3, HRG5⟩, rfl⟩)
            · have q1 : ¬ (y : Int) < (m : Int) := by omega
              have hdr : x.whn.drop y = [] := List.drop_of_length_le (by rw [HM.out]; omega)
              rw [hdr] at HRG2
              have HRI5 := Lib.hid HRG2.out.nil
              have HC5 : Hid (Chg [] W wr) := Lib.hid (HCV.out.trans HCR2.out (by simp))
              clear hdr
              go_wp2_with fail
              refine ⟨?_, by simp [intOf]; omega⟩
              first | exact ⟨q7, j + 1, rfl, vint (by omega), by omega, HC5, HRI5⟩ | ((repeat apply Exists.intro); exact ⟨⟨q7, j + 1, rfl, vint (by omega), by omega, HC5, HRI5⟩, rfl⟩)
        · have q1 : ¬ (j : Int) < (k : Int) := by omega
          have n0 := N0.out
          go_wp2_with fail
          go_ret
          exact ⟨rfl, HCW.out.trans HCR.out (by simp)⟩
    · have n1 : ((E1 : Int) != 0) = true := bne_iff_ne.2 (by omega)
      have hk0 : k = 0 := by
        have h1 : (Rl.parse s).2.1 ≠ 0 := by rw [HE1.out.2.1]; exact e1
        rw [← HE1.out.1, Rl.parse_nonzero h1]
        rfl
      subst hk0
      have d0 := HB.out.cell (i := 0) rfl
      clear e1
      go_wp2_with fail
      go_ret
      exact ⟨rfl, HC13.out⟩
  · have q1 : (4000 : Int) < (sb.size : Int) := by rw [hsz]; omega
    go_wp2_with fail
    go_ret
    exact ⟨rfl, HC1.out⟩
end Go.Proofs.YtmfjebpefneboaaDoor
