/-
  Layer 4: the walk of TreeDiffers.
-/
import Derived.Test.YtpeehlflhnhhjaaDoorLwSound
namespace Go.Proofs.YtpeehlflhnhhjaaDoor
set_option linter.unusedVariables false
set_option linter.unusedSimpArgs false
open Go Go.RowKit Go.Shelf

theorem root_any (w : World) (HL : Hid (Laid w)) (v : Value) (leaves : List Bytes) (HV : Hid (Strs w v leaves)) (hl : leaves.length ≤ 900) (HB : Hid (∀ x ∈ leaves, x.length ≤ 1000000)) :
    Calls Tryd.prog 13 #[v] w fun e w' => e = .returned (.string ⟨(Tr.root leaves).toArray⟩) ∧ Chg [] w w' := by
  cases leaves with
  | nil => exact root_nil w HL v HV
  | cons a r => exact root_cons w HL v _ HV (by simp) hl HB
set_option maxRecDepth 100000 in
set_option maxHeartbeats 4000000 in
theorem differs_walk (w : World) (HL : Hid (Laid w)) (v : Value) (l : List Bytes) (HV : Hid (Strs w v l)) (HS : Hid (Small l)) (u : Value) (mm : List Bytes) (HU : Hid (Strs w u mm)) (HT : Hid (Small mm)) :
    Calls Tryd.prog 6 #[v, u] w fun e w' => e = .returned (.bool true) ∧ Chg [] w w' := by
  obtain ⟨ao, cap, rfl, hcap, hv⟩ := HV.out
  obtain ⟨bo, cup, rfl, hcup, hu⟩ := HU.out
  have HE := Lib.hid hv
  have HG := Lib.hid hu
  obtain ⟨m, hm⟩ : ∃ m, m = l.length := ⟨_, rfl⟩
  obtain ⟨q, hq⟩ : ∃ q, q = mm.length := ⟨_, rfl⟩
  have hm9 : m ≤ 9223372036854775807 := by rw [hm]; exact HS.out.1
  have hq9 : q ≤ 9223372036854775807 := by rw [hq]; exact HT.out.1
  have HV2 : Hid (Strs w (.slice ao m cap) l) := Lib.hid (by rw [hm]; exact HV.out)
  have HU2 : Hid (Strs w (.slice bo q cup) mm) := Lib.hid (by rw [hq]; exact HU.out)
  rw [← hm] at hcap ⊢
  rw [← hq] at hcup ⊢
  have HM := Lib.hid hm
  have HQ := Lib.hid hq
  clear hv hm hu hq
  cases hsh : Tr.short l 40 with
  | false =>
    have HSH := Lib.hid hsh
    clear hsh
    go_enter Tryd.func6, Tryd.ntmps6
    go_wp2_with fail
    refine (head_spec w HL).mono ?_
    rintro e w1 ⟨rfl, hc⟩
    have HC := Lib.hid hc
    clear hc
    go_wp2_with fail
    refine (short_no _ _ l (Lib.hid (HV2.out.quiet HC.out)) HS 40 (by decide) HSH).mono ?_
    rintro e w2 ⟨rfl, rfl⟩
    go_wp2_with fail
    go_ret
    exact ⟨rfl, HC.out⟩
  | true =>
    have HSH := Lib.hid hsh
    have hm60 : m ≤ 40 := by rw [HM.out]; exact short_len hsh
    have HALL := Lib.hid (short_all hsh)
    clear hsh
    cases hsm : Tr.short mm 40 with
    | false =>
      have HSM := Lib.hid hsm
      clear hsm
      go_enter Tryd.func6, Tryd.ntmps6
      go_wp2_with fail
      refine (head_spec w HL).mono ?_
      rintro e w1 ⟨rfl, hc⟩
      have HC := Lib.hid hc
      clear hc
      go_wp2_with fail
      refine (short_yes _ _ l (Lib.hid (HV2.out.quiet HC.out)) HS 40 (by decide) HSH).mono ?_
      rintro e w2 ⟨rfl, rfl⟩
      go_wp2_with fail
      refine (short_no _ _ mm (Lib.hid (HU2.out.quiet HC.out)) HT 40 (by decide) HSM).mono ?_
      rintro e w2 ⟨rfl, rfl⟩
      go_wp2_with fail
      go_ret
      exact ⟨rfl, HC.out⟩
    | true =>
      have HSM := Lib.hid hsm
      have hq60 : q ≤ 40 := by rw [HQ.out]; exact short_len hsm
      have HAMM := Lib.hid (short_all hsm)
      clear hsm
      by_cases hmq : m = q
      · obtain rfl : m = q := hmq
        by_cases hrr : Tr.root l = Tr.root mm
        · have hrb : (!Tr.root l == Tr.root mm) = false := by simpa using hrr
          have HRR := Lib.hid hrr
          clear hrr
          go_enter Tryd.func6, Tryd.ntmps6
          go_wp2_with fail
          refine (head_spec w HL).mono ?_
          rintro e w1 ⟨rfl, hc⟩
          have HC := Lib.hid hc
          clear hc
          go_wp2_with fail
          refine (short_yes _ _ l (Lib.hid (HV2.out.quiet HC.out)) HS 40 (by decide) HSH).mono ?_
          rintro e w2 ⟨rfl, rfl⟩
          go_wp2_with fail
          refine (short_yes _ _ mm (Lib.hid (HU2.out.quiet HC.out)) HT 40 (by decide) HSM).mono ?_
          rintro e w2 ⟨rfl, rfl⟩
          go_wp2_with fail
          refine (root_any _ (Lib.hid (HL.out.quiet HC.out)) _ l (Lib.hid (HV2.out.quiet HC.out)) (by rw [← HM.out]; omega) HALL).mono ?_
          rintro e w3 ⟨rfl, hc3⟩
          have HC3 := Lib.hid (HC.out.trans hc3 (by simp))
          clear hc3 HC
          go_wp2_with fail
          refine (root_any _ (Lib.hid (HL.out.quiet HC3.out)) _ mm (Lib.hid (HU2.out.quiet HC3.out)) (by rw [← HQ.out]; omega) HAMM).mono ?_
          rintro e w4 ⟨rfl, hc4⟩
          have HC4 := Lib.hid (HC3.out.trans hc4 (by simp))
          clear hc4 HC3
          go_wp2_with fail
          go_loopw [6] (fun iv wr => ∃ k : Nat, k ≤ m ∧ iv = .int .i64 (k : Int) ∧ Chg [] w wr) (fun iv _ => m - (intOf iv).toNat)
          case atStart => exact ⟨0, Nat.zero_le _, rfl, HC4.out⟩
          case round =>
            obtain ⟨k, hk, rfl, hch⟩ := hrel
            have HCH := Lib.hid hch
            clear hch HC4 hrb
            by_cases hlt : k < m
            · have hk0 : (0 : Int) ≤ (k : Int) := by omega
              have hk1 : (k : Int) < (m : Int) := by omega
              go_wp2_with fail
              refine (path_in _ (Lib.hid (HL.out.quiet HCH.out)) _ mm (Lib.hid (HU2.out.quiet HCH.out)) (by rw [← HQ.out]; omega) HAMM k (by rw [← HQ.out]; exact hlt)).mono ?_
              rintro e w6 ⟨⟨pv, rfl, hs⟩, hc6⟩
              have HC6 := Lib.hid (HCH.out.trans hc6 (by simp))
              obtain ⟨po, pcap, rfl, hpc, hpe⟩ := hs
              have HPQ : Hid (Strs w6 (.slice po (Tr.path mm k).length pcap) (Tr.path mm k)) := Lib.hid ⟨po, pcap, rfl, hpc, hpe⟩
              obtain ⟨pl, hpl⟩ : ∃ pl, pl = (Tr.path mm k).length := ⟨_, rfl⟩
              have hpl9 : pl ≤ 61 := by rw [hpl]; have := path_le mm k; rw [← HQ.out] at this; omega
              have HP6 : Hid (Strs w6 (.slice po pl pcap) (Tr.path mm k)) := Lib.hid (by rw [hpl]; exact HPQ.out)
              rw [← hpl]
              have HPL := Lib.hid hpl
              have HPA := Lib.hid (path_small mm k)
              clear hc6 hpe hpc hpl HCH HPQ
              have HL6 := Lib.hid (HL.out.quiet HC6.out)
              have HV6 := Lib.hid (HV2.out.quiet HC6.out)
              obtain ⟨x, hx⟩ : ∃ x, l[k]? = some x := ⟨l[k]'(by rw [← HM.out]; exact hlt), by simp⟩
              obtain ⟨y, hy⟩ : ∃ y, mm[k]? = some y := ⟨mm[k]'(by rw [← HQ.out]; exact hlt), by simp⟩
              obtain ⟨g, off, rfl, c0⟩ := HE.out k x hx
              obtain ⟨g2, off2, rfl, c1⟩ := HG.out k y hy
              have d0 := (World.cell?_of_block (HC6.out.block g (World.block_lt_of_cell? _ _ c0) (by simp))).trans c0
              have d1 := (World.cell?_of_block (HC6.out.block g2 (World.block_lt_of_cell? _ _ c1) (by simp))).trans c1
              have HYL : Hid (y.length ≤ 1000000) := Lib.hid (HAMM.out y (List.mem_of_getElem? hy))
              have HXD : Hid (l.getD k [] = x) := Lib.hid (by rw [List.getD_eq_getElem?_getD, hx]; rfl)
              have HYD : Hid (mm.getD k [] = y) := Lib.hid (by rw [List.getD_eq_getElem?_getD, hy]; rfl)
              clear hx hy c0 c1
              by_cases hxy : x = y
              · have hne : (!x == y) = false := by simpa using hxy
                clear hxy
                go_wp2_with fail
                refine wp_region_held_drew (S := (fun W => W.cell? ⟨g, off + k, none⟩ = some (.string ⟨x.toArray⟩) ∧ W.cell? ⟨g2, off2 + k, none⟩ = some (.string ⟨y.toArray⟩) ∧ Chg [] w6 W)) (by kernel_rfl) ⟨d0, d1, (Chg.refl _ _).drew⟩ (fun hHeld => ?_)
                refine wpAnyH_take (i := 0) (v := ?vn0) rfl (by kernel_rfl) (by kernel_rfl) (by kernel_rfl) (fun _ _ _ h => h) (Or.inl ⟨by kernel_rfl, ?hyn0⟩) (by assumption) ?rsn0
                case hyn0 => (intro w9 hSw; (try dsimp only at hSw); go_split_ands; go_simp; try with_reducible rfl)
                try simp only [Act.put, List.setIfInBounds_toArray, List.set_cons_zero, List.set_cons_succ, List.getElem_toArray, List.getElem_cons_succ, List.getElem_cons_zero]
                refine wpAnyH_take (i := 1) (v := ?vn1) rfl (by kernel_rfl) (by kernel_rfl) (by kernel_rfl) (fun _ _ _ h => h) (Or.inl ⟨by kernel_rfl, ?hyn1⟩) (by assumption) ?rsn1
                case hyn1 => (intro w9 hSw; (try dsimp only at hSw); go_split_ands; go_simp; try with_reducible rfl)
                try simp only [Act.put, List.setIfInBounds_toArray, List.set_cons_zero, List.set_cons_succ, List.getElem_toArray, List.getElem_cons_succ, List.getElem_cons_zero]
                refine wpAnyH_take (i := 2) (v := ?vn2) rfl (by kernel_rfl) (by kernel_rfl) (by kernel_rfl) (fun _ _ _ h => h) (Or.inl ⟨by kernel_rfl, ?hyn2⟩) (by assumption) ?rsn2
                case hyn2 => (intro w9 hSw; (try dsimp only at hSw); go_split_ands; go_simp; try with_reducible rfl)
                try simp only [Act.put, List.setIfInBounds_toArray, List.set_cons_zero, List.set_cons_succ, List.getElem_toArray, List.getElem_cons_succ, List.getElem_cons_zero]
                refine wpAnyH_take (i := 3) (v := ?vn3) rfl (by kernel_rfl) (by kernel_rfl) (by kernel_rfl) (fun _ _ _ h => h) (Or.inl ⟨by kernel_rfl, ?hyn3⟩) (by assumption) ?rsn3
                case hyn3 => (intro w9 hSw; (try dsimp only at hSw); go_split_ands; go_simp; try with_reducible rfl)
                try simp only [Act.put, List.setIfInBounds_toArray, List.set_cons_zero, List.set_cons_succ, List.getElem_toArray, List.getElem_cons_succ, List.getElem_cons_zero]
                refine wpAnyH_take (i := 4) (v := ?vn4) rfl (by kernel_rfl) (by kernel_rfl) (by kernel_rfl) (fun _ _ _ h => h) (Or.inl ⟨by kernel_rfl, ?hyn4⟩) (by assumption) ?rsn4
                case hyn4 => (intro w9 hSw; (try dsimp only at hSw); go_split_ands; go_simp; try with_reducible rfl)
                try simp only [Act.put, List.setIfInBounds_toArray, List.set_cons_zero, List.set_cons_succ, List.getElem_toArray, List.getElem_cons_succ, List.getElem_cons_zero]
                refine wpAnyH_take (i := 5) (v := ?vn5) rfl (by kernel_rfl) (by kernel_rfl) (by kernel_rfl) (fun _ _ _ h => h) (Or.inl ⟨by kernel_rfl, ?hyn5⟩) (by assumption) ?rsn5
                case hyn5 => (intro w9 hSw; (try dsimp only at hSw); go_split_ands; go_simp; try with_reducible rfl)
                try simp only [Act.put, List.setIfInBounds_toArray, List.set_cons_zero, List.set_cons_succ, List.getElem_toArray, List.getElem_cons_succ, List.getElem_cons_zero]
                refine wpAnyH_take (i := 6) (v := ?vn6) rfl (by kernel_rfl) (by kernel_rfl) (by kernel_rfl) (fun _ _ _ h => h) (Or.inl ⟨by kernel_rfl, ?hyn6⟩) (by assumption) ?rsn6
                case hyn6 => (intro w9 hSw; (try dsimp only at hSw); go_split_ands; go_simp; try with_reducible rfl)
                try simp only [Act.put, List.setIfInBounds_toArray, List.set_cons_zero, List.set_cons_succ, List.getElem_toArray, List.getElem_cons_succ, List.getElem_cons_zero]
                refine wpAnyH_take (i := 7) (v := ?vn7) rfl (by kernel_rfl) (by kernel_rfl) (by kernel_rfl) (fun _ _ _ h => h) (Or.inl ⟨by kernel_rfl, ?hyn7⟩) (by assumption) ?rsn7
                case hyn7 => (intro w9 hSw; (try dsimp only at hSw); go_split_ands; go_simp; try with_reducible rfl)
                try simp only [Act.put, List.setIfInBounds_toArray, List.set_cons_zero, List.set_cons_succ, List.getElem_toArray, List.getElem_cons_succ, List.getElem_cons_zero]
                refine wpAnyH_take (i := 8) (v := ?vn8) rfl (by kernel_rfl) (by kernel_rfl) (by kernel_rfl) (fun _ _ _ h => h) (Or.inl ⟨by kernel_rfl, ?hyn8⟩) (by assumption) ?rsn8
                case hyn8 => (intro w9 hSw; (try dsimp only at hSw); go_split_ands; go_simp; try with_reducible rfl)
                try simp only [Act.put, List.setIfInBounds_toArray, List.set_cons_zero, List.set_cons_succ, List.getElem_toArray, List.getElem_cons_succ, List.getElem_cons_zero]
                refine wpAnyH_take (i := 9) (v := ?vn9) rfl (by kernel_rfl) (by kernel_rfl) (by kernel_rfl) (fun _ _ _ h => h) (Or.inl ⟨by kernel_rfl, ?hyn9⟩) (by assumption) ?rsn9
                case hyn9 => (intro w9 hSw; (try dsimp only at hSw); go_split_ands; go_simp; try with_reducible rfl)
                try simp only [Act.put, List.setIfInBounds_toArray, List.set_cons_zero, List.set_cons_succ, List.getElem_toArray, List.getElem_cons_succ, List.getElem_cons_zero]
                refine wpAnyH_take (i := 10) (v := ?vn10) rfl (by kernel_rfl) (by kernel_rfl) (by kernel_rfl) (fun _ _ _ h => h) (Or.inl ⟨by kernel_rfl, ?hyn10⟩) (by assumption) ?rsn10
                case hyn10 => (intro w9 hSw; (try dsimp only at hSw); go_split_ands; go_simp; try with_reducible rfl)
                try simp only [Act.put, List.setIfInBounds_toArray, List.set_cons_zero, List.set_cons_succ, List.getElem_toArray, List.getElem_cons_succ, List.getElem_cons_zero]
                refine wpAnyH_take (i := 11) (v := ?vn11) rfl (by kernel_rfl) (by kernel_rfl) (by kernel_rfl) (fun _ _ _ h => h) (Or.inl ⟨by kernel_rfl, ?hyn11⟩) (by assumption) ?rsn11
                case hyn11 => (intro w9 hSw; (try dsimp only at hSw); go_split_ands; go_simp; try with_reducible rfl)
                try simp only [Act.put, List.setIfInBounds_toArray, List.set_cons_zero, List.set_cons_succ, List.getElem_toArray, List.getElem_cons_succ, List.getElem_cons_zero]
                refine wpAnyH_take (i := 12) (v := ?vn12) rfl (by kernel_rfl) (by kernel_rfl) (by kernel_rfl) (fun _ _ _ h => h) (Or.inl ⟨by kernel_rfl, ?hyn12⟩) (by assumption) ?rsn12
                case hyn12 => (intro w9 hSw; (try dsimp only at hSw); go_split_ands; go_simp; try with_reducible rfl)
                try simp only [Act.put, List.setIfInBounds_toArray, List.set_cons_zero, List.set_cons_succ, List.getElem_toArray, List.getElem_cons_succ, List.getElem_cons_zero]
                refine wpAnyH_take (i := 13) (v := undef) rfl (by kernel_rfl) (by kernel_rfl) (by kernel_rfl) (fun _ _ _ h => h) (Or.inr ⟨by kernel_rfl, rfl⟩) (by assumption) ?rsn13
                try simp only [Act.put, List.setIfInBounds_toArray, List.set_cons_zero, List.set_cons_succ, List.getElem_toArray, List.getElem_cons_succ, List.getElem_cons_zero]
                refine wpAnyH_take (i := 14) (v := undef) rfl (by kernel_rfl) (by kernel_rfl) (by kernel_rfl) (fun _ _ _ h => h) (Or.inr ⟨by kernel_rfl, rfl⟩) (by assumption) ?rsn14
                try simp only [Act.put, List.setIfInBounds_toArray, List.set_cons_zero, List.set_cons_succ, List.getElem_toArray, List.getElem_cons_succ, List.getElem_cons_zero]
                refine wpAnyH_take (i := 15) (v := undef) rfl (by kernel_rfl) (by kernel_rfl) (by kernel_rfl) (fun _ _ _ h => h) (Or.inr ⟨by kernel_rfl, rfl⟩) (by assumption) ?rsn15
                try simp only [Act.put, List.setIfInBounds_toArray, List.set_cons_zero, List.set_cons_succ, List.getElem_toArray, List.getElem_cons_succ, List.getElem_cons_zero]
                refine wpAnyH_take (i := 16) (v := undef) rfl (by kernel_rfl) (by kernel_rfl) (by kernel_rfl) (fun _ _ _ h => h) (Or.inr ⟨by kernel_rfl, rfl⟩) (by assumption) ?rsn16
                try simp only [Act.put, List.setIfInBounds_toArray, List.set_cons_zero, List.set_cons_succ, List.getElem_toArray, List.getElem_cons_succ, List.getElem_cons_zero]
                refine wpAnyH_take (i := 17) (v := undef) rfl (by kernel_rfl) (by kernel_rfl) (by kernel_rfl) (fun _ _ _ h => h) (Or.inr ⟨by kernel_rfl, rfl⟩) (by assumption) ?rsn17
                try simp only [Act.put, List.setIfInBounds_toArray, List.set_cons_zero, List.set_cons_succ, List.getElem_toArray, List.getElem_cons_succ, List.getElem_cons_zero]
                refine wpAnyH_take (i := 18) (v := undef) rfl (by kernel_rfl) (by kernel_rfl) (by kernel_rfl) (fun _ _ _ h => h) (Or.inr ⟨by kernel_rfl, rfl⟩) (by assumption) ?rsn18
                try simp only [Act.put, List.setIfInBounds_toArray, List.set_cons_zero, List.set_cons_succ, List.getElem_toArray, List.getElem_cons_succ, List.getElem_cons_zero]
                refine wpAnyH_take (i := 19) (v := undef) rfl (by kernel_rfl) (by kernel_rfl) (by kernel_rfl) (fun _ _ _ h => h) (Or.inr ⟨by kernel_rfl, rfl⟩) (by assumption) ?rsn19
                try simp only [Act.put, List.setIfInBounds_toArray, List.set_cons_zero, List.set_cons_succ, List.getElem_toArray, List.getElem_cons_succ, List.getElem_cons_zero]
                refine wpAnyH_take (i := 20) (v := undef) rfl (by kernel_rfl) (by kernel_rfl) (by kernel_rfl) (fun _ _ _ h => h) (Or.inr ⟨by kernel_rfl, rfl⟩) (by assumption) ?rsn20
                try simp only [Act.put, List.setIfInBounds_toArray, List.set_cons_zero, List.set_cons_succ, List.getElem_toArray, List.getElem_cons_succ, List.getElem_cons_zero]
                refine wpAnyH_take (i := 21) (v := undef) rfl (by kernel_rfl) (by kernel_rfl) (by kernel_rfl) (fun _ _ _ h => h) (Or.inr ⟨by kernel_rfl, rfl⟩) (by assumption) ?rsn21
                try simp only [Act.put, List.setIfInBounds_toArray, List.set_cons_zero, List.set_cons_succ, List.getElem_toArray, List.getElem_cons_succ, List.getElem_cons_zero]
                refine wpAnyH_take (i := 22) (v := ?vn22) rfl (by kernel_rfl) (by kernel_rfl) (by kernel_rfl) (fun _ _ _ h => h) (Or.inl ⟨by kernel_rfl, ?hyn22⟩) (by assumption) ?rsn22
                case hyn22 => (intro w9 hSw; (try dsimp only at hSw); go_split_ands; go_simp; try with_reducible rfl)
                try simp only [Act.put, List.setIfInBounds_toArray, List.set_cons_zero, List.set_cons_succ, List.getElem_toArray, List.getElem_cons_succ, List.getElem_cons_zero]
                refine wpAnyH_take (i := 23) (v := ?vn23) rfl (by kernel_rfl) (by kernel_rfl) (by kernel_rfl) (fun _ _ _ h => h) (Or.inl ⟨by kernel_rfl, ?hyn23⟩) (by assumption) ?rsn23
                case hyn23 => (intro w9 hSw; (try dsimp only at hSw); go_split_ands; go_simp; try with_reducible rfl)
                try simp only [Act.put, List.setIfInBounds_toArray, List.set_cons_zero, List.set_cons_succ, List.getElem_toArray, List.getElem_cons_succ, List.getElem_cons_zero]
                refine wpAnyH_done (by kernel_rfl) ?_ _
                try simp only [Act.put, List.setIfInBounds_toArray, List.set_cons_zero, List.set_cons_succ, List.getElem_toArray, List.getElem_cons_succ, List.getElem_cons_zero]
                have HC8 := Lib.hid (HC6.out.trans hHeld.2.2 (by simp))
                clear hHeld d0 d1 HC6
                go_wp2_with fail
                refine ⟨⟨k + 1, by omega, by go_num, HC8.out⟩, by simp [intOf]; omega⟩
              · have hne : (!x == y) = true := by simpa using hxy
                have HFT : Hid (Tr.found l k y (Tr.path mm k) = true) := Lib.hid (by
                  have hck := Tr.check_path mm k (by rw [← HQ.out]; exact hlt)
                  rw [HYD.out, ← HRR.out, ← HQ.out, HM.out] at hck
                  rcases Tr.found_sound l k y (Tr.path mm k) (by rw [← HM.out]; exact hlt) hck with h | ⟨h, _⟩
                  · exact h
                  · rw [HXD.out] at h
                    exact absurd h.symm hxy)
                clear hxy
                go_wp2_with fail
                refine wp_region_held_drew (S := (fun W => W.cell? ⟨g, off + k, none⟩ = some (.string ⟨x.toArray⟩) ∧ W.cell? ⟨g2, off2 + k, none⟩ = some (.string ⟨y.toArray⟩) ∧ Chg [] w6 W)) (by kernel_rfl) ⟨d0, d1, (Chg.refl _ _).drew⟩ (fun hHeld => ?_)
                refine wpAnyH_take (i := 0) (v := ?vy0) rfl (by kernel_rfl) (by kernel_rfl) (by kernel_rfl) (fun _ _ _ h => h) (Or.inl ⟨by kernel_rfl, ?hyy0⟩) (by assumption) ?rsy0
                case hyy0 => (intro w9 hSw; (try dsimp only at hSw); go_split_ands; go_simp; try with_reducible rfl)
                try simp only [Act.put, List.setIfInBounds_toArray, List.set_cons_zero, List.set_cons_succ, List.getElem_toArray, List.getElem_cons_succ, List.getElem_cons_zero]
                refine wpAnyH_take (i := 1) (v := ?vy1) rfl (by kernel_rfl) (by kernel_rfl) (by kernel_rfl) (fun _ _ _ h => h) (Or.inl ⟨by kernel_rfl, ?hyy1⟩) (by assumption) ?rsy1
                case hyy1 => (intro w9 hSw; (try dsimp only at hSw); go_split_ands; go_simp; try with_reducible rfl)
                try simp only [Act.put, List.setIfInBounds_toArray, List.set_cons_zero, List.set_cons_succ, List.getElem_toArray, List.getElem_cons_succ, List.getElem_cons_zero]
                refine wpAnyH_take (i := 2) (v := ?vy2) rfl (by kernel_rfl) (by kernel_rfl) (by kernel_rfl) (fun _ _ _ h => h) (Or.inl ⟨by kernel_rfl, ?hyy2⟩) (by assumption) ?rsy2
                case hyy2 => (intro w9 hSw; (try dsimp only at hSw); go_split_ands; go_simp; try with_reducible rfl)
                try simp only [Act.put, List.setIfInBounds_toArray, List.set_cons_zero, List.set_cons_succ, List.getElem_toArray, List.getElem_cons_succ, List.getElem_cons_zero]
                refine wpAnyH_take (i := 3) (v := ?vy3) rfl (by kernel_rfl) (by kernel_rfl) (by kernel_rfl) (fun _ _ _ h => h) (Or.inl ⟨by kernel_rfl, ?hyy3⟩) (by assumption) ?rsy3
                case hyy3 => (intro w9 hSw; (try dsimp only at hSw); go_split_ands; go_simp; try with_reducible rfl)
                try simp only [Act.put, List.setIfInBounds_toArray, List.set_cons_zero, List.set_cons_succ, List.getElem_toArray, List.getElem_cons_succ, List.getElem_cons_zero]
                refine wpAnyH_take (i := 4) (v := ?vy4) rfl (by kernel_rfl) (by kernel_rfl) (by kernel_rfl) (fun _ _ _ h => h) (Or.inl ⟨by kernel_rfl, ?hyy4⟩) (by assumption) ?rsy4
                case hyy4 => (intro w9 hSw; (try dsimp only at hSw); go_split_ands; go_simp; try with_reducible rfl)
                try simp only [Act.put, List.setIfInBounds_toArray, List.set_cons_zero, List.set_cons_succ, List.getElem_toArray, List.getElem_cons_succ, List.getElem_cons_zero]
                refine wpAnyH_take (i := 5) (v := ?vy5) rfl (by kernel_rfl) (by kernel_rfl) (by kernel_rfl) (fun _ _ _ h => h) (Or.inl ⟨by kernel_rfl, ?hyy5⟩) (by assumption) ?rsy5
                case hyy5 => (intro w9 hSw; (try dsimp only at hSw); go_split_ands; go_simp; try with_reducible rfl)
                try simp only [Act.put, List.setIfInBounds_toArray, List.set_cons_zero, List.set_cons_succ, List.getElem_toArray, List.getElem_cons_succ, List.getElem_cons_zero]
                refine wpAnyH_take (i := 6) (v := ?vy6) rfl (by kernel_rfl) (by kernel_rfl) (by kernel_rfl) (fun _ _ _ h => h) (Or.inl ⟨by kernel_rfl, ?hyy6⟩) (by assumption) ?rsy6
                case hyy6 => (intro w9 hSw; (try dsimp only at hSw); go_split_ands; go_simp; try with_reducible rfl)
                try simp only [Act.put, List.setIfInBounds_toArray, List.set_cons_zero, List.set_cons_succ, List.getElem_toArray, List.getElem_cons_succ, List.getElem_cons_zero]
                refine wpAnyH_take (i := 7) (v := ?vy7) rfl (by kernel_rfl) (by kernel_rfl) (by kernel_rfl) (fun _ _ _ h => h) (Or.inl ⟨by kernel_rfl, ?hyy7⟩) (by assumption) ?rsy7
                case hyy7 => (intro w9 hSw; (try dsimp only at hSw); go_split_ands; go_simp; try with_reducible rfl)
                try simp only [Act.put, List.setIfInBounds_toArray, List.set_cons_zero, List.set_cons_succ, List.getElem_toArray, List.getElem_cons_succ, List.getElem_cons_zero]
                refine wpAnyH_take (i := 8) (v := ?vy8) rfl (by kernel_rfl) (by kernel_rfl) (by kernel_rfl) (fun _ _ _ h => h) (Or.inl ⟨by kernel_rfl, ?hyy8⟩) (by assumption) ?rsy8
                case hyy8 => (intro w9 hSw; (try dsimp only at hSw); go_split_ands; go_simp; try with_reducible rfl)
                try simp only [Act.put, List.setIfInBounds_toArray, List.set_cons_zero, List.set_cons_succ, List.getElem_toArray, List.getElem_cons_succ, List.getElem_cons_zero]
                refine wpAnyH_take (i := 9) (v := ?vy9) rfl (by kernel_rfl) (by kernel_rfl) (by kernel_rfl) (fun _ _ _ h => h) (Or.inl ⟨by kernel_rfl, ?hyy9⟩) (by assumption) ?rsy9
                case hyy9 => (intro w9 hSw; (try dsimp only at hSw); go_split_ands; go_simp; try with_reducible rfl)
                try simp only [Act.put, List.setIfInBounds_toArray, List.set_cons_zero, List.set_cons_succ, List.getElem_toArray, List.getElem_cons_succ, List.getElem_cons_zero]
                refine wpAnyH_take (i := 10) (v := ?vy10) rfl (by kernel_rfl) (by kernel_rfl) (by kernel_rfl) (fun _ _ _ h => h) (Or.inl ⟨by kernel_rfl, ?hyy10⟩) (by assumption) ?rsy10
                case hyy10 => (intro w9 hSw; (try dsimp only at hSw); go_split_ands; go_simp; try with_reducible rfl)
                try simp only [Act.put, List.setIfInBounds_toArray, List.set_cons_zero, List.set_cons_succ, List.getElem_toArray, List.getElem_cons_succ, List.getElem_cons_zero]
                refine wpAnyH_take (i := 11) (v := ?vy11) rfl (by kernel_rfl) (by kernel_rfl) (by kernel_rfl) (fun _ _ _ h => h) (Or.inl ⟨by kernel_rfl, ?hyy11⟩) (by assumption) ?rsy11
                case hyy11 => (intro w9 hSw; (try dsimp only at hSw); go_split_ands; go_simp; try with_reducible rfl)
                try simp only [Act.put, List.setIfInBounds_toArray, List.set_cons_zero, List.set_cons_succ, List.getElem_toArray, List.getElem_cons_succ, List.getElem_cons_zero]
                refine wpAnyH_take (i := 12) (v := ?vy12) rfl (by kernel_rfl) (by kernel_rfl) (by kernel_rfl) (fun _ _ _ h => h) (Or.inl ⟨by kernel_rfl, ?hyy12⟩) (by assumption) ?rsy12
                case hyy12 => (intro w9 hSw; (try dsimp only at hSw); go_split_ands; go_simp; try with_reducible rfl)
                try simp only [Act.put, List.setIfInBounds_toArray, List.set_cons_zero, List.set_cons_succ, List.getElem_toArray, List.getElem_cons_succ, List.getElem_cons_zero]
                refine wpAnyH_take (i := 13) (v := ?vy13) rfl (by kernel_rfl) (by kernel_rfl) (by kernel_rfl) (fun _ _ _ h => h) (Or.inl ⟨by kernel_rfl, ?hyy13⟩) (by assumption) ?rsy13
                case hyy13 => (intro w9 hSw; (try dsimp only at hSw); go_split_ands; go_simp; try with_reducible rfl)
                try simp only [Act.put, List.setIfInBounds_toArray, List.set_cons_zero, List.set_cons_succ, List.getElem_toArray, List.getElem_cons_succ, List.getElem_cons_zero]
                refine wpAnyH_take (i := 14) (v := ?vy14) rfl (by kernel_rfl) (by kernel_rfl) (by kernel_rfl) (fun _ _ _ h => h) (Or.inl ⟨by kernel_rfl, ?hyy14⟩) (by assumption) ?rsy14
                case hyy14 => (intro w9 hSw; (try dsimp only at hSw); go_split_ands; go_simp; try with_reducible rfl)
                try simp only [Act.put, List.setIfInBounds_toArray, List.set_cons_zero, List.set_cons_succ, List.getElem_toArray, List.getElem_cons_succ, List.getElem_cons_zero]
                refine wpAnyH_take (i := 15) (v := ?vy15) rfl (by kernel_rfl) (by kernel_rfl) (by kernel_rfl) (fun _ _ _ h => h) (Or.inl ⟨by kernel_rfl, ?hyy15⟩) (by assumption) ?rsy15
                case hyy15 => (intro w9 hSw; (try dsimp only at hSw); go_split_ands; go_simp; try with_reducible rfl)
                try simp only [Act.put, List.setIfInBounds_toArray, List.set_cons_zero, List.set_cons_succ, List.getElem_toArray, List.getElem_cons_succ, List.getElem_cons_zero]
                refine wpAnyH_take (i := 16) (v := ?vy16) rfl (by kernel_rfl) (by kernel_rfl) (by kernel_rfl) (fun _ _ _ h => h) (Or.inl ⟨by kernel_rfl, ?hyy16⟩) (by assumption) ?rsy16
                case hyy16 => (intro w9 hSw; (try dsimp only at hSw); go_split_ands; go_simp; try with_reducible rfl)
                try simp only [Act.put, List.setIfInBounds_toArray, List.set_cons_zero, List.set_cons_succ, List.getElem_toArray, List.getElem_cons_succ, List.getElem_cons_zero]
                refine wpAnyH_take (i := 17) (v := ?vy17) rfl (by kernel_rfl) (by kernel_rfl) (by kernel_rfl) (fun _ _ _ h => h) (Or.inl ⟨by kernel_rfl, ?hyy17⟩) (by assumption) ?rsy17
                case hyy17 => (intro w9 hSw; (try dsimp only at hSw); go_split_ands; go_simp; try with_reducible rfl)
                try simp only [Act.put, List.setIfInBounds_toArray, List.set_cons_zero, List.set_cons_succ, List.getElem_toArray, List.getElem_cons_succ, List.getElem_cons_zero]
                refine wpAnyH_take (i := 18) (v := ?vy18) rfl (by kernel_rfl) (by kernel_rfl) (by kernel_rfl) (fun _ _ _ h => h) (Or.inl ⟨by kernel_rfl, ?hyy18⟩) (by assumption) ?rsy18
                case hyy18 => (intro w9 hSw; (try dsimp only at hSw); go_split_ands; go_simp; try with_reducible rfl)
                try simp only [Act.put, List.setIfInBounds_toArray, List.set_cons_zero, List.set_cons_succ, List.getElem_toArray, List.getElem_cons_succ, List.getElem_cons_zero]
                refine wpAnyH_take (i := 19) (v := ?vy19) rfl (by kernel_rfl) (by kernel_rfl) (by kernel_rfl) (fun _ _ _ h => h) (Or.inl ⟨by kernel_rfl, ?hyy19⟩) (by assumption) ?rsy19
                case hyy19 => (intro w9 hSw; (try dsimp only at hSw); go_split_ands; go_simp; try with_reducible rfl)
                try simp only [Act.put, List.setIfInBounds_toArray, List.set_cons_zero, List.set_cons_succ, List.getElem_toArray, List.getElem_cons_succ, List.getElem_cons_zero]
                refine wpAnyH_ready (rs := [20]) (by kernel_rfl) (by simp) (AllReadyH.cons rfl (fun K hK => ?_) AllReadyH.nil)
                go_simp
                refine (found_true _ (Lib.hid (HL6.out.quiet hHeld.2.2)) (.slice (some ⟨g, off, none⟩) m cap) l (Lib.hid (HV6.out.quiet hHeld.2.2)) k (by rw [← HM.out]; exact hlt) (by rw [← HM.out]; omega) HALL y HYL.out (.slice po pl pcap) (Tr.path mm k) (Lib.hid (HP6.out.quiet hHeld.2.2)) (by rw [← HPL.out]; omega) HPA HFT).mono ?_
                rintro e9 w9 ⟨rfl, hcx⟩
                refine hK.out _ _ (held2 (hHeld.2.2.trans hcx (by simp)) d0 d1) (fun hHeld => ?_)
                clear hK K
                try simp only [Act.put, List.setIfInBounds_toArray, List.set_cons_zero, List.set_cons_succ, List.getElem_toArray, List.getElem_cons_succ, List.getElem_cons_zero]
                refine wpAnyH_take (i := 21) (v := ?vy21) rfl (by kernel_rfl) (by kernel_rfl) (by kernel_rfl) (fun _ _ _ h => h) (Or.inl ⟨by kernel_rfl, ?hyy21⟩) (by assumption) ?rsy21
                case hyy21 => (intro w9 hSw; (try dsimp only at hSw); go_split_ands; go_simp; try with_reducible rfl)
                try simp only [Act.put, List.setIfInBounds_toArray, List.set_cons_zero, List.set_cons_succ, List.getElem_toArray, List.getElem_cons_succ, List.getElem_cons_zero]
                refine wpAnyH_take (i := 22) (v := ?vy22) rfl (by kernel_rfl) (by kernel_rfl) (by kernel_rfl) (fun _ _ _ h => h) (Or.inl ⟨by kernel_rfl, ?hyy22⟩) (by assumption) ?rsy22
                case hyy22 => (intro w9 hSw; (try dsimp only at hSw); go_split_ands; go_simp; try with_reducible rfl)
                try simp only [Act.put, List.setIfInBounds_toArray, List.set_cons_zero, List.set_cons_succ, List.getElem_toArray, List.getElem_cons_succ, List.getElem_cons_zero]
                refine wpAnyH_take (i := 23) (v := ?vy23) rfl (by kernel_rfl) (by kernel_rfl) (by kernel_rfl) (fun _ _ _ h => h) (Or.inl ⟨by kernel_rfl, ?hyy23⟩) (by assumption) ?rsy23
                case hyy23 => (intro w9 hSw; (try dsimp only at hSw); go_split_ands; go_simp; try with_reducible rfl)
                try simp only [Act.put, List.setIfInBounds_toArray, List.set_cons_zero, List.set_cons_succ, List.getElem_toArray, List.getElem_cons_succ, List.getElem_cons_zero]
                refine wpAnyH_done (by kernel_rfl) ?_ _
                try simp only [Act.put, List.setIfInBounds_toArray, List.set_cons_zero, List.set_cons_succ, List.getElem_toArray, List.getElem_cons_succ, List.getElem_cons_zero]
                have HC8 := Lib.hid (HC6.out.trans hHeld.2.2 (by simp))
                clear hHeld d0 d1 HC6
                go_wp2_with fail
                refine ⟨⟨k + 1, by omega, by go_num, HC8.out⟩, by simp [intOf]; omega⟩
            · go_wp2_with fail
              go_ret
              exact ⟨rfl, HCH.out⟩
        · have hrb : (!Tr.root l == Tr.root mm) = true := by simpa using hrr
          clear hrr
          go_enter Tryd.func6, Tryd.ntmps6
          go_wp2_with fail
          refine (head_spec w HL).mono ?_
          rintro e w1 ⟨rfl, hc⟩
          have HC := Lib.hid hc
          clear hc
          go_wp2_with fail
          refine (short_yes _ _ l (Lib.hid (HV2.out.quiet HC.out)) HS 40 (by decide) HSH).mono ?_
          rintro e w2 ⟨rfl, rfl⟩
          go_wp2_with fail
          refine (short_yes _ _ mm (Lib.hid (HU2.out.quiet HC.out)) HT 40 (by decide) HSM).mono ?_
          rintro e w2 ⟨rfl, rfl⟩
          go_wp2_with fail
          refine (root_any _ (Lib.hid (HL.out.quiet HC.out)) _ l (Lib.hid (HV2.out.quiet HC.out)) (by rw [← HM.out]; omega) HALL).mono ?_
          rintro e w3 ⟨rfl, hc3⟩
          have HC3 := Lib.hid (HC.out.trans hc3 (by simp))
          clear hc3 HC
          go_wp2_with fail
          refine (root_any _ (Lib.hid (HL.out.quiet HC3.out)) _ mm (Lib.hid (HU2.out.quiet HC3.out)) (by rw [← HQ.out]; omega) HAMM).mono ?_
          rintro e w4 ⟨rfl, hc4⟩
          have HC4 := Lib.hid (HC3.out.trans hc4 (by simp))
          clear hc4 HC3
          go_wp2_with fail
          go_ret
          exact ⟨rfl, HC4.out⟩
      · have hmqb : (!(m : Int) == (q : Int)) = true := by simp; omega
        go_enter Tryd.func6, Tryd.ntmps6
        go_wp2_with fail
        refine (head_spec w HL).mono ?_
        rintro e w1 ⟨rfl, hc⟩
        have HC := Lib.hid hc
        clear hc
        go_wp2_with fail
        refine (short_yes _ _ l (Lib.hid (HV2.out.quiet HC.out)) HS 40 (by decide) HSH).mono ?_
        rintro e w2 ⟨rfl, rfl⟩
        go_wp2_with fail
        refine (short_yes _ _ mm (Lib.hid (HU2.out.quiet HC.out)) HT 40 (by decide) HSM).mono ?_
        rintro e w2 ⟨rfl, rfl⟩
        go_wp2_with fail
        go_ret
        exact ⟨rfl, HC.out⟩
end Go.Proofs.YtpeehlflhnhhjaaDoor
