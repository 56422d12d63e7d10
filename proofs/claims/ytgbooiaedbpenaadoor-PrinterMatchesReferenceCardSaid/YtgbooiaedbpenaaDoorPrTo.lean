/-
 Printer, the reference of rules: items that can be written.
-/
import Derived.Test.YtgbooiaedbpenaaDoorPrTn
import Derived.Test.YtgbooiaedbpenaaDoorPrTc
import Derived.Test.YtgbooiaedbpenaaDoorPrRu
namespace Go.Proofs.YtgbooiaedbpenaaDoor
set_option linter.unusedVariables false
set_option linter.unusedSimpArgs false
open Go Go.RowKit Go.Shelf
attribute [local irreducible] Go.wpStill
theorem list_bad {y : List Pr.Tst} (h : y.all Pr.testOk = false) : Pr.listOk y = false := by unfold Pr.listOk; rw [h]; simp
theorem list_good {y : List Pr.Tst} (h0 : 0 < y.length) (h1 : y.length ≤ 12) (h : y.all Pr.testOk = true) : Pr.listOk y = true := by unfold Pr.listOk; rw [h, decide_eq_true h0, decide_eq_true h1]; rfl
set_option maxHeartbeats 16000000 in
set_option maxRecDepth 100000 in
theorem item8_r {w0 w : World} (HQ : Hid (Chg [] w0 w)) (x : Pr.Itm) (ao : Option Addr) (cap n : Nat) (HM : Hid (RdS 1 Pr.RTl w0 (.slice ao n cap) x.whn)) (HSI : Hid (SzI x)) {R : Ending → World → Prop} (h : ∀ w', Chg [] w w' → R (.returned (.bool (Pr.itemOk x))) w') :
 Calls Tryd.prog 33 #[.agg #[.int .i64 x.kind, .string ⟨x.name.toArray⟩, .slice ao n cap, .int .i64 x.n, .int .i64 x.r.1, .int .i64 x.r.2, .int .i64 x.s.1, .int .i64 x.s.2, .int .i64 x.at_]] w R := by
 obtain ⟨kd, nm, whn, nn, ⟨r1, r2⟩, ⟨s1, s2⟩, pos⟩ := x
 show Calls Tryd.prog 33 #[.agg #[.int .i64 kd, .string ⟨nm.toArray⟩, .slice ao n cap, .int .i64 nn, .int .i64 r1, .int .i64 r2, .int .i64 s1, .int .i64 s2, .int .i64 pos]] w R
 obtain ⟨ok, hok⟩ : ∃ z, z = Pr.itemOk ⟨kd, nm, whn, nn, (r1, r2), (s1, s2), pos⟩ := ⟨_, rfl⟩
 rw [← hok] at h
 have HRR := hd h
 clear h
 have HP : Hid (¬ ((1 ≤ kd ∧ kd ≤ 7) ∧ Pr.nameOk nm = true ∧ Pr.numsOk [nn, r1, r2, s1, s2] = true ∧ whn.length ≤ 12 ∧ (kd = 1 ∨ kd = 3 ∨ nn = 0) ∧ (kd = 3 ∨ kd = 4 ∨ ((s1 = 0 ∧ s2 = 0) ∧ (kd = 5 ∨ (r1 = 0 ∧ r2 = 0))))) → ok = false) := hd (fun h => by rw [hok]; exact Pr.item_no h)
 have HLF : Hid (whn.all Pr.listOk = false → ok = false) := hd (fun h => by rw [hok]; exact Pr.item_list h)
 have HLT : Hid (((1 ≤ kd ∧ kd ≤ 7) ∧ Pr.nameOk nm = true ∧ Pr.numsOk [nn, r1, r2, s1, s2] = true ∧ whn.length ≤ 12 ∧ (kd = 1 ∨ kd = 3 ∨ nn = 0) ∧ (kd = 3 ∨ kd = 4 ∨ ((s1 = 0 ∧ s2 = 0) ∧ (kd = 5 ∨ (r1 = 0 ∧ r2 = 0))))) → whn.all Pr.listOk = true → ok = true) := hd (fun h1 h2 => by rw [hok]; exact (Pr.item_iff _).2 ⟨h1, h2⟩)
 clear hok
 have bn : nm.length ≤ 1000 := HSI.out.1
 have HB : Hid (∀ y ∈ whn, ∀ t ∈ y, t.attr.length ≤ 1000 ∧ t.name.length ≤ 1000) := hd HSI.out.2
 clear HSI
 have HM9 : Hid (RdS 1 Pr.RTl w0 (.slice ao n cap) whn) := hd HM.out
 clear HM
 obtain ⟨u0, v0, s0⟩ := HM9.out.cp
 have HN := hd s0
 clear s0
 go_enter Tryd.func33, Tryd.ntmps33
 go_upto_region 1 with (fail)
 obtain ⟨w1, hw⟩ : ∃ W, W = w.alloc (.cells #[.int .i64 kd, .string ⟨nm.toArray⟩, .slice ao n cap, .int .i64 nn, .int .i64 r1, .int .i64 r2, .int .i64 s1, .int .i64 s2, .int .i64 pos] 60) := ⟨_, rfl⟩
 rw [← hw]
 obtain ⟨G, hX⟩ : ∃ X, X = w.heap.size := ⟨_, rfl⟩
 rw [← hX]
 have HG : Hid (Blk w1 G [.int .i64 kd, .string ⟨nm.toArray⟩, .slice ao n cap, .int .i64 nn, .int .i64 r1, .int .i64 r2, .int .i64 s1, .int .i64 s2, .int .i64 pos] 60) := hd (by rw [hw, hX]; exact Blk.new w [.int .i64 kd, .string ⟨nm.toArray⟩, .slice ao n cap, .int .i64 nn, .int .i64 r1, .int .i64 r2, .int .i64 s1, .int .i64 s2, .int .i64 pos] _)
 have C1 : Hid (Chg [] w w1) := hd (by rw [hw]; exact (Chg.refl _ _).alloc _)
 clear hw hX
 have g0 := HG.out.cell (i := 0) rfl
 have g1 := HG.out.cell (i := 1) rfl
 have g2 := HG.out.cell (i := 2) rfl
 have g3 := HG.out.cell (i := 3) rfl
 have g4 := HG.out.cell (i := 4) rfl
 have g5 := HG.out.cell (i := 5) rfl
 have g6 := HG.out.cell (i := 6) rfl
 have g7 := HG.out.cell (i := 7) rfl
 by_cases hk1 : kd < 1
 · skip
   have HF : Hid (ok = false) := hd (HP.out (fun h => by have := h.1.1; omega))
   go_wp2_with fail
   have h9 := HRR.out w1 (C1.out)
   rw [HF.out] at h9
   exact h9
 by_cases hk7 : 7 < kd
 · skip
   have HF : Hid (ok = false) := hd (HP.out (fun h => by have := h.1.2; omega))
   go_wp2_with fail
   have h9 := HRR.out w1 (C1.out)
   rw [HF.out] at h9
   exact h9
 go_wp2_with fail
 refine name8_r nm (by omega) ?_
 obtain ⟨q, hq⟩ : ∃ q, q = Pr.nameOk nm := ⟨_, rfl⟩
 rw [← hq]
 have Hq := hd hq.symm
 clear hq
 cases q with
 | false =>
  have HF : Hid (ok = false) := hd (HP.out (fun h => by have h8 := h.2.1; rw [Hq.out] at h8; cases h8))
  go_wp2_with fail
  have h9 := HRR.out w1 (C1.out)
  rw [HF.out] at h9
  exact h9
 | true =>
  go_wp2_with fail
  refine number_r [nn, r1, r2, s1, s2] 5 ⟨rfl, by decide⟩ (hd (Blk.new w1 [.int .i64 nn, .int .i64 r1, .int .i64 r2, .int .i64 s1, .int .i64 s2] 3)) ?_
  obtain ⟨w2, hw⟩ : ∃ W, W = w1.alloc (.cells #[.int .i64 nn, .int .i64 r1, .int .i64 r2, .int .i64 s1, .int .i64 s2] 3) := ⟨_, rfl⟩
  rw [← hw]
  have C2 : Hid (Chg [] w1 w2) := hd (by rw [hw]; exact (Chg.refl _ _).alloc _)
  clear hw
  obtain ⟨q2, hq⟩ : ∃ q, q = Pr.numsOk [nn, r1, r2, s1, s2] := ⟨_, rfl⟩
  rw [← hq]
  have Hq2 := hd hq.symm
  clear hq
  have C12 : Hid (Chg [] w w2) := hd (C1.out.trans C2.out (by simp))
  have HG2 := hd (C2.out.blk HG.out (by simp))
  clear g0 g1 g2 g3 g4 g5 g6 g7
  cases q2 with
  | false =>
   have HF : Hid (ok = false) := hd (HP.out (fun h => by have h8 := h.2.2.1; rw [Hq2.out] at h8; cases h8))
   go_wp2_with fail
   have h9 := HRR.out w2 (C12.out)
   rw [HF.out] at h9
   exact h9
  | true =>
   have g2 := HG2.out.cell (i := 2) rfl
   by_cases hl : 12 < n
   · skip
     have z1 : (12 : Int) < (n : Int) := by omega
     have HF : Hid (ok = false) := hd (HP.out (fun h => by have h8 := h.2.2.2.1; have := HN.out; omega))
     go_wp2_with fail
     have h9 := HRR.out w2 (C12.out)
     rw [HF.out] at h9
     exact h9
   have z1 : ¬ (12 : Int) < (n : Int) := by omega
   have HK7 : Hid (1 ≤ kd ∧ kd ≤ 7) := hd ⟨by omega, by omega⟩
   clear hk1 hk7
   go_upto_region 4 with (fail)
   clear z1 g2
   obtain ⟨w3, hw⟩ : ∃ W, W = w2.alloc (.cells #[.int .i64 0, .int .i64 0] 58) := ⟨_, rfl⟩
   rw [← hw]
   obtain ⟨Z, hX⟩ : ∃ X, X = w2.heap.size := ⟨_, rfl⟩
   rw [← hX]
   have HZ : Hid (Blk w3 Z [.int .i64 0, .int .i64 0] 58) := hd (by rw [hw, hX]; exact Blk.new w2 [.int .i64 0, .int .i64 0] _)
   have C3 : Hid (Chg [] w2 w3) := hd (by rw [hw]; exact (Chg.refl _ _).alloc _)
   clear hw hX
   have C13 : Hid (Chg [] w w3) := hd (C12.out.trans C3.out (by simp))
   have HG3 := hd (C3.out.blk HG2.out (by simp))
   have g0 := HG3.out.cell (i := 0) rfl
   have g3 := HG3.out.cell (i := 3) rfl
   obtain ⟨qa, hqa⟩ : ∃ z, z = decide (kd = 1 ∨ kd = 3 ∨ nn = 0) := ⟨_, rfl⟩
   have HQA := hd hqa
   clear hqa
   go_cut [59] (fun s wx => wx = w3 ∧ s = .bool (!qa))
   case first =>
    by_cases h1 : kd = 1
    · skip
      have k1e : (kd == 1) = true := by rw [h1]; rfl
      have k1n : (kd != 1) = false := by rw [h1]; rfl
      have Hk1 := hd h1
      clear h1
      have HE : Hid (qa = true) := hd (by rw [HQA.out]; exact decide_eq_true (.inl Hk1.out))
      go_wp2_with fail
      go_meet
      exact ⟨rfl, by rw [HE.out]; rfl⟩
    have k1e : (kd == 1) = false := by rw [beq_eq_false_iff_ne]; exact h1
    have k1n : (kd != 1) = true := by simp [h1]
    by_cases h3 : kd = 3
    · skip
      have k3e : (kd == 3) = true := by rw [h3]; rfl
      have k3n : (kd != 3) = false := by rw [h3]; rfl
      have Hk3 := hd h3
      clear h3
      have HE : Hid (qa = true) := hd (by rw [HQA.out]; exact decide_eq_true (.inr (.inl Hk3.out)))
      go_wp2_with fail
      go_meet
      exact ⟨rfl, by rw [HE.out]; rfl⟩
    have k3e : (kd == 3) = false := by rw [beq_eq_false_iff_ne]; exact h3
    have k3n : (kd != 3) = true := by simp [h3]
    by_cases h0 : nn = 0
    · skip
      have k0e : (nn == 0) = true := by rw [h0]; rfl
      have k0n : (nn != 0) = false := by rw [h0]; rfl
      have Hk0 := hd h0
      clear h0
      have HE : Hid (qa = true) := hd (by rw [HQA.out]; exact decide_eq_true (.inr (.inr Hk0.out)))
      go_wp2_with fail
      go_meet
      exact ⟨rfl, by rw [HE.out]; rfl⟩
    have k0e : (nn == 0) = false := by rw [beq_eq_false_iff_ne]; exact h0
    have k0n : (nn != 0) = true := by simp [h0]
    have HE : Hid (qa = false) := hd (by rw [HQA.out]; exact decide_eq_false (fun h => by rcases h with h | h | h <;> contradiction))
    go_wp2_with fail
    go_meet
    exact ⟨rfl, by rw [HE.out]; rfl⟩
   case rest =>
    obtain ⟨hw, hs⟩ := hcut
    subst hs
    rw [hw]
    clear g3 hw
    cases qa with
    | false =>
     clear g0
     have HF : Hid (ok = false) := hd (HP.out (fun h => by have h9 := HQA.out; rw [decide_eq_true h.2.2.2.2.1] at h9; cases h9))
     go_wp2_with fail
     have h9 := HRR.out w3 (C13.out)
     rw [HF.out] at h9
     exact h9
    | true =>
     have HPA : Hid (kd = 1 ∨ kd = 3 ∨ nn = 0) := hd (of_decide_eq_true HQA.out.symm)
     clear HQA
     go_upto_region 6 with (fail)
     have g4 := HG3.out.cell (i := 4) rfl
     have g5 := HG3.out.cell (i := 5) rfl
     have g6 := HG3.out.cell (i := 6) rfl
     have g7 := HG3.out.cell (i := 7) rfl
     have z0 := HZ.out.cell (i := 0) rfl
     have z1 := HZ.out.cell (i := 1) rfl
     obtain ⟨qb, hqb⟩ : ∃ z, z = decide (kd = 3 ∨ kd = 4 ∨ ((s1 = 0 ∧ s2 = 0) ∧ (kd = 5 ∨ (r1 = 0 ∧ r2 = 0)))) := ⟨_, rfl⟩
     have HQB := hd hqb
     clear hqb
     go_cut [84] (fun s wx => wx = w3 ∧ s = .bool (!qb))
     case first =>
      by_cases h3 : kd = 3
      · skip
        have k3e : (kd == 3) = true := by rw [h3]; rfl
        have k3n : (kd != 3) = false := by rw [h3]; rfl
        have Hk3 := hd h3
        clear h3
        have HE : Hid (qb = true) := hd (by rw [HQB.out]; exact decide_eq_true (.inl Hk3.out))
        go_wp2_with fail
        go_meet
        exact ⟨rfl, by rw [HE.out]; rfl⟩
      have k3e : (kd == 3) = false := by rw [beq_eq_false_iff_ne]; exact h3
      have k3n : (kd != 3) = true := by simp [h3]
      by_cases h4 : kd = 4
      · skip
        have k4e : (kd == 4) = true := by rw [h4]; rfl
        have k4n : (kd != 4) = false := by rw [h4]; rfl
        have Hk4 := hd h4
        clear h4
        have HE : Hid (qb = true) := hd (by rw [HQB.out]; exact decide_eq_true (.inr (.inl Hk4.out)))
        go_wp2_with fail
        go_meet
        exact ⟨rfl, by rw [HE.out]; rfl⟩
      have k4e : (kd == 4) = false := by rw [beq_eq_false_iff_ne]; exact h4
      have k4n : (kd != 4) = true := by simp [h4]
      by_cases hs1 : s1 = 0
      · skip
        subst hs1
        by_cases hs2 : s2 = 0
        · skip
          subst hs2
          by_cases h5 : kd = 5
          · skip
            have k5e : (kd == 5) = true := by rw [h5]; rfl
            have k5n : (kd != 5) = false := by rw [h5]; rfl
            have Hk5 := hd h5
            clear h5
            have HE : Hid (qb = true) := hd (by rw [HQB.out]; exact decide_eq_true (.inr (.inr ⟨⟨rfl, rfl⟩, .inl Hk5.out⟩)))
            go_wp2_with fail
            go_meet
            exact ⟨rfl, by rw [HE.out]; rfl⟩
          have k5e : (kd == 5) = false := by rw [beq_eq_false_iff_ne]; exact h5
          have k5n : (kd != 5) = true := by simp [h5]
          by_cases hr1 : r1 = 0
          · skip
            subst hr1
            by_cases hr2 : r2 = 0
            · skip
              subst hr2
              have HE : Hid (qb = true) := hd (by rw [HQB.out]; exact decide_eq_true (.inr (.inr ⟨⟨rfl, rfl⟩, .inr ⟨rfl, rfl⟩⟩)))
              go_wp2_with fail
              go_meet
              exact ⟨rfl, by rw [HE.out]; rfl⟩
            · skip
              have r2' : ¬ 0 = r2 := fun e => hr2 e.symm
              have r21' : ((0 : Int) == r2) = false := by rw [beq_eq_false_iff_ne]; exact r2'
              have r22' : (r2 == (0 : Int)) = false := by rw [beq_eq_false_iff_ne]; exact hr2
              have HE : Hid (qb = false) := hd (by rw [HQB.out]; exact decide_eq_false (fun h => by rcases h with h | h | ⟨⟨h, h'⟩, h'' | ⟨h2, h3'⟩⟩ <;> contradiction))
              go_wp2_with fail
              go_meet
              exact ⟨rfl, by rw [HE.out]; rfl⟩
          · skip
            have r1' : ¬ 0 = r1 := fun e => hr1 e.symm
            have r11' : ((0 : Int) == r1) = false := by rw [beq_eq_false_iff_ne]; exact r1'
            have r12' : (r1 == (0 : Int)) = false := by rw [beq_eq_false_iff_ne]; exact hr1
            have HE : Hid (qb = false) := hd (by rw [HQB.out]; exact decide_eq_false (fun h => by rcases h with h | h | ⟨⟨h, h'⟩, h'' | ⟨h2, h3'⟩⟩ <;> contradiction))
            go_wp2_with fail
            go_meet
            exact ⟨rfl, by rw [HE.out]; rfl⟩
        · skip
          have s2' : ¬ 0 = s2 := fun e => hs2 e.symm
          have s21' : ((0 : Int) == s2) = false := by rw [beq_eq_false_iff_ne]; exact s2'
          have s22' : (s2 == (0 : Int)) = false := by rw [beq_eq_false_iff_ne]; exact hs2
          have HE : Hid (qb = false) := hd (by rw [HQB.out]; exact decide_eq_false (fun h => by rcases h with h | h | ⟨⟨h, h'⟩, h'' | ⟨h2, h3'⟩⟩ <;> contradiction))
          go_wp2_with fail
          go_meet
          exact ⟨rfl, by rw [HE.out]; rfl⟩
      · skip
        have s1' : ¬ 0 = s1 := fun e => hs1 e.symm
        have s11' : ((0 : Int) == s1) = false := by rw [beq_eq_false_iff_ne]; exact s1'
        have s12' : (s1 == (0 : Int)) = false := by rw [beq_eq_false_iff_ne]; exact hs1
        have HE : Hid (qb = false) := hd (by rw [HQB.out]; exact decide_eq_false (fun h => by rcases h with h | h | ⟨⟨h, h'⟩, h'' | ⟨h2, h3'⟩⟩ <;> contradiction))
        go_wp2_with fail
        go_meet
        exact ⟨rfl, by rw [HE.out]; rfl⟩
     case rest =>
      obtain ⟨hw, hs⟩ := hcut
      subst hs
      rw [hw]
      clear g0 g4 g5 g6 g7 z0 z1 hw
      cases qb with
      | false =>
       have HF : Hid (ok = false) := hd (HP.out (fun h => by have h9 := HQB.out; rw [decide_eq_true h.2.2.2.2.2] at h9; cases h9))
       go_wp2_with fail
       have h9 := HRR.out w3 (C13.out)
       rw [HF.out] at h9
       exact h9
      | true =>
       have HPB : Hid (kd = 3 ∨ kd = 4 ∨ ((s1 = 0 ∧ s2 = 0) ∧ (kd = 5 ∨ (r1 = 0 ∧ r2 = 0)))) := hd (of_decide_eq_true HQB.out.symm)
       clear HQB
       have HQ3 : Hid (Chg [] w0 w3) := hd (HQ.out.trans C13.out (by simp))
       go_wp2_with fail
       go_loopw [4] (fun i0 wr => ∃ j : Nat, i0 = .int .i64 (j : Int) ∧ j ≤ n ∧ Hid (Chg [] w3 wr) ∧ Hid ((whn.take j).all Pr.listOk = true)) (fun i0 _ => n - intN i0)
       case atStart => exact ⟨0, rfl, Nat.zero_le _, hd (Chg.refl _ _), hd rfl⟩
       case round =>
        obtain ⟨j, rfl, hj, HC, HO⟩ := hrel
        have x2 := (HC.out.blk HG3.out (by simp)).cell (i := 2) rfl
        by_cases hlt : j < n
        · skip
          have z0 : (0 : Int) ≤ (j : Int) := by omega
          have z1 : (j : Int) < (n : Int) := by omega
          have z2 : (j : Int) ≤ (cap : Int) := by omega
          have HQR : Hid (Chg [] w0 wr) := hd (HQ3.out.trans HC.out (by simp))
          obtain ⟨y, g, og, cs, hx, ha, -, ⟨yv, hcs, hys⟩, hcc⟩ := HM9.out.at_ HQR.out (j := j) (by rw [HN.out]; exact hlt)
          subst ha
          obtain ⟨ya, yk, rfl, _, _⟩ := hys.form
          have HYS := hd hys
          obtain ⟨yn, hyn⟩ : ∃ z, z = y.length := ⟨_, rfl⟩
          rw [← hyn] at HYS hcs
          have HYN := hd hyn.symm
          clear hyn hys
          have c0 : wr.cell? ⟨g, og + j, none⟩ = some (.slice ya yn yk) := by have h9 := hcc 0 _ (by rw [hcs]; rfl); simpa using h9
          have HX := hd hx
          clear hx hcs hcc
          obtain ⟨ur, vr, _⟩ := HYS.out.cp
          have HBY := hd (HB.out y (List.mem_of_getElem? HX.out))
          by_cases hy0 : yn = 0
          · skip
            have z3 : ((yn : Int) == 0) = true := by rw [beq_iff_eq]; omega
            have HY0 := hd hy0
            have z4 : (yn : Int) = 0 := by omega
            clear hy0 z4
            have HF : Hid (ok = false) := hd (HLF.out (all_bad HX.out (by unfold Pr.listOk; rw [decide_eq_false (p := 0 < y.length) (by have := HYN.out; have := HY0.out; omega)]; rfl)))
            go_wp2_with fail
            have h9 := HRR.out wr (C13.out.trans HC.out (by simp))
            rw [HF.out] at h9
            exact h9
          have z3 : ((yn : Int) == 0) = false := by rw [beq_eq_false_iff_ne]; omega
          have z5 : ¬ (yn : Int) = 0 := by omega
          by_cases hy12 : 12 < yn
          · skip
            have z4 : (12 : Int) < (yn : Int) := by omega
            have HF : Hid (ok = false) := hd (HLF.out (all_bad HX.out (by unfold Pr.listOk; rw [decide_eq_false (p := y.length ≤ 12) (by have := HYN.out; omega)]; simp)))
            go_wp2_with fail
            have h9 := HRR.out wr (C13.out.trans HC.out (by simp))
            rw [HF.out] at h9
            exact h9
          have z4 : ¬ (12 : Int) < (yn : Int) := by omega
          have X2 := hd x2
          have D0 := hd c0
          go_wp2_with fail
          clear x2 c0 z3 z4 z5
          rename World => wo
          go_loopw [5] (fun i1 wv => ∃ p : Nat, i1 = .int .i64 (p : Int) ∧ p ≤ yn ∧ Hid (Chg [] wo wv) ∧ Hid ((y.take p).all Pr.testOk = true)) (fun i1 _ => yn - intN i1)
          case atStart => exact ⟨0, rfl, Nat.zero_le _, hd (Chg.refl _ _), hd rfl⟩
          case round =>
           obtain ⟨p, rfl, hp, HPC, HOP⟩ := hrel
           have x2 := cell_quiet HPC.out X2.out (by simp)
           have c0 := cell_quiet HPC.out D0.out (by simp)
           by_cases hlp : p < yn
           · skip
             have t0 : (0 : Int) ≤ (p : Int) := by omega
             have t1 : (p : Int) < (yn : Int) := by omega
             have t2 : (p : Int) ≤ (yk : Int) := by omega
             have HQP : Hid (Chg [] w0 wr) := hd (HQR.out.trans HPC.out (by simp))
             obtain ⟨⟨atr, op, tn, tv, tp⟩, g3, og3, cs3, ht, ha, -, ⟨hcs3, -⟩, hcc3⟩ := HYS.out.at_ HQP.out (j := p) (by rw [HYN.out]; exact hlp)
             subst ha
             have e0 : wr.cell? ⟨g3, og3 + p * 5, none⟩ = some (.string ⟨atr.toArray⟩) := by have h9 := hcc3 0 _ (by rw [hcs3]; rfl); simpa [Pr.iv, Pr.sv] using h9
             have e1 : wr.cell? ⟨g3, og3 + p * 5 + 1, none⟩ = some (.int .i64 op) := by have h9 := hcc3 1 _ (by rw [hcs3]; rfl); simpa [Pr.iv, Pr.sv] using h9
             have e2 : wr.cell? ⟨g3, og3 + p * 5 + 2, none⟩ = some (.string ⟨tn.toArray⟩) := by have h9 := hcc3 2 _ (by rw [hcs3]; rfl); simpa [Pr.iv, Pr.sv] using h9
             have e3 : wr.cell? ⟨g3, og3 + p * 5 + 3, none⟩ = some (.int .i64 tv) := by have h9 := hcc3 3 _ (by rw [hcs3]; rfl); simpa [Pr.iv, Pr.sv] using h9
             have e4 : wr.cell? ⟨g3, og3 + p * 5 + 4, none⟩ = some (.int .i64 tp) := by have h9 := hcc3 4 _ (by rw [hcs3]; rfl); simpa [Pr.iv, Pr.sv] using h9
             have HT := hd ht
             obtain ⟨qt, hqt⟩ : ∃ z, z = Pr.testOk ⟨atr, op, tn, tv, tp⟩ := ⟨_, rfl⟩
             have HQT := hd hqt
             clear hqt
             have HBT : Hid (qt = false → ok = false) := hd (fun h => HLF.out (all_bad HX.out (list_bad (all_bad HT.out (by rw [← HQT.out]; exact h)))))
             have ba : atr.length ≤ 1000 := (HBY.out _ (List.mem_of_getElem? ht)).1
             have bt : tn.length ≤ 1000 := (HBY.out _ (List.mem_of_getElem? ht)).2
             have HQE : Hid (qt = ((decide (1 ≤ op) && decide (op ≤ 6)) && (Pr.nameOk atr && (if tn = [] then Pr.numOk tv else decide (tv = 0) && Pr.valueOk tn)))) := hd (by rw [HQT.out]; rfl)
             clear ht hcs3 hcc3
             go_upto_region 17 with (fail)
             obtain ⟨w4, hw⟩ : ∃ W, W = wr.alloc (.cells #[.string ⟨atr.toArray⟩, .int .i64 op, .string ⟨tn.toArray⟩, .int .i64 tv, .int .i64 tp] 62) := ⟨_, rfl⟩
             rw [← hw]
             obtain ⟨D, hX⟩ : ∃ X, X = wr.heap.size := ⟨_, rfl⟩
             rw [← hX]
             have HD : Hid (Blk w4 D [.string ⟨atr.toArray⟩, .int .i64 op, .string ⟨tn.toArray⟩, .int .i64 tv, .int .i64 tp] 62) := hd (by rw [hw, hX]; exact Blk.new wr [.string ⟨atr.toArray⟩, .int .i64 op, .string ⟨tn.toArray⟩, .int .i64 tv, .int .i64 tp] _)
             have C4 : Hid (Chg [] wr w4) := hd (by rw [hw]; exact (Chg.refl _ _).alloc _)
             clear hw hX
             clear e0 e1 e2 e3 e4 x2 c0
             have d0 := HD.out.cell (i := 0) rfl
             have d1 := HD.out.cell (i := 1) rfl
             have d2 := HD.out.cell (i := 2) rfl
             have d3 := HD.out.cell (i := 3) rfl
             have C44 : Hid (Chg [] w w4) := hd (((C13.out.trans HC.out (by simp)).trans HPC.out (by simp)).trans C4.out (by simp))
             go_wp2_with fail
             refine name8_r atr (by omega) ?_
             obtain ⟨qn, hqn⟩ : ∃ q, q = Pr.nameOk atr := ⟨_, rfl⟩
             rw [← hqn]
             have HQN := hd hqn.symm
             clear hqn
             cases qn with
             | false =>
              have HF : Hid (ok = false) := hd (HBT.out (by rw [HQE.out]; rw [HQN.out]; simp))
              go_wp2_with fail
              have h9 := HRR.out w4 (C44.out)
              rw [HF.out] at h9
              exact h9
             | true =>
              by_cases ho1 : op < 1
              · skip
                have HF : Hid (ok = false) := hd (HBT.out (by rw [HQE.out]; rw [decide_eq_false (p := 1 ≤ op) (by omega)]; rfl))
                go_wp2_with fail
                have h9 := HRR.out w4 (C44.out)
                rw [HF.out] at h9
                exact h9
              by_cases ho6 : 6 < op
              · skip
                have HF : Hid (ok = false) := hd (HBT.out (by rw [HQE.out]; rw [decide_eq_false (p := op ≤ 6) (by omega)]; simp))
                go_wp2_with fail
                have h9 := HRR.out w4 (C44.out)
                rw [HF.out] at h9
                exact h9
              go_wp2_with fail
              refine number_r [tv] 1 ⟨rfl, by decide⟩ (hd (Blk.new w4 [.int .i64 tv] 3)) ?_
              obtain ⟨w5, hw⟩ : ∃ W, W = w4.alloc (.cells #[.int .i64 tv] 3) := ⟨_, rfl⟩
              rw [← hw]
              have C5 : Hid (Chg [] w4 w5) := hd (by rw [hw]; exact (Chg.refl _ _).alloc _)
              clear hw
              obtain ⟨q5, hq⟩ : ∃ q, q = Pr.numsOk [tv] := ⟨_, rfl⟩
              rw [← hq]
              have Hq5 := hd hq.symm
              clear hq
              have C55 : Hid (Chg [] w w5) := hd (C44.out.trans C5.out (by simp))
              have HOP9 : Hid (1 ≤ op ∧ op ≤ 6) := hd ⟨by omega, by omega⟩
              have HD5 := hd (C5.out.blk HD.out (by simp))
              clear d0 d1 d2 d3 ho1 ho6
              have d2 := HD5.out.cell (i := 2) rfl
              have d3 := HD5.out.cell (i := 3) rfl
              cases q5 with
              | false =>
               have HF : Hid (ok = false) := hd (HBT.out (by rw [HQE.out]; have h9 : Pr.numOk tv = false := (by have h9 := Hq5.out; simpa [Pr.numsOk] using h9); by_cases hc : tn = []; rw [if_pos hc, h9]; simp; rw [if_neg hc, decide_eq_false (p := tv = 0) (fun e => by rw [e] at h9; cases h9)]; simp))
               go_wp2_with fail
               have h9 := HRR.out w5 (C55.out)
               rw [HF.out] at h9
               exact h9
              | true =>
               have C5W : Hid (Chg [] wo w5) := hd ((HPC.out.trans C4.out (by simp)).trans C5.out (by simp))
               by_cases hnm : tn = []
               · skip
                 have HOK : Hid (qt = true) := hd (by rw [HQE.out, if_pos hnm, decide_eq_true HOP9.out.1, decide_eq_true HOP9.out.2, HQN.out]; have h9 := Hq5.out; simpa [Pr.numsOk] using h9)
                 subst hnm
                 go_wp2_with fail
                 go_roundw
                 case rel => first | exact ⟨p + 1, vint (by omega), by omega, C5W, hd (all_step HT.out HOP.out (by rw [← HQT.out]; exact HOK.out))⟩ | ((repeat apply Exists.intro); exact ⟨⟨p + 1, vint (by omega), by omega, C5W, hd (all_step HT.out HOP.out (by rw [← HQT.out]; exact HOK.out))⟩, rfl⟩)
                 case measure => simp [intN]; omega
               have he : tn.isEmpty = false := by cases tn with | nil => exact absurd rfl hnm | cons a r => rfl
               have HQF : Hid (qt = (decide (tv = 0) && Pr.valueOk tn)) := hd (by rw [HQE.out, if_neg hnm, decide_eq_true HOP9.out.1, decide_eq_true HOP9.out.2, HQN.out]; rfl)
               clear hnm
               by_cases hv : tv = 0
               · skip
                 have ve : (tv == 0) = true := by rw [hv]; rfl
                 have vn : (tv != 0) = false := by rw [hv]; rfl
                 have Hv := hd hv
                 clear hv
                 go_wp2_with fail
                 refine value8_r tn (by omega) ?_
                 obtain ⟨qv, hqv⟩ : ∃ q, q = Pr.valueOk tn := ⟨_, rfl⟩
                 rw [← hqv]
                 have HQV := hd hqv.symm
                 clear hqv
                 cases qv with
                 | false =>
                  have HF : Hid (ok = false) := hd (HBT.out (by rw [HQF.out, HQV.out, Bool.and_false]))
                  go_wp2_with fail
                  have h9 := HRR.out w5 (C55.out)
                  rw [HF.out] at h9
                  exact h9
                 | true =>
                  have HOK : Hid (qt = true) := hd (by rw [HQF.out, HQV.out, decide_eq_true Hv.out]; rfl)
                  go_wp2_with fail
                  go_roundw
                  case rel => first | exact ⟨p + 1, vint (by omega), by omega, C5W, hd (all_step HT.out HOP.out (by rw [← HQT.out]; exact HOK.out))⟩ | ((repeat apply Exists.intro); exact ⟨⟨p + 1, vint (by omega), by omega, C5W, hd (all_step HT.out HOP.out (by rw [← HQT.out]; exact HOK.out))⟩, rfl⟩)
                  case measure => simp [intN]; omega
               have ve : (tv == 0) = false := by rw [beq_eq_false_iff_ne]; exact hv
               have vn : (tv != 0) = true := by simp [hv]
               have HV0 := hd hv
               have HF : Hid (ok = false) := hd (HBT.out (by rw [HQF.out, decide_eq_false HV0.out]; rfl))
               go_wp2_with fail
               have h9 := HRR.out w5 (C55.out)
               rw [HF.out] at h9
               exact h9
           · skip
             have t1 : ¬ (p : Int) < (yn : Int) := by omega
             have HLO : Hid (Pr.listOk y = true) := hd (list_good (by have := HYN.out; omega) (by have := HYN.out; omega) (all_fin (by rw [HYN.out]; omega) HOP.out))
             have HCV : Hid (Chg [] w3 wr) := hd (HC.out.trans HPC.out (by simp))
             go_wp2_with fail
             go_roundw
             case rel => first | exact ⟨j + 1, vint (by omega), by omega, HCV, hd (all_step HX.out HO.out HLO.out)⟩ | ((repeat apply Exists.intro); exact ⟨⟨j + 1, vint (by omega), by omega, HCV, hd (all_step HX.out HO.out HLO.out)⟩, rfl⟩)
             case measure => simp [intN]; omega
        · skip
          have z1 : ¬ (j : Int) < (n : Int) := by omega
          have HE : Hid (ok = true) := hd (HLT.out ⟨HK7.out, Hq.out, Hq2.out, by have := HN.out; omega, HPA.out, HPB.out⟩ (all_fin (by rw [HN.out]; omega) HO.out))
          go_wp2_with fail
          have h9 := HRR.out wr (C13.out.trans HC.out (by simp))
          rw [HE.out] at h9
          exact h9
end Go.Proofs.YtgbooiaedbpenaaDoor
