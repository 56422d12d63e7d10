/-
 Printer, the reference: levels that can be written.
-/
import Derived.Test.YtgbooiaedbpenaaDoorPrTk
import Derived.Test.YtgbooiaedbpenaaDoorPrTb
import Derived.Test.YtgbooiaedbpenaaDoorPrY
namespace Go.Proofs.YtgbooiaedbpenaaDoor
set_option linter.unusedVariables false
set_option linter.unusedSimpArgs false
open Go Go.RowKit Go.Shelf
attribute [local irreducible] Go.wpStill
theorem level_parts (l : Pr.Lv) : Pr.levelOk l = false ↔ Pr.nameOk l.name = false ∨ Pr.numsOk [l.height] = false ∨ l.blocks.all Pr.blockOk = false ∨ l.areas.all Pr.areaOk = false ∨ l.aisles.all Pr.boxOk = false ∨ l.pillars.all Pr.boxOk = false ∨ l.doors.all Pr.doorOk = false := by
 simp only [Pr.levelOk, Pr.numsOk, List.all_cons, List.all_nil, Bool.and_true, Bool.and_eq_false_iff, or_assoc]
theorem all_bad {α : Type} {l : List α} {f : α → Bool} {j : Nat} {x : α} (h : l[j]? = some x) (hf : f x = false) : l.all f = false := List.all_eq_false.2 ⟨x, List.mem_of_getElem? h, by rw [hf]; decide⟩
theorem all_step {α : Type} {l : List α} {f : α → Bool} {j : Nat} {x : α} (h : l[j]? = some x) (h1 : (l.take j).all f = true) (hf : f x = true) : (l.take (j + 1)).all f = true := by
 obtain ⟨a1, rfl⟩ := List.getElem?_eq_some_iff.1 h
 rw [List.take_succ_eq_append_getElem a1, List.all_append, h1, List.all_cons, List.all_nil, hf]
 rfl
theorem all_fin {α : Type} {l : List α} {f : α → Bool} {j : Nat} (h : l.length ≤ j) (h1 : (l.take j).all f = true) : l.all f = true := by rwa [List.take_of_length_le h] at h1
set_option maxHeartbeats 8000000 in
set_option maxRecDepth 100000 in
theorem level8_r {w0 w : World} (HQ : Hid (Chg [] w0 w)) (l : Pr.Lv) (p0 p1 p2 p3 p4 : Option Addr) (n0 n1 n2 n3 n4 k0 k1 k2 k3 k4 : Nat) (HA : Hid (LvR w0 l p0 p1 p2 p3 p4 n0 n1 n2 n3 n4 k0 k1 k2 k3 k4)) (HSL : Hid (SzL l)) {R : Ending → World → Prop} (h : ∀ w', Chg [] w w' → R (.returned (.bool (Pr.levelOk l))) w') :
 Calls Tryd.prog 48 #[.agg #[.string ⟨l.name.toArray⟩, .int .i64 l.height, .slice p0 n0 k0, .slice p1 n1 k1, .slice p2 n2 k2, .slice p3 n3 k3, .slice p4 n4 k4, .int .i64 l.at_]] w R := by
 have HRR := hd h
 clear h
 obtain ⟨u0, v0, s0⟩ := HA.out.rb.cp
 have S0 := hd s0
 clear s0
 obtain ⟨u1, v1, s1⟩ := HA.out.ra.cp
 have S1 := hd s1
 clear s1
 obtain ⟨u2, v2, s2⟩ := HA.out.ri.cp
 have S2 := hd s2
 clear s2
 obtain ⟨u3, v3, s3⟩ := HA.out.rp.cp
 have S3 := hd s3
 clear s3
 obtain ⟨u4, v4, s4⟩ := HA.out.rd.cp
 have S4 := hd s4
 clear s4
 have bn := HSL.out.1.1
 go_enter Tryd.func48, Tryd.ntmps48
 go_upto_region 1 with (fail)
 obtain ⟨w1, hw⟩ : ∃ W, W = w.alloc (.cells #[.string ⟨l.name.toArray⟩, .int .i64 l.height, .slice p0 n0 k0, .slice p1 n1 k1, .slice p2 n2 k2, .slice p3 n3 k3, .slice p4 n4 k4, .int .i64 l.at_] 50) := ⟨_, rfl⟩
 rw [← hw]
 obtain ⟨G, hX⟩ : ∃ X, X = w.heap.size := ⟨_, rfl⟩
 rw [← hX]
 have HG : Hid (Blk w1 G [.string ⟨l.name.toArray⟩, .int .i64 l.height, .slice p0 n0 k0, .slice p1 n1 k1, .slice p2 n2 k2, .slice p3 n3 k3, .slice p4 n4 k4, .int .i64 l.at_] 50) := hd (by rw [hw, hX]; exact Blk.new w [.string ⟨l.name.toArray⟩, .int .i64 l.height, .slice p0 n0 k0, .slice p1 n1 k1, .slice p2 n2 k2, .slice p3 n3 k3, .slice p4 n4 k4, .int .i64 l.at_] _)
 have C1 : Hid (Chg [] w w1) := hd (by rw [hw]; exact (Chg.refl _ _).alloc _)
 clear hw hX
 have g0 := HG.out.cell (i := 0) rfl
 have g1 := HG.out.cell (i := 1) rfl
 go_wp2_with fail
 refine name8_r l.name (by omega) ?_
 obtain ⟨q, hq⟩ : ∃ q, q = Pr.nameOk l.name := ⟨_, rfl⟩
 rw [← hq]
 have Hq := hd hq.symm
 clear hq
 cases q with
 | false =>
  have HF : Hid (Pr.levelOk l = false) := hd ((level_parts l).2 (.inl (Hq.out)))
  go_wp2_with fail
  have h9 := HRR.out w1 (C1.out)
  rw [HF.out] at h9
  exact h9
 | true =>
  go_wp2_with fail
  refine number_r [l.height] 1 ⟨rfl, by decide⟩ (hd (Blk.new w1 [.int .i64 l.height] 3)) ?_
  obtain ⟨w2, hw⟩ : ∃ W, W = w1.alloc (.cells #[.int .i64 l.height] 3) := ⟨_, rfl⟩
  rw [← hw]
  have C2 : Hid (Chg [] w1 w2) := hd (by rw [hw]; exact (Chg.refl _ _).alloc _)
  clear hw
  obtain ⟨q2, hq⟩ : ∃ q, q = Pr.numsOk [l.height] := ⟨_, rfl⟩
  rw [← hq]
  have Hq2 := hd hq.symm
  clear hq
  cases q2 with
  | false =>
   have HF : Hid (Pr.levelOk l = false) := hd ((level_parts l).2 (.inr (.inl (Hq2.out))))
   go_wp2_with fail
   have h9 := HRR.out w2 (C1.out.trans C2.out (by simp))
   rw [HF.out] at h9
   exact h9
  | true =>
   have C12 : Hid (Chg [] w w2) := hd (C1.out.trans C2.out (by simp))
   have HG2 := hd (C2.out.blk HG.out (by simp))
   have HQ2 : Hid (Chg [] w0 w2) := hd (HQ.out.trans C12.out (by simp))
   clear g0 g1
   go_wp2_with fail
   go_loopw [3] (fun i0 wr => ∃ j : Nat, i0 = .int .i64 (j : Int) ∧ j ≤ n0 ∧ Hid (Chg [] w2 wr) ∧ Hid ((l.blocks.take j).all Pr.blockOk = true)) (fun i0 _ => n0 - intN i0)
   case atStart => exact ⟨0, rfl, Nat.zero_le _, hd (Chg.refl _ _), hd rfl⟩
   case round =>
    obtain ⟨j, rfl, hj, HC, HO⟩ := hrel
    have x2 := (HC.out.blk HG2.out (by simp)).cell (i := 2) rfl
    by_cases hlt : j < n0
    · skip
      have z0 : (0 : Int) ≤ (j : Int) := by omega
      have z1 : (j : Int) < (n0 : Int) := by omega
      have z2 : (j : Int) ≤ (k0 : Int) := by omega
      have HQR : Hid (Chg [] w0 wr) := hd (HQ2.out.trans HC.out (by simp))
      obtain ⟨x, g, og, cs, hx, ha, -, ⟨rv, hcs, hrs, -⟩, hcc⟩ := HA.out.rb.at_ HQR.out (j := j) (by rw [S0.out]; exact hlt)
      subst ha
      obtain ⟨ra, rk, rfl, _, _⟩ := hrs.form
      have HRS := hd hrs
      obtain ⟨rn, hrn⟩ : ∃ z, z = x.rows.length := ⟨_, rfl⟩
      rw [← hrn] at HRS hcs
      have HRN := hd hrn.symm
      clear hrn hrs
      have c0 : wr.cell? ⟨g, og + j * 3, none⟩ = some (.string ⟨x.name.toArray⟩) := by have h9 := hcc 0 _ (by rw [hcs]; rfl); simpa [Pr.iv, Pr.sv] using h9
      have c1 : wr.cell? ⟨g, og + j * 3 + 1, none⟩ = some (.slice ra rn rk) := by have h9 := hcc 1 _ (by rw [hcs]; rfl); simpa [Pr.iv, Pr.sv] using h9
      have HX := hd hx
      clear hx hcs hcc
      have HZ := hd (HSL.out.2.1 x (List.mem_of_getElem? HX.out))
      have bx := HZ.out.1
      go_wp2_with fail
      refine name8_r x.name (by omega) ?_
      obtain ⟨q, hq⟩ : ∃ q, q = Pr.nameOk x.name := ⟨_, rfl⟩
      rw [← hq]
      have Hqx := hd hq.symm
      clear hq
      cases q with
      | false =>
       have HF : Hid (Pr.levelOk l = false) := hd ((level_parts l).2 (.inr (.inr (.inl (all_bad HX.out (by unfold Pr.blockOk; rw [Hqx.out]; rfl))))))
       go_wp2_with fail
       have h9 := HRR.out wr (C12.out.trans HC.out (by simp))
       rw [HF.out] at h9
       exact h9
      | true =>
       obtain ⟨ur, vr, _⟩ := HRS.out.cp
       have X2 := hd x2
       have D1 := hd c1
       clear c0
       go_wp2_with fail
       clear x2 c1
       rename World => wo
       go_loopw [4] (fun i1 wv => ∃ p : Nat, i1 = .int .i64 (p : Int) ∧ p ≤ rn ∧ Hid (Chg [] wo wv) ∧ Hid ((x.rows.take p).all Pr.rowOk = true)) (fun i1 _ => rn - intN i1)
       case atStart => exact ⟨0, rfl, Nat.zero_le _, hd (Chg.refl _ _), hd rfl⟩
       case round =>
        obtain ⟨p, rfl, hp, HP, HOP⟩ := hrel
        have x2 := cell_quiet HP.out X2.out (by simp)
        have c1 := cell_quiet HP.out D1.out (by simp)
        by_cases hlp : p < rn
        · skip
          have t0 : (0 : Int) ≤ (p : Int) := by omega
          have t1 : (p : Int) < (rn : Int) := by omega
          have t2 : (p : Int) ≤ (rk : Int) := by omega
          have HQP : Hid (Chg [] w0 wr) := hd (HQR.out.trans HP.out (by simp))
          obtain ⟨r, g3, og3, cs3, hr, ha, -, ⟨mv, hcs3, hm3, -⟩, hcc3⟩ := HRS.out.at_ HQP.out (j := p) (by rw [HRN.out]; exact hlp)
          subst ha
          obtain ⟨ma, mk, rfl, _, _⟩ := hm3.form
          have e0 : wr.cell? ⟨g3, og3 + p * 8, none⟩ = some (.string ⟨r.name.toArray⟩) := by have h9 := hcc3 0 _ (by rw [hcs3]; rfl); simpa [Pr.iv, Pr.sv] using h9
          have e1 : wr.cell? ⟨g3, og3 + p * 8 + 1, none⟩ = some (.int .i64 r.x) := by have h9 := hcc3 1 _ (by rw [hcs3]; rfl); simpa [Pr.iv, Pr.sv] using h9
          have e2 : wr.cell? ⟨g3, og3 + p * 8 + 2, none⟩ = some (.int .i64 r.y) := by have h9 := hcc3 2 _ (by rw [hcs3]; rfl); simpa [Pr.iv, Pr.sv] using h9
          have e3 : wr.cell? ⟨g3, og3 + p * 8 + 3, none⟩ = some (.int .i64 r.f) := by have h9 := hcc3 3 _ (by rw [hcs3]; rfl); simpa [Pr.iv, Pr.sv] using h9
          have e4 : wr.cell? ⟨g3, og3 + p * 8 + 4, none⟩ = some (.int .i64 r.t) := by have h9 := hcc3 4 _ (by rw [hcs3]; rfl); simpa [Pr.iv, Pr.sv] using h9
          have e5 : wr.cell? ⟨g3, og3 + p * 8 + 5, none⟩ = some (.int .i64 r.step) := by have h9 := hcc3 5 _ (by rw [hcs3]; rfl); simpa [Pr.iv, Pr.sv] using h9
          have e6 : wr.cell? ⟨g3, og3 + p * 8 + 6, none⟩ = some (.slice ma r.marks.length mk) := by have h9 := hcc3 6 _ (by rw [hcs3]; rfl); simpa [Pr.iv, Pr.sv] using h9
          have e7 : wr.cell? ⟨g3, og3 + p * 8 + 7, none⟩ = some (.int .i64 r.at_) := by have h9 := hcc3 7 _ (by rw [hcs3]; rfl); simpa [Pr.iv, Pr.sv] using h9
          have HM3 := hd hm3
          have HRX := hd hr
          have br := (HZ.out.2.2 r (List.mem_of_getElem? hr)).1
          clear hr hcs3 hcc3 hm3
          go_wp2_with fail
          refine row8_r HQP r ma mk _ HM3 br (fun wy hy => ?_)
          have HPY : Hid (Chg [] wo wy) := hd (HP.out.trans hy (by simp))
          clear hy e0 e1 e2 e3 e4 e5 e6 e7
          obtain ⟨q, hq⟩ : ∃ q, q = Pr.rowOk r := ⟨_, rfl⟩
          rw [← hq]
          have Hqr := hd hq.symm
          clear hq
          cases q with
          | false =>
           have HCY : Hid (Chg [] w2 wy) := hd (HC.out.trans HPY.out (by simp))
           have HF : Hid (Pr.levelOk l = false) := hd ((level_parts l).2 (.inr (.inr (.inl (all_bad HX.out (by unfold Pr.blockOk; rw [all_bad HRX.out Hqr.out, Bool.and_false]))))))
           go_wp2_with fail
           have h9 := HRR.out wy (C12.out.trans HCY.out (by simp))
           rw [HF.out] at h9
           exact h9
          | true =>
           go_wp2_with fail
           go_roundw
           case rel => first | exact ⟨p + 1, vint (by omega), by omega, HPY, hd (all_step HRX.out HOP.out Hqr.out)⟩ | exact ⟨p + 1, by omega, by omega, hd (all_step HRX.out HOP.out Hqr.out)⟩
           case measure => simp [intN]; omega
        · skip
          have t1 : ¬ (p : Int) < (rn : Int) := by omega
          have HRE : Hid (x.rows.all Pr.rowOk = true) := hd (all_fin (by rw [HRN.out]; omega) HOP.out)
          have HBK : Hid (Pr.blockOk x = true) := hd (by unfold Pr.blockOk; rw [Hqx.out, HRE.out]; rfl)
          have HCV : Hid (Chg [] w2 wr) := hd (HC.out.trans HP.out (by simp))
          go_wp2_with fail
          go_roundw
          case rel => first | exact ⟨j + 1, vint (by omega), by omega, HCV, hd (all_step HX.out HO.out HBK.out)⟩ | exact ⟨j + 1, by omega, by omega, hd (all_step HX.out HO.out HBK.out)⟩
          case measure => simp [intN]; omega
    · skip
      have z1 : ¬ (j : Int) < (n0 : Int) := by omega
      have HL0 : Hid (l.blocks.all Pr.blockOk = true) := hd (all_fin (by rw [S0.out]; omega) HO.out)
      have HC0 := HC
      clear HC HO
      go_wp2_with fail
      clear x2
      go_loopw [5] (fun i0 wr => ∃ j : Nat, i0 = .int .i64 (j : Int) ∧ j ≤ n1 ∧ Hid (Chg [] w2 wr) ∧ Hid ((l.areas.take j).all Pr.areaOk = true)) (fun i0 _ => n1 - intN i0)
      case atStart => exact ⟨0, rfl, Nat.zero_le _, HC0, hd rfl⟩
      case round =>
       obtain ⟨j, rfl, hj, HC, HO⟩ := hrel
       have x3 := (HC.out.blk HG2.out (by simp)).cell (i := 3) rfl
       by_cases hlt : j < n1
       · skip
         have z0 : (0 : Int) ≤ (j : Int) := by omega
         have z1 : (j : Int) < (n1 : Int) := by omega
         have z2 : (j : Int) ≤ (k1 : Int) := by omega
         have HQR : Hid (Chg [] w0 wr) := hd (HQ2.out.trans HC.out (by simp))
         obtain ⟨x, g, og, cs, hx, ha, -, ⟨hcs, -⟩, hcc⟩ := HA.out.ra.at_ HQR.out (j := j) (by rw [S1.out]; exact hlt)
         subst ha
         have c0 : wr.cell? ⟨g, og + j * 7, none⟩ = some (.string ⟨x.name.toArray⟩) := by have h9 := hcc 0 _ (by rw [hcs]; rfl); simpa [Pr.iv, Pr.sv] using h9
         have c1 : wr.cell? ⟨g, og + j * 7 + 1, none⟩ = some (.int .i64 x.box.x) := by have h9 := hcc 1 _ (by rw [hcs]; rfl); simpa [Pr.iv, Pr.sv] using h9
         have c2 : wr.cell? ⟨g, og + j * 7 + 2, none⟩ = some (.int .i64 x.box.y) := by have h9 := hcc 2 _ (by rw [hcs]; rfl); simpa [Pr.iv, Pr.sv] using h9
         have c3 : wr.cell? ⟨g, og + j * 7 + 3, none⟩ = some (.int .i64 x.box.x2) := by have h9 := hcc 3 _ (by rw [hcs]; rfl); simpa [Pr.iv, Pr.sv] using h9
         have c4 : wr.cell? ⟨g, og + j * 7 + 4, none⟩ = some (.int .i64 x.box.y2) := by have h9 := hcc 4 _ (by rw [hcs]; rfl); simpa [Pr.iv, Pr.sv] using h9
         have c5 : wr.cell? ⟨g, og + j * 7 + 5, none⟩ = some (.int .i64 x.holds) := by have h9 := hcc 5 _ (by rw [hcs]; rfl); simpa [Pr.iv, Pr.sv] using h9
         have c6 : wr.cell? ⟨g, og + j * 7 + 6, none⟩ = some (.int .i64 x.at_) := by have h9 := hcc 6 _ (by rw [hcs]; rfl); simpa [Pr.iv, Pr.sv] using h9
         have HX := hd hx
         clear hx hcs hcc
         have bx := HSL.out.2.2 x (List.mem_of_getElem? HX.out)
         go_wp2_with fail
         refine name8_r x.name (by omega) ?_
         obtain ⟨q, hq⟩ : ∃ q, q = Pr.nameOk x.name := ⟨_, rfl⟩
         rw [← hq]
         have Hqx := hd hq.symm
         clear hq
         cases q with
         | false =>
          have HF : Hid (Pr.levelOk l = false) := hd ((level_parts l).2 (.inr (.inr (.inr (.inl (all_bad HX.out (by unfold Pr.areaOk; rw [Hqx.out]; rfl)))))))
          go_wp2_with fail
          have h9 := HRR.out wr (C12.out.trans HC.out (by simp))
          rw [HF.out] at h9
          exact h9
         | true =>
          go_wp2_with fail
          refine box8_r x.box (fun wy hy => ?_)
          have HY := hd hy
          clear hy
          have HCY : Hid (Chg [] w2 wy) := hd (HC.out.trans HY.out (by simp))
          have x3 := cell_quiet HY.out x3 (by simp)
          have c5 := cell_quiet HY.out c5 (by simp)
          clear c0 c1 c2 c3 c4 c6
          obtain ⟨q, hq⟩ : ∃ q, q = Pr.boxOk x.box := ⟨_, rfl⟩
          rw [← hq]
          have Hqb := hd hq.symm
          clear hq
          cases q with
          | false =>
           have HF : Hid (Pr.levelOk l = false) := hd ((level_parts l).2 (.inr (.inr (.inr (.inl (all_bad HX.out (by unfold Pr.areaOk; rw [Hqb.out]; simp)))))))
           go_wp2_with fail
           have h9 := HRR.out wy (C12.out.trans HCY.out (by simp))
           rw [HF.out] at h9
           exact h9
          | true =>
           go_wp2_with fail
           refine number_r [x.holds] 1 ⟨rfl, by decide⟩ (hd (Blk.new wy [.int .i64 x.holds] 3)) ?_
           obtain ⟨wz, hw⟩ : ∃ W, W = wy.alloc (.cells #[.int .i64 x.holds] 3) := ⟨_, rfl⟩
           rw [← hw]
           have CZ : Hid (Chg [] wy wz) := hd (by rw [hw]; exact (Chg.refl _ _).alloc _)
           clear hw
           obtain ⟨q3, hq⟩ : ∃ q, q = Pr.numsOk [x.holds] := ⟨_, rfl⟩
           rw [← hq]
           have Hq3 := hd hq.symm
           clear hq
           have HCZ : Hid (Chg [] w2 wz) := hd (HCY.out.trans CZ.out (by simp))
           cases q3 with
           | false =>
            have HF : Hid (Pr.levelOk l = false) := hd ((level_parts l).2 (.inr (.inr (.inr (.inl (all_bad HX.out (by have h9 := Hq3.out; simp only [Pr.numsOk, List.all_cons, List.all_nil, Bool.and_true] at h9; unfold Pr.areaOk; rw [h9]; simp)))))))
            go_wp2_with fail
            have h9 := HRR.out wz (C12.out.trans HCZ.out (by simp))
            rw [HF.out] at h9
            exact h9
           | true =>
            have HAK : Hid (Pr.areaOk x = true) := hd (by have h9 := Hq3.out; simp only [Pr.numsOk, List.all_cons, List.all_nil, Bool.and_true] at h9; unfold Pr.areaOk; rw [Hqx.out, Hqb.out, h9]; rfl)
            go_wp2_with fail
            go_roundw
            case rel => first | exact ⟨j + 1, vint (by omega), by omega, HCZ, hd (all_step HX.out HO.out HAK.out)⟩ | ((repeat apply Exists.intro); exact ⟨⟨j + 1, vint (by omega), by omega, HCZ, hd (all_step HX.out HO.out HAK.out)⟩, rfl⟩)
            case measure => simp [intN]; omega
       · skip
         have z1 : ¬ (j : Int) < (n1 : Int) := by omega
         have HL1 : Hid (l.areas.all Pr.areaOk = true) := hd (all_fin (by rw [S1.out]; omega) HO.out)
         have HC1 := HC
         clear HC HO
         go_wp2_with fail
         clear x3
         go_loopw [6] (fun i0 wr => ∃ j : Nat, i0 = .int .i64 (j : Int) ∧ j ≤ n2 ∧ Hid (Chg [] w2 wr) ∧ Hid ((l.aisles.take j).all Pr.boxOk = true)) (fun i0 _ => n2 - intN i0)
         case atStart => exact ⟨0, rfl, Nat.zero_le _, HC1, hd rfl⟩
         case round =>
          obtain ⟨j, rfl, hj, HC, HO⟩ := hrel
          have x4 := (HC.out.blk HG2.out (by simp)).cell (i := 4) rfl
          by_cases hlt : j < n2
          · skip
            have z0 : (0 : Int) ≤ (j : Int) := by omega
            have z1 : (j : Int) < (n2 : Int) := by omega
            have z2 : (j : Int) ≤ (k2 : Int) := by omega
            have HQR : Hid (Chg [] w0 wr) := hd (HQ2.out.trans HC.out (by simp))
            obtain ⟨x, g, og, cs, hx, ha, -, ⟨hcs, -⟩, hcc⟩ := HA.out.ri.at_ HQR.out (j := j) (by rw [S2.out]; exact hlt)
            subst ha
            have c0 : wr.cell? ⟨g, og + j * 4, none⟩ = some (.int .i64 x.x) := by have h9 := hcc 0 _ (by rw [hcs]; rfl); simpa [Pr.iv, Pr.sv] using h9
            have c1 : wr.cell? ⟨g, og + j * 4 + 1, none⟩ = some (.int .i64 x.y) := by have h9 := hcc 1 _ (by rw [hcs]; rfl); simpa [Pr.iv, Pr.sv] using h9
            have c2 : wr.cell? ⟨g, og + j * 4 + 2, none⟩ = some (.int .i64 x.x2) := by have h9 := hcc 2 _ (by rw [hcs]; rfl); simpa [Pr.iv, Pr.sv] using h9
            have c3 : wr.cell? ⟨g, og + j * 4 + 3, none⟩ = some (.int .i64 x.y2) := by have h9 := hcc 3 _ (by rw [hcs]; rfl); simpa [Pr.iv, Pr.sv] using h9
            have HX := hd hx
            clear hx hcs hcc
            go_wp2_with fail
            refine box8_r x (fun wy hy => ?_)
            have HCY : Hid (Chg [] w2 wy) := hd (HC.out.trans hy (by simp))
            clear hy c0 c1 c2 c3
            obtain ⟨q, hq⟩ : ∃ q, q = Pr.boxOk x := ⟨_, rfl⟩
            rw [← hq]
            have Hqb := hd hq.symm
            clear hq
            cases q with
            | false =>
             have HF : Hid (Pr.levelOk l = false) := hd ((level_parts l).2 (.inr (.inr (.inr (.inr (.inl (all_bad HX.out (Hqb.out))))))))
             go_wp2_with fail
             have h9 := HRR.out wy (C12.out.trans HCY.out (by simp))
             rw [HF.out] at h9
             exact h9
            | true =>
             go_wp2_with fail
             go_roundw
             case rel => first | exact ⟨j + 1, vint (by omega), by omega, HCY, hd (all_step HX.out HO.out Hqb.out)⟩ | ((repeat apply Exists.intro); exact ⟨⟨j + 1, vint (by omega), by omega, HCY, hd (all_step HX.out HO.out Hqb.out)⟩, rfl⟩)
             case measure => simp [intN]; omega
          · skip
            have z1 : ¬ (j : Int) < (n2 : Int) := by omega
            have HL2 : Hid (l.aisles.all Pr.boxOk = true) := hd (all_fin (by rw [S2.out]; omega) HO.out)
            have HC2 := HC
            clear HC HO
            go_wp2_with fail
            clear x4
            go_loopw [7] (fun i0 wr => ∃ j : Nat, i0 = .int .i64 (j : Int) ∧ j ≤ n3 ∧ Hid (Chg [] w2 wr) ∧ Hid ((l.pillars.take j).all Pr.boxOk = true)) (fun i0 _ => n3 - intN i0)
            case atStart => exact ⟨0, rfl, Nat.zero_le _, HC2, hd rfl⟩
            case round =>
             obtain ⟨j, rfl, hj, HC, HO⟩ := hrel
             have x5 := (HC.out.blk HG2.out (by simp)).cell (i := 5) rfl
             by_cases hlt : j < n3
             · skip
               have z0 : (0 : Int) ≤ (j : Int) := by omega
               have z1 : (j : Int) < (n3 : Int) := by omega
               have z2 : (j : Int) ≤ (k3 : Int) := by omega
               have HQR : Hid (Chg [] w0 wr) := hd (HQ2.out.trans HC.out (by simp))
               obtain ⟨x, g, og, cs, hx, ha, -, ⟨hcs, -⟩, hcc⟩ := HA.out.rp.at_ HQR.out (j := j) (by rw [S3.out]; exact hlt)
               subst ha
               have c0 : wr.cell? ⟨g, og + j * 4, none⟩ = some (.int .i64 x.x) := by have h9 := hcc 0 _ (by rw [hcs]; rfl); simpa [Pr.iv, Pr.sv] using h9
               have c1 : wr.cell? ⟨g, og + j * 4 + 1, none⟩ = some (.int .i64 x.y) := by have h9 := hcc 1 _ (by rw [hcs]; rfl); simpa [Pr.iv, Pr.sv] using h9
               have c2 : wr.cell? ⟨g, og + j * 4 + 2, none⟩ = some (.int .i64 x.x2) := by have h9 := hcc 2 _ (by rw [hcs]; rfl); simpa [Pr.iv, Pr.sv] using h9
               have c3 : wr.cell? ⟨g, og + j * 4 + 3, none⟩ = some (.int .i64 x.y2) := by have h9 := hcc 3 _ (by rw [hcs]; rfl); simpa [Pr.iv, Pr.sv] using h9
               have HX := hd hx
               clear hx hcs hcc
               go_wp2_with fail
               refine box8_r x (fun wy hy => ?_)
               have HCY : Hid (Chg [] w2 wy) := hd (HC.out.trans hy (by simp))
               clear hy c0 c1 c2 c3
               obtain ⟨q, hq⟩ : ∃ q, q = Pr.boxOk x := ⟨_, rfl⟩
               rw [← hq]
               have Hqb := hd hq.symm
               clear hq
               cases q with
               | false =>
                have HF : Hid (Pr.levelOk l = false) := hd ((level_parts l).2 (.inr (.inr (.inr (.inr (.inr (.inl (all_bad HX.out (Hqb.out)))))))))
                go_wp2_with fail
                have h9 := HRR.out wy (C12.out.trans HCY.out (by simp))
                rw [HF.out] at h9
                exact h9
               | true =>
                go_wp2_with fail
                go_roundw
                case rel => first | exact ⟨j + 1, vint (by omega), by omega, HCY, hd (all_step HX.out HO.out Hqb.out)⟩ | ((repeat apply Exists.intro); exact ⟨⟨j + 1, vint (by omega), by omega, HCY, hd (all_step HX.out HO.out Hqb.out)⟩, rfl⟩)
                case measure => simp [intN]; omega
             · skip
               have z1 : ¬ (j : Int) < (n3 : Int) := by omega
               have HL3 : Hid (l.pillars.all Pr.boxOk = true) := hd (all_fin (by rw [S3.out]; omega) HO.out)
               have HC3 := HC
               clear HC HO
               go_wp2_with fail
               clear x5
               go_loopw [8] (fun i0 wr => ∃ j : Nat, i0 = .int .i64 (j : Int) ∧ j ≤ n4 ∧ Hid (Chg [] w2 wr) ∧ Hid ((l.doors.take j).all Pr.doorOk = true)) (fun i0 _ => n4 - intN i0)
               case atStart => exact ⟨0, rfl, Nat.zero_le _, HC3, hd rfl⟩
               case round =>
                obtain ⟨j, rfl, hj, HC, HO⟩ := hrel
                have x6 := (HC.out.blk HG2.out (by simp)).cell (i := 6) rfl
                by_cases hlt : j < n4
                · skip
                  have z0 : (0 : Int) ≤ (j : Int) := by omega
                  have z1 : (j : Int) < (n4 : Int) := by omega
                  have z2 : (j : Int) ≤ (k4 : Int) := by omega
                  have HQR : Hid (Chg [] w0 wr) := hd (HQ2.out.trans HC.out (by simp))
                  obtain ⟨x, g, og, cs, hx, ha, -, ⟨hcs, -⟩, hcc⟩ := HA.out.rd.at_ HQR.out (j := j) (by rw [S4.out]; exact hlt)
                  subst ha
                  have c0 : wr.cell? ⟨g, og + j * 2, none⟩ = some (.int .i64 x.1) := by have h9 := hcc 0 _ (by rw [hcs]; rfl); simpa [Pr.iv, Pr.sv] using h9
                  have c1 : wr.cell? ⟨g, og + j * 2 + 1, none⟩ = some (.int .i64 x.2) := by have h9 := hcc 1 _ (by rw [hcs]; rfl); simpa [Pr.iv, Pr.sv] using h9
                  have HX := hd hx
                  clear hx hcs hcc
                  go_upto_region 31 with (fail)
                  refine wp_region_held_drew (S := fun W' => Chg [] wr W') (by kernel_rfl) (Chg.refl _ _).drew (fun hHeld => ?_)
                  obtain ⟨wd, hwd⟩ : ∃ x, x = wr.drew := ⟨_, rfl⟩
                  rw [← hwd] at hHeld ⊢
                  clear hwd
                  refine tk 0 ?vd0 ?hyd0 ?rsd0
                  case hyd0 => (intro w9 hSw; go_simp; try with_reducible rfl)
                  try simp only [qq]
                  refine tk 1 ?vd1 ?hyd1 ?rsd1
                  case hyd1 => (intro w9 hSw; have tx6 := cell_quiet hSw x6 (by simp); go_simp; try with_reducible rfl)
                  try simp only [qq]
                  refine tk 2 ?vd2 ?hyd2 ?rsd2
                  case hyd2 => (intro w9 hSw; go_simp; try with_reducible rfl)
                  try simp only [qq]
                  refine tk 3 ?vd3 ?hyd3 ?rsd3
                  case hyd3 => (intro w9 hSw; go_simp; try with_reducible rfl)
                  try simp only [qq]
                  refine tk 4 ?vd4 ?hyd4 ?rsd4
                  case hyd4 => (intro w9 hSw; go_simp; try with_reducible rfl)
                  try simp only [qq]
                  refine tk 5 ?vd5 ?hyd5 ?rsd5
                  case hyd5 => (intro w9 hSw; have tc0 := cell_quiet hSw c0 (by simp); go_simp; try with_reducible rfl)
                  try simp only [qq]
                  refine tk 6 ?vd6 ?hyd6 ?rsd6
                  case hyd6 => (intro w9 hSw; go_simp; try with_reducible rfl)
                  try simp only [qq]
                  refine tk 7 ?vd7 ?hyd7 ?rsd7
                  case hyd7 => (intro w9 hSw; have tx6 := cell_quiet hSw x6 (by simp); go_simp; try with_reducible rfl)
                  try simp only [qq]
                  refine tk 8 ?vd8 ?hyd8 ?rsd8
                  case hyd8 => (intro w9 hSw; go_simp; try with_reducible rfl)
                  try simp only [qq]
                  refine tk 9 ?vd9 ?hyd9 ?rsd9
                  case hyd9 => (intro w9 hSw; go_simp; try with_reducible rfl)
                  try simp only [qq]
                  refine tk 10 ?vd10 ?hyd10 ?rsd10
                  case hyd10 => (intro w9 hSw; go_simp; try with_reducible rfl)
                  try simp only [qq]
                  refine tk 11 ?vd11 ?hyd11 ?rsd11
                  case hyd11 => (intro w9 hSw; have tc1 := cell_quiet hSw c1 (by simp); go_simp; try with_reducible rfl)
                  try simp only [qq]
                  refine rd1 12 (fun K hK => ?_)
                  go_simp
                  have HN2 : Hid (Blk (wd.alloc (.cells #[.int .i64 x.1, .int .i64 x.2] 3)) wd.heap.size [.int .i64 x.1, .int .i64 x.2] 3) := hd (Blk.new wd [.int .i64 x.1, .int .i64 x.2] _)
                  obtain ⟨we, hw⟩ : ∃ W, W = wd.alloc (.cells #[.int .i64 x.1, .int .i64 x.2] 3) := ⟨_, rfl⟩
                  have CE : Hid (Chg [] wd we) := hd (by rw [hw]; exact (Chg.refl _ _).alloc _)
                  rw [← hw] at HN2 ⊢
                  clear hw
                  refine hK.out _ _ (hHeld.trans CE.out (by simp)) (fun hHeld => ?_)
                  clear hK K
                  try simp only [qq]
                  refine rd1 13 (fun K hK => ?_)
                  go_simp
                  refine number_r [x.1, x.2] 2 ⟨rfl, by decide⟩ HN2 ?_
                  refine hK.out _ _ hHeld (fun hHeld => ?_)
                  clear hK K
                  try simp only [qq]
                  obtain ⟨q, hq⟩ : ∃ q, q = Pr.numsOk [x.1, x.2] := ⟨_, rfl⟩
                  rw [← hq]
                  have Hqd := hd hq.symm
                  clear hq
                  refine tk 14 ?vd14 ?hyd14 ?rsd14
                  case hyd14 => (intro w9 hSw; go_simp; try with_reducible rfl)
                  try simp only [qq]
                  refine wpAnyH_done (by kernel_rfl) ?_ _
                  try simp only [qq]
                  have HCY : Hid (Chg [] w2 we) := hd (HC.out.trans hHeld (by simp))
                  clear hHeld c0 c1
                  cases q with
                  | false =>
                   have HF : Hid (Pr.levelOk l = false) := hd ((level_parts l).2 (.inr (.inr (.inr (.inr (.inr (.inr ((all_bad HX.out (Hqd.out))))))))))
                   go_wp2_with fail
                   have h9 := HRR.out we (C12.out.trans HCY.out (by simp))
                   rw [HF.out] at h9
                   exact h9
                  | true =>
                   go_wp2_with fail
                   go_roundw
                   case rel => first | exact ⟨j + 1, vint (by omega), by omega, HCY, hd (all_step HX.out HO.out Hqd.out)⟩ | ((repeat apply Exists.intro); exact ⟨⟨j + 1, vint (by omega), by omega, HCY, hd (all_step HX.out HO.out Hqd.out)⟩, rfl⟩)
                   case measure => simp [intN]; omega
                · skip
                  have z1 : ¬ (j : Int) < (n4 : Int) := by omega
                  have HL4 : Hid (l.doors.all Pr.doorOk = true) := hd (all_fin (by rw [S4.out]; omega) HO.out)
                  have HC4 := HC
                  clear HC HO
                  go_wp2_with fail
                  clear x6
                  have HE : Hid (Pr.levelOk l = true) := hd (by cases hh : Pr.levelOk l with | true => rfl | false => rcases (level_parts l).1 hh with h9 | h9 | h9 | h9 | h9 | h9 | h9; (rw [Hq.out] at h9; cases h9); (rw [Hq2.out] at h9; cases h9); (rw [HL0.out] at h9; cases h9); (rw [HL1.out] at h9; cases h9); (rw [HL2.out] at h9; cases h9); (rw [HL3.out] at h9; cases h9); (rw [HL4.out] at h9; cases h9))
                  have h9 := HRR.out wr (C12.out.trans HC4.out (by simp))
                  rw [HE.out] at h9
                  exact h9
end Go.Proofs.YtgbooiaedbpenaaDoor
