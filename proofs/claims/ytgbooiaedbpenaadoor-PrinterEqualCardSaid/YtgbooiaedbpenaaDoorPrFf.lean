/-
  Printer, layer 20: FewRules: what it says of the sizes.
-/
import Derived.Test.YtgbooiaedbpenaaDoorPrFe
namespace Go.Proofs.YtgbooiaedbpenaaDoor
set_option linter.unusedVariables false
set_option linter.unusedSimpArgs false
open Go Go.RowKit Go.Shelf
attribute [local irreducible] Go.wpStill

def SzTs (t : Pr.Tst) : Prop := t.attr.length ≤ 1000 ∧ t.name.length ≤ 1000
def SzYs (y : List Pr.Tst) : Prop := ∀ t ∈ y, t.attr.length ≤ 1000 ∧ t.name.length ≤ 1000
set_option maxHeartbeats 40000000 in
set_option maxRecDepth 100000 in
theorem fewRules_r {w : World} (l : List Pr.Itm) (ao : Option Addr) (cap n : Nat) (HN : Hid (l.length = n)) (HM : Hid (RdS 9 Pr.RItm w (.slice ao n cap) l)) (hnr : Rch n) {R : Ending → World → Prop}
    (hR : ∀ w' q, Chg [] w w' → (q = true → n ≤ 60 ∧ ∀ x ∈ l, SzI x) → R (.returned (.bool q)) w') :
    Calls Tryd.prog 10 #[.agg #[.slice ao n cap], .int .i64 60] w R := by
  have HRR := hd hR
  clear hR
  unfold Rch at hnr
  go_enter Tryd.func10, Tryd.ntmps10
  go_upto_region 1 with (fail)
  obtain ⟨w1, hw1⟩ : ∃ W, W = w.alloc (.cells #[.slice ao n cap] 29) := ⟨_, rfl⟩
  rw [← hw1]
  obtain ⟨H, hH⟩ : ∃ X, X = w.heap.size := ⟨_, rfl⟩
  rw [← hH]
  have HH : Hid (Blk w1 H [.slice ao n cap] 29) := hd (by rw [hw1, hH]; exact Blk.new w [.slice ao n cap] _)
  have C1 : Hid (Chg [] w w1) := hd (by rw [hw1]; exact (Chg.refl _ _).alloc _)
  clear hw1 hH
  have k0 := HH.out.cell (i := 0) rfl
  have hfalse : ∀ w', Chg [] w1 w' → R (.returned (.bool false)) w' := fun w' hc => HRR.out w' false (C1.out.trans hc (by simp)) (fun e => by cases e)
  have HF := hd hfalse
  clear hfalse
  by_cases h60 : 60 < n
  · have e60 : (60 : Int) < (n : Int) := by omega
    go_wp2_with fail
    exact HF.out w1 (Chg.refl _ _)
  have e60 : ¬ (60 : Int) < (n : Int) := by omega
  go_wp2_with fail
  clear k0 e60
  go_loopw [6, 5] (fun i tv wr => ∃ (j tn : Nat), i = .int .i64 (j : Int) ∧ tv = .int .i64 (tn : Int) ∧ j ≤ n ∧ tn ≤ 240 ∧ Hid (∀ x ∈ l.take j, SzI x) ∧ Hid (Chg [] w1 wr)) (fun i _ _ => n - intN i)
  case atStart => exact ⟨0, 0, rfl, rfl, Nat.zero_le _, Nat.zero_le _, hd (by simp), hd (Chg.refl _ _)⟩
  case round =>
    obtain ⟨j, tn, rfl, rfl, hj, htn, HS, HC⟩ := hrel
    have k3 := (HC.out.blk HH.out (by simp)).cell (i := 0) rfl
    by_cases hlt : j < n
    · obtain ⟨x, hr⟩ : ∃ x, l[j]? = some x := ⟨l[j]'(by rw [HN.out]; exact hlt), by simp⟩
      have HQR : Hid (Chg [] w wr) := hd (C1.out.trans HC.out (by simp))
      have HX := hd hr
      obtain ⟨g, off, cs, ha, hgl, hl, ⟨wv, hcs, i1, i2, i3, i4, i5, i6, hwn, hnl⟩, hcel0⟩ := HM.out.elem hr
      subst ha
      have hcell : ∀ (k : Nat) (c : Value), cs[k]? = some c → wr.cell? ⟨g, off + j * 9 + k, none⟩ = some c := fun k c h => (World.cell?_of_block (HQR.out.block g hgl (by simp))).trans (hcel0 k c h)
      obtain ⟨ua, uc, rfl, huc, hul⟩ := hwn.form
      have HWH := hd hwn
      obtain ⟨m, hm⟩ : ∃ m, m = x.whn.length := ⟨_, rfl⟩
      rw [← hm] at hcs HWH hul
      have HMN := hd hm
      subst hcs
      have c0 : wr.cell? ⟨g, off + j * 9, none⟩ = some (.int .i64 x.kind) := hcell 0 _ rfl
      have c1 : wr.cell? ⟨g, off + j * 9 + 1, none⟩ = some (.string ⟨x.name.toArray⟩) := hcell 1 _ rfl
      have c2 : wr.cell? ⟨g, off + j * 9 + 2, none⟩ = some (.slice ua m uc) := hcell 2 _ rfl
      have c3 : wr.cell? ⟨g, off + j * 9 + 3, none⟩ = some (.int .i64 x.n) := hcell 3 _ rfl
      have c4 : wr.cell? ⟨g, off + j * 9 + 4, none⟩ = some (.int .i64 x.r.1) := hcell 4 _ rfl
      have c5 : wr.cell? ⟨g, off + j * 9 + 5, none⟩ = some (.int .i64 x.r.2) := hcell 5 _ rfl
      have c6 : wr.cell? ⟨g, off + j * 9 + 6, none⟩ = some (.int .i64 x.s.1) := hcell 6 _ rfl
      have c7 : wr.cell? ⟨g, off + j * 9 + 7, none⟩ = some (.int .i64 x.s.2) := hcell 7 _ rfl
      have c8 : wr.cell? ⟨g, off + j * 9 + 8, none⟩ = some (.int .i64 x.at_) := hcell 8 _ rfl
      have m1 : (j : Int) < (n : Int) := by omega
      have m0 : (0 : Int) ≤ (j : Int) := by omega
      unfold Rch at hul
      clear hr hcell hcel0 hl hgl hm hwn i1 i2 i3 i4 i5 i6 hnl huc
      go_upto_region 8 with (fail)
      obtain ⟨w4, hw4⟩ : ∃ W, W = wr.alloc (.cells #[.int .i64 x.kind, .string ⟨x.name.toArray⟩, .slice ua m uc, .int .i64 x.n, .int .i64 x.r.1, .int .i64 x.r.2, .int .i64 x.s.1, .int .i64 x.s.2, .int .i64 x.at_] 60) := ⟨_, rfl⟩
      rw [← hw4]
      obtain ⟨G, hG⟩ : ∃ X, X = wr.heap.size := ⟨_, rfl⟩
      rw [← hG]
      have HG : Hid (Blk w4 G [.int .i64 x.kind, .string ⟨x.name.toArray⟩, .slice ua m uc, .int .i64 x.n, .int .i64 x.r.1, .int .i64 x.r.2, .int .i64 x.s.1, .int .i64 x.s.2, .int .i64 x.at_] 60) := hd (by rw [hw4, hG]; exact Blk.new wr [.int .i64 x.kind, .string ⟨x.name.toArray⟩, .slice ua m uc, .int .i64 x.n, .int .i64 x.r.1, .int .i64 x.r.2, .int .i64 x.s.1, .int .i64 x.s.2, .int .i64 x.at_] _)
      have C4 : Hid (Chg [] w1 w4) := hd (by rw [hw4]; exact HC.out.alloc _)
      have Q4 : Hid (Chg [] w w4) := hd (C1.out.trans C4.out (by simp))
      clear hw4 hG c0 c1 c2 c3 c4 c5 c6 c7 c8 k3 m1 m0
      have d1 := HG.out.cell (i := 1) rfl
      have d2 := HG.out.cell (i := 2) rfl
      by_cases hxn : 60 < x.name.length
      · have e2 : (60 : Int) < (x.name.length : Int) := by omega
        go_wp2_with fail
        exact HF.out w4 C4.out
      have e2 : ¬ (60 : Int) < (x.name.length : Int) := by omega
      by_cases hbig : 20 < m
      · have e1 : (20 : Int) < (m : Int) := by omega
        go_wp2_with fail
        exact HF.out w4 C4.out
      have e1 : ¬ (20 : Int) < (m : Int) := by omega
      go_wp2_with fail
      clear d1 e1 e2 d2
      have HXN : Hid (x.name.length ≤ 1000) := hd (by omega)
      clear hxn
      go_loopw [8, 5] (fun i tv wr => wr = w4 ∧ ∃ k tn : Nat, i = .int .i64 (k : Int) ∧ tv = .int .i64 (tn : Int) ∧ k ≤ m ∧ tn ≤ 240 ∧ Hid (∀ a ∈ x.whn.take k, SzYs a)) (fun i _ _ => m - intN i)
      case atStart => exact ⟨rfl, 0, tn, rfl, rfl, Nat.zero_le _, htn, hd (by simp)⟩
      case round =>
        obtain ⟨hwr, k, ts, rfl, rfl, hk, hts, HSB⟩ := hrel
        have d2 := HG.out.cell (i := 2) rfl
        rw [← hwr] at d2
        by_cases hkl : k < m
        · obtain ⟨y, hr⟩ : ∃ a, x.whn[k]? = some a := ⟨x.whn[k]'(by rw [← HMN.out]; exact hkl), by simp⟩
          obtain ⟨g2, of2, cs2, ha, hgl, hl, ⟨rv, hcs, hrs⟩, hcell⟩ := HWH.out.elem hr
          subst ha
          obtain ⟨s0, sc, rfl, _, sr⟩ := hrs.form
          have HRS := hd hrs
          obtain ⟨rn, hrn⟩ : ∃ z, z = y.length := ⟨_, rfl⟩
          rw [← hrn] at hcs sr HRS
          have HRN := hd hrn
          have c0 : wr.cell? ⟨g2, of2 + k, none⟩ = some (.slice s0 rn sc) := by rw [hwr]; have h9 := (World.cell?_of_block (Q4.out.block g2 hgl (by simp))).trans (hcell 0 _ (by rw [hcs]; rfl)); simpa using h9
          have HYR := hd hr
          have m1 : (k : Int) < (m : Int) := by omega
          have m0 : (0 : Int) ≤ (k : Int) := by omega
          have HWR2 := hd hwr
          have HC0 := hd c0
          unfold Rch at sr
          clear hr hcs hcell hl hgl hwr hrs hrn
          go_upto_region 14 with (fail)
          by_cases hbig : 240 < ts + rn
          · have e1 : (240 : Int) < (ts : Int) + (rn : Int) := by omega
            go_wp2_with fail
            exact HF.out wr (by rw [HWR2.out]; exact C4.out)
          have e1 : ¬ (240 : Int) < (ts : Int) + (rn : Int) := by omega
          go_wp2_with fail
          clear e1 c0 d2
          obtain ⟨tq, htq⟩ : ∃ z : Nat, z = ts + rn := ⟨_, rfl⟩
          rw [show (ts : Int) + (rn : Int) = (tq : Int) by omega]
          have ht3 : tq ≤ 240 := by omega
          have br : rn ≤ 240 := by omega
          clear htq hbig sr
          go_loopw [9] (fun i wr => wr = w4 ∧ ∃ k : Nat, i = .int .i64 (k : Int) ∧ k ≤ rn ∧ Hid (∀ a ∈ y.take k, SzTs a)) (fun i _ => rn - intN i)
          case atStart => exact ⟨HWR2.out, 0, rfl, Nat.zero_le _, hd (by simp)⟩
          case round =>
            obtain ⟨hwr, p, rfl, hp, HSR⟩ := hrel
            have d2 := HG.out.cell (i := 2) rfl
            have c1 := HC0.out
            rw [HWR2.out, ← hwr] at c1
            rw [← hwr] at d2
            by_cases hpl : p < rn
            · obtain ⟨r, hr⟩ : ∃ a, y[p]? = some a := ⟨y[p]'(by rw [← HRN.out]; exact hpl), by simp⟩
              obtain ⟨g3, of3, cs3, ha, hgl, hl, ⟨hcs, -⟩, hcell⟩ := HRS.out.elem hr
              subst ha
              have b0 : wr.cell? ⟨g3, of3 + p * 5, none⟩ = some (.string ⟨r.attr.toArray⟩) := by rw [hwr]; exact (World.cell?_of_block (Q4.out.block g3 hgl (by simp))).trans (hcell 0 _ (by rw [hcs]; rfl))
              have b2 : wr.cell? ⟨g3, of3 + p * 5 + 2, none⟩ = some (.string ⟨r.name.toArray⟩) := by rw [hwr]; exact (World.cell?_of_block (Q4.out.block g3 hgl (by simp))).trans (hcell 2 _ (by rw [hcs]; rfl))
              have HRR2 := hd hr
              have l1 : (p : Int) < (rn : Int) := by omega
              have l0 : (0 : Int) ≤ (p : Int) := by omega
              have HWR3 := hd hwr
              clear hr hcs hcell hl hgl hwr
              by_cases hyn : 60 < r.attr.length
              · have e2 : (60 : Int) < (r.attr.length : Int) := by omega
                go_wp2_with fail
                exact HF.out wr (by rw [HWR3.out]; exact C4.out)
              have e2 : ¬ (60 : Int) < (r.attr.length : Int) := by omega
              by_cases hzn : 60 < r.name.length
              · have e3 : (60 : Int) < (r.name.length : Int) := by omega
                go_wp2_with fail
                exact HF.out wr (by rw [HWR3.out]; exact C4.out)
              have e3 : ¬ (60 : Int) < (r.name.length : Int) := by omega
              go_wp2_with fail
              have HRN2 : Hid (SzTs r) := hd ⟨by omega, by omega⟩
              go_roundw
              case rel => exact ⟨HWR3.out, p + 1, vint (by omega), by omega, hd (all_snoc9 HRR2.out HSR.out HRN2.out)⟩
              case measure => simp [intN]; omega
            · have HSR2 : Hid (∀ a ∈ y, SzTs a) := hd (all_end9 (by rw [← HRN.out]; omega) HSR.out)
              have l1 : ¬ (p : Int) < (rn : Int) := by omega
              have HWR3 := hd hwr
              clear hwr
              go_wp2_with fail
              go_roundw
              case rel => exact ⟨HWR3.out, k + 1, tq, vint (by omega), rfl, by omega, ht3, hd (all_snoc9 HYR.out HSB.out HSR2.out)⟩
              case measure => simp [intN]; omega
        · have HSB2 : Hid (∀ a ∈ x.whn, SzYs a) := hd (all_end9 (by rw [← HMN.out]; omega) HSB.out)
          have l1 : ¬ (k : Int) < (m : Int) := by omega
          have HWR3 := hd hwr
          clear hwr
          go_wp2_with fail
          have HSX : Hid (SzI x) := hd ⟨HXN.out, HSB2.out⟩
          go_roundw
          case rel => exact ⟨j + 1, ts, vint (by omega), rfl, by omega, hts, hd (all_snoc9 HX.out HS.out HSX.out), hd (by rw [HWR3.out]; exact C4.out)⟩
          case measure => simp [intN]; omega
    · have HSE : Hid (∀ x ∈ l, SzI x) := hd (all_end9 (by rw [HN.out]; omega) HS.out)
      have l1 : ¬ (j : Int) < (n : Int) := by omega
      have HB : Hid (n ≤ 60) := hd (by omega)
      go_wp2_with fail
      exact HRR.out wr true (C1.out.trans HC.out (by simp)) (fun _ => ⟨HB.out, HSE.out⟩)
end Go.Proofs.YtgbooiaedbpenaaDoor
