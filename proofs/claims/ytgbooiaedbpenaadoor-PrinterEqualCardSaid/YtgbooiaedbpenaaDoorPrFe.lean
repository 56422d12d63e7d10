/-
  Printer, layer 19: Few and FewRules: what they say of the sizes.
-/
import Derived.Test.YtgbooiaedbpenaaDoorPrRu
import Derived.Test.YtgbooiaedbpenaaDoorPrY
namespace Go.Proofs.YtgbooiaedbpenaaDoor
set_option linter.unusedVariables false
set_option linter.unusedSimpArgs false
open Go Go.RowKit Go.Shelf
attribute [local irreducible] Go.wpStill

theorem take_snoc9 {α : Type} {l : List α} {j : Nat} {x : α} (h : l[j]? = some x) : l.take (j + 1) = l.take j ++ [x] := by obtain ⟨hj2, rfl⟩ := List.getElem?_eq_some_iff.1 h; exact List.take_succ_eq_append_getElem hj2
theorem all_snoc9 {α : Type} {l : List α} {j : Nat} {x : α} {P : α → Prop} (h : l[j]? = some x) (h1 : ∀ y ∈ l.take j, P y) (h2 : P x) : ∀ y ∈ l.take (j + 1), P y := by
  rw [take_snoc9 h]
  intro y hy
  rcases List.mem_append.1 hy with h3 | h3
  · exact h1 y h3
  · rw [List.mem_singleton] at h3
    rw [h3]
    exact h2
theorem all_end9 {α : Type} {l : List α} {j : Nat} {P : α → Prop} (h : l.length ≤ j) (h1 : ∀ y ∈ l.take j, P y) : ∀ y ∈ l, P y := by
  rw [List.take_of_length_le h] at h1
  exact h1
def SzRw (r : Pr.Rw) : Prop := r.name.length ≤ 1000 ∧ r.marks.length ≤ 9000
def SzBl (x : Pr.Bl) : Prop := x.name.length ≤ 1000 ∧ x.rows.length ≤ 1000000 ∧ ∀ r ∈ x.rows, r.name.length ≤ 1000 ∧ r.marks.length ≤ 9000
def SzAr (x : Pr.Ar) : Prop := x.name.length ≤ 1000
set_option maxHeartbeats 40000000 in
set_option maxRecDepth 100000 in
theorem few_r {w : World} (h : Pr.Hl) (ao : Option Addr) (cap n : Nat) (HN : Hid (h.levels.length = n)) (HM : Hid (RdS 8 Pr.RLv w (.slice ao n cap) h.levels)) (hnr : Rch n) {R : Ending → World → Prop}
    (hR : ∀ w' q, Chg [] w w' → (q = true → n ≤ 60 ∧ h.name.length ≤ 60 ∧ ∀ l ∈ h.levels, SzL l) → R (.returned (.bool q)) w') :
    Calls Tryd.prog 9 #[.agg #[.string ⟨h.name.toArray⟩, .int .i64 h.sx, .int .i64 h.sy, .slice ao n cap], .int .i64 60] w R := by
  have HRR := hd hR
  clear hR
  unfold Rch at hnr
  go_enter Tryd.func9, Tryd.ntmps9
  go_upto_region 1 with (fail)
  obtain ⟨w1, hw1⟩ : ∃ W, W = w.alloc (.cells #[.string ⟨h.name.toArray⟩, .int .i64 h.sx, .int .i64 h.sy, .slice ao n cap] 26) := ⟨_, rfl⟩
  rw [← hw1]
  obtain ⟨H, hH⟩ : ∃ X, X = w.heap.size := ⟨_, rfl⟩
  rw [← hH]
  have HH : Hid (Blk w1 H [.string ⟨h.name.toArray⟩, .int .i64 h.sx, .int .i64 h.sy, .slice ao n cap] 26) := hd (by rw [hw1, hH]; exact Blk.new w [.string ⟨h.name.toArray⟩, .int .i64 h.sx, .int .i64 h.sy, .slice ao n cap] _)
  have C1 : Hid (Chg [] w w1) := hd (by rw [hw1]; exact (Chg.refl _ _).alloc _)
  clear hw1 hH
  have k0 := HH.out.cell (i := 0) rfl
  have k3 := HH.out.cell (i := 3) rfl
  have hfalse : ∀ w', Chg [] w1 w' → R (.returned (.bool false)) w' := fun w' hc => HRR.out w' false (C1.out.trans hc (by simp)) (fun e => by cases e)
  have HF := hd hfalse
  clear hfalse
  by_cases h60 : 60 < n
  · have e60 : (60 : Int) < (n : Int) := by omega
    go_wp2_with fail
    exact HF.out w1 (Chg.refl _ _)
  have e60 : ¬ (60 : Int) < (n : Int) := by omega
  by_cases hn60 : 60 < h.name.length
  · have f60 : (60 : Int) < (h.name.length : Int) := by omega
    go_wp2_with fail
    exact HF.out w1 (Chg.refl _ _)
  have f60 : ¬ (60 : Int) < (h.name.length : Int) := by omega
  go_wp2_with fail
  clear k0 e60 f60 k3
  go_loopw [6, 5] (fun i tv wr => ∃ (j tn : Nat), i = .int .i64 (j : Int) ∧ tv = .int .i64 (tn : Int) ∧ j ≤ n ∧ tn ≤ 240 ∧ Hid (∀ l ∈ h.levels.take j, SzL l) ∧ Hid (Chg [] w1 wr)) (fun i _ _ => n - intN i)
  case atStart => exact ⟨0, 0, rfl, rfl, Nat.zero_le _, Nat.zero_le _, hd (by simp), hd (Chg.refl _ _)⟩
  case round =>
    obtain ⟨j, tn, rfl, rfl, hj, htn, HS, HC⟩ := hrel
    have k3 := (HC.out.blk HH.out (by simp)).cell (i := 3) rfl
    by_cases hlt : j < n
    · obtain ⟨x, hr⟩ : ∃ x, h.levels[j]? = some x := ⟨h.levels[j]'(by rw [HN.out]; exact hlt), by simp⟩
      have HQR : Hid (Chg [] w wr) := hd (C1.out.trans HC.out (by simp))
      have HX := hd hr
      obtain ⟨g, off, cs, ha, hgl, hl, ⟨u1, u2, u3, u4, u5, hcs, i0, h1, h2, h3, h4, h5, hnl⟩, hcel0⟩ := HM.out.elem hr
      subst ha
      have hcell : ∀ (k : Nat) (c : Value), cs[k]? = some c → wr.cell? ⟨g, off + j * 8 + k, none⟩ = some c := fun k c h => (World.cell?_of_block (HQR.out.block g hgl (by simp))).trans (hcel0 k c h)
      obtain ⟨p0, q0, rfl, _, r0⟩ := h1.form
      obtain ⟨p1, q1, rfl, _, r1⟩ := h2.form
      obtain ⟨p2, q2, rfl, _, r2⟩ := h3.form
      obtain ⟨p3, q3, rfl, _, r3⟩ := h4.form
      obtain ⟨p4, q4, rfl, _, r4⟩ := h5.form
      have HMB := hd h1
      have HMA := hd h2
      obtain ⟨n0, hn0⟩ : ∃ z, z = x.blocks.length := ⟨_, rfl⟩
      obtain ⟨n1, hn1⟩ : ∃ z, z = x.areas.length := ⟨_, rfl⟩
      obtain ⟨n2, hn2⟩ : ∃ z, z = x.aisles.length := ⟨_, rfl⟩
      obtain ⟨n3, hn3⟩ : ∃ z, z = x.pillars.length := ⟨_, rfl⟩
      obtain ⟨n4, hn4⟩ : ∃ z, z = x.doors.length := ⟨_, rfl⟩
      rw [← hn0] at hcs HMB r0
      rw [← hn1] at hcs HMA r1
      rw [← hn2] at hcs r2
      rw [← hn3] at hcs r3
      rw [← hn4] at hcs r4
      have HNN : Hid (n0 = x.blocks.length ∧ n1 = x.areas.length ∧ n2 = x.aisles.length ∧ n3 = x.pillars.length ∧ n4 = x.doors.length) := hd ⟨hn0, hn1, hn2, hn3, hn4⟩
      unfold Rch at r0 r1 r2 r3 r4
      subst hcs
      have c0 : wr.cell? ⟨g, off + j * 8, none⟩ = some (.string ⟨x.name.toArray⟩) := hcell 0 _ rfl
      have c1 : wr.cell? ⟨g, off + j * 8 + 1, none⟩ = some (.int .i64 x.height) := hcell 1 _ rfl
      have c2 : wr.cell? ⟨g, off + j * 8 + 2, none⟩ = some (.slice p0 n0 q0) := hcell 2 _ rfl
      have c3 : wr.cell? ⟨g, off + j * 8 + 3, none⟩ = some (.slice p1 n1 q1) := hcell 3 _ rfl
      have c4 : wr.cell? ⟨g, off + j * 8 + 4, none⟩ = some (.slice p2 n2 q2) := hcell 4 _ rfl
      have c5 : wr.cell? ⟨g, off + j * 8 + 5, none⟩ = some (.slice p3 n3 q3) := hcell 5 _ rfl
      have c6 : wr.cell? ⟨g, off + j * 8 + 6, none⟩ = some (.slice p4 n4 q4) := hcell 6 _ rfl
      have c7 : wr.cell? ⟨g, off + j * 8 + 7, none⟩ = some (.int .i64 x.at_) := hcell 7 _ rfl
      have m1 : (j : Int) < (n : Int) := by omega
      have m0 : (0 : Int) ≤ (j : Int) := by omega
      clear hr hcell hcel0 hl hgl hn0 hn1 hn2 hn3 hn4 h1 h2 h3 h4 h5 i0 hnl
      go_upto_region 8 with (fail)
      obtain ⟨w4, hw4⟩ : ∃ W, W = wr.alloc (.cells #[.string ⟨x.name.toArray⟩, .int .i64 x.height, .slice p0 n0 q0, .slice p1 n1 q1, .slice p2 n2 q2, .slice p3 n3 q3, .slice p4 n4 q4, .int .i64 x.at_] 50) := ⟨_, rfl⟩
      rw [← hw4]
      obtain ⟨G, hG⟩ : ∃ X, X = wr.heap.size := ⟨_, rfl⟩
      rw [← hG]
      have HG : Hid (Blk w4 G [.string ⟨x.name.toArray⟩, .int .i64 x.height, .slice p0 n0 q0, .slice p1 n1 q1, .slice p2 n2 q2, .slice p3 n3 q3, .slice p4 n4 q4, .int .i64 x.at_] 50) := hd (by rw [hw4, hG]; exact Blk.new wr [.string ⟨x.name.toArray⟩, .int .i64 x.height, .slice p0 n0 q0, .slice p1 n1 q1, .slice p2 n2 q2, .slice p3 n3 q3, .slice p4 n4 q4, .int .i64 x.at_] _)
      have C4 : Hid (Chg [] w1 w4) := hd (by rw [hw4]; exact HC.out.alloc _)
      have Q4 : Hid (Chg [] w w4) := hd (C1.out.trans C4.out (by simp))
      clear hw4 hG c0 c1 c2 c3 c4 c5 c6 c7 k3 m1 m0
      have d0 := HG.out.cell (i := 0) rfl
      have d2 := HG.out.cell (i := 2) rfl
      have d3 := HG.out.cell (i := 3) rfl
      have d4 := HG.out.cell (i := 4) rfl
      have d5 := HG.out.cell (i := 5) rfl
      have d6 := HG.out.cell (i := 6) rfl
      go_upto_region 9 with (fail)
      clear d4 d5 d6
      by_cases hbig : 240 < tn + (n0 + n1 + n2 + n3 + n4)
      · have e1 : (240 : Int) < (tn : Int) + ((n0 : Int) + (n1 : Int) + (n2 : Int) + (n3 : Int) + (n4 : Int)) := by omega
        go_wp2_with fail
        exact HF.out w4 C4.out
      have e1 : ¬ (240 : Int) < (tn : Int) + ((n0 : Int) + (n1 : Int) + (n2 : Int) + (n3 : Int) + (n4 : Int)) := by omega
      by_cases hxn : 60 < x.name.length
      · have e2 : (60 : Int) < (x.name.length : Int) := by omega
        go_wp2_with fail
        exact HF.out w4 C4.out
      have e2 : ¬ (60 : Int) < (x.name.length : Int) := by omega
      go_wp2_with fail
      clear d0 e1 e2 d3
      obtain ⟨tm, htm⟩ : ∃ z : Nat, z = tn + (n0 + n1 + n2 + n3 + n4) := ⟨_, rfl⟩
      rw [show (tn : Int) + ((n0 : Int) + (n1 : Int) + (n2 : Int) + (n3 : Int) + (n4 : Int)) = (tm : Int) by omega]
      have ht2 : tm ≤ 240 := by omega
      have HL1 : Hid (x.name.length ≤ 1000 ∧ n0 ≤ 1000000 ∧ n1 ≤ 1000000 ∧ n2 ≤ 1000000 ∧ n3 ≤ 1000000 ∧ n4 ≤ 1000000) := hd ⟨by omega, by omega, by omega, by omega, by omega, by omega⟩
      have b0 : n0 ≤ 240 := by omega
      have b1 : n1 ≤ 240 := by omega
      clear htm hbig hxn r0 r1 r2 r3 r4
      go_loopw [8] (fun i wr => wr = w4 ∧ ∃ k : Nat, i = .int .i64 (k : Int) ∧ k ≤ n1 ∧ Hid (∀ a ∈ x.areas.take k, SzAr a)) (fun i _ => n1 - intN i)
      case atStart => exact ⟨rfl, 0, rfl, Nat.zero_le _, hd (by simp)⟩
      case round =>
        obtain ⟨hwr, k, rfl, hk, HSA⟩ := hrel
        have d3 := HG.out.cell (i := 3) rfl
        rw [← hwr] at d3
        by_cases hkl : k < n1
        · obtain ⟨a, hr⟩ : ∃ a, x.areas[k]? = some a := ⟨x.areas[k]'(by rw [← HNN.out.2.1]; exact hkl), by simp⟩
          obtain ⟨g2, of2, cs2, ha, hgl, hl, ⟨hcs, -⟩, hcell⟩ := HMA.out.elem hr
          subst ha
          have c0 : wr.cell? ⟨g2, of2 + k * 7, none⟩ = some (.string ⟨a.name.toArray⟩) := by rw [hwr]; exact (World.cell?_of_block (Q4.out.block g2 hgl (by simp))).trans (hcell 0 _ (by rw [hcs]; rfl))
          have HAR := hd hr
          have m1 : (k : Int) < (n1 : Int) := by omega
          have m0 : (0 : Int) ≤ (k : Int) := by omega
          have HWR := hd hwr
          clear hr hcs hcell hl hgl hwr
          by_cases han : 60 < a.name.length
          · have e2 : (60 : Int) < (a.name.length : Int) := by omega
            go_wp2_with fail
            exact HF.out wr (by rw [HWR.out]; exact C4.out)
          have e2 : ¬ (60 : Int) < (a.name.length : Int) := by omega
          go_wp2_with fail
          go_roundw
          case rel => exact ⟨HWR.out, k + 1, vint (by omega), by omega, hd (all_snoc9 HAR.out HSA.out (by unfold SzAr; omega))⟩
          case measure => simp [intN]; omega
        · have hke : k = n1 := by omega
          have HSA2 : Hid (∀ a ∈ x.areas, SzAr a) := hd (all_end9 (by rw [← HNN.out.2.1]; omega) HSA.out)
          have m1 : ¬ (k : Int) < (n1 : Int) := by omega
          have HWR := hd hwr
          clear hwr
          go_wp2_with fail
          clear d3 hke
          go_loopw [9, 5] (fun i tv wr => wr = w4 ∧ ∃ k tn : Nat, i = .int .i64 (k : Int) ∧ tv = .int .i64 (tn : Int) ∧ k ≤ n0 ∧ tn ≤ 240 ∧ Hid (∀ a ∈ x.blocks.take k, SzBl a)) (fun i _ _ => n0 - intN i)
          case atStart => exact ⟨HWR.out, 0, tm, rfl, rfl, Nat.zero_le _, ht2, hd (by simp)⟩
          case round =>
            obtain ⟨hwr, k, ts, rfl, rfl, hk, hts, HSB⟩ := hrel
            have d2 := HG.out.cell (i := 2) rfl
            rw [← hwr] at d2
            by_cases hkl : k < n0
            · obtain ⟨y, hr⟩ : ∃ a, x.blocks[k]? = some a := ⟨x.blocks[k]'(by rw [← HNN.out.1]; exact hkl), by simp⟩
              obtain ⟨g2, of2, cs2, ha, hgl, hl, ⟨rv, hcs, hrs, -⟩, hcell⟩ := HMB.out.elem hr
              subst ha
              obtain ⟨s0, sc, rfl, _, sr⟩ := hrs.form
              have HRS := hd hrs
              obtain ⟨rn, hrn⟩ : ∃ z, z = y.rows.length := ⟨_, rfl⟩
              rw [← hrn] at hcs sr HRS
              have HRN := hd hrn
              have c0 : wr.cell? ⟨g2, of2 + k * 3, none⟩ = some (.string ⟨y.name.toArray⟩) := by rw [hwr]; exact (World.cell?_of_block (Q4.out.block g2 hgl (by simp))).trans (hcell 0 _ (by rw [hcs]; rfl))
              have c1 : wr.cell? ⟨g2, of2 + k * 3 + 1, none⟩ = some (.slice s0 rn sc) := by rw [hwr]; exact (World.cell?_of_block (Q4.out.block g2 hgl (by simp))).trans (hcell 1 _ (by rw [hcs]; rfl))
              have HYR := hd hr
              have m1 : (k : Int) < (n0 : Int) := by omega
              have m0 : (0 : Int) ≤ (k : Int) := by omega
              have HWR2 := hd hwr
              have HC0 := hd c0
              have HC1 := hd c1
              have HD2 := hd d2
              unfold Rch at sr
              clear hr hcs hcell hl hgl hwr hrs hrn
              go_upto_region 20 with (fail)
              by_cases hbig : 240 < ts + rn
              · have e1 : (240 : Int) < (ts : Int) + (rn : Int) := by omega
                go_wp2_with fail
                exact HF.out wr (by rw [HWR2.out]; exact C4.out)
              have e1 : ¬ (240 : Int) < (ts : Int) + (rn : Int) := by omega
              by_cases hyn : 60 < y.name.length
              · have e2 : (60 : Int) < (y.name.length : Int) := by omega
                go_wp2_with fail
                exact HF.out wr (by rw [HWR2.out]; exact C4.out)
              have e2 : ¬ (60 : Int) < (y.name.length : Int) := by omega
              go_wp2_with fail
              clear e1 e2 c0 c1 d2
              obtain ⟨tq, htq⟩ : ∃ z : Nat, z = ts + rn := ⟨_, rfl⟩
              rw [show (ts : Int) + (rn : Int) = (tq : Int) by omega]
              have ht3 : tq ≤ 240 := by omega
              have br : rn ≤ 240 := by omega
              have HYN : Hid (y.name.length ≤ 1000) := hd (by omega)
              clear htq hbig hyn sr
              go_loopw [10, 5] (fun i tv wr => wr = w4 ∧ ∃ k tn : Nat, i = .int .i64 (k : Int) ∧ tv = .int .i64 (tn : Int) ∧ k ≤ rn ∧ tn ≤ 240 ∧ Hid (∀ a ∈ y.rows.take k, SzRw a)) (fun i _ _ => rn - intN i)
              case atStart => exact ⟨HWR2.out, 0, tq, rfl, rfl, Nat.zero_le _, ht3, hd (by simp)⟩
              case round =>
                obtain ⟨hwr, p, tz, rfl, rfl, hp, htz, HSR⟩ := hrel
                have d2 := HG.out.cell (i := 2) rfl
                have c1 := HC1.out
                rw [HWR2.out, ← hwr] at c1
                rw [← hwr] at d2
                by_cases hpl : p < rn
                · obtain ⟨r, hr⟩ : ∃ a, y.rows[p]? = some a := ⟨y.rows[p]'(by rw [← HRN.out]; exact hpl), by simp⟩
                  obtain ⟨g3, of3, cs3, ha, hgl, hl, ⟨mv, hcs, hms, -⟩, hcell⟩ := HRS.out.elem hr
                  subst ha
                  obtain ⟨z0, zc, rfl, _, zr⟩ := hms.form
                  obtain ⟨mn, hmn⟩ : ∃ z, z = r.marks.length := ⟨_, rfl⟩
                  rw [← hmn] at hcs zr
                  have HMN := hd hmn
                  have b0' : wr.cell? ⟨g3, of3 + p * 8, none⟩ = some (.string ⟨r.name.toArray⟩) := by rw [hwr]; exact (World.cell?_of_block (Q4.out.block g3 hgl (by simp))).trans (hcell 0 _ (by rw [hcs]; rfl))
                  have b6 : wr.cell? ⟨g3, of3 + p * 8 + 6, none⟩ = some (.slice z0 mn zc) := by rw [hwr]; exact (World.cell?_of_block (Q4.out.block g3 hgl (by simp))).trans (hcell 6 _ (by rw [hcs]; rfl))
                  have HRR2 := hd hr
                  have l1 : (p : Int) < (rn : Int) := by omega
                  have l0 : (0 : Int) ≤ (p : Int) := by omega
                  have HWR3 := hd hwr
                  unfold Rch at zr
                  clear hr hcs hcell hl hgl hwr hms hmn
                  go_upto_region 26 with (fail)
                  by_cases hbig : 240 < tz + mn
                  · have e1 : (240 : Int) < (tz : Int) + (mn : Int) := by omega
                    go_wp2_with fail
                    exact HF.out wr (by rw [HWR3.out]; exact C4.out)
                  have e1 : ¬ (240 : Int) < (tz : Int) + (mn : Int) := by omega
                  by_cases hyn : 60 < r.name.length
                  · have e2 : (60 : Int) < (r.name.length : Int) := by omega
                    go_wp2_with fail
                    exact HF.out wr (by rw [HWR3.out]; exact C4.out)
                  have e2 : ¬ (60 : Int) < (r.name.length : Int) := by omega
                  go_wp2_with fail
                  have HRN2 : Hid (SzRw r) := hd (by unfold SzRw; rw [← HMN.out]; omega)
                  go_roundw
                  case rel => exact ⟨HWR3.out, p + 1, tz + mn, vint (by omega), vint (by omega), by omega, by omega, hd (all_snoc9 HRR2.out HSR.out HRN2.out)⟩
                  case measure => simp [intN]; omega
                · have HSR2 : Hid (∀ a ∈ y.rows, SzRw a) := hd (all_end9 (by rw [← HRN.out]; omega) HSR.out)
                  have l1 : ¬ (p : Int) < (rn : Int) := by omega
                  have HWR3 := hd hwr
                  clear hwr
                  go_wp2_with fail
                  go_roundw
                  case rel => exact ⟨HWR3.out, k + 1, tz, vint (by omega), rfl, by omega, htz, hd (all_snoc9 HYR.out HSB.out ⟨HYN.out, by rw [← HRN.out]; omega, HSR2.out⟩)⟩
                  case measure => simp [intN]; omega
            · have HSB2 : Hid (∀ a ∈ x.blocks, SzBl a) := hd (all_end9 (by rw [← HNN.out.1]; omega) HSB.out)
              have l1 : ¬ (k : Int) < (n0 : Int) := by omega
              have HWR3 := hd hwr
              clear hwr
              go_wp2_with fail
              have HSX : Hid (SzL x) := hd ⟨by have h1 := HL1.out; rw [HNN.out.1, HNN.out.2.1, HNN.out.2.2.1, HNN.out.2.2.2.1, HNN.out.2.2.2.2] at h1; exact h1, HSB2.out, HSA2.out⟩
              go_roundw
              case rel => exact ⟨j + 1, ts, vint (by omega), rfl, by omega, hts, hd (all_snoc9 HX.out HS.out HSX.out), hd (by rw [HWR3.out]; exact C4.out)⟩
              case measure => simp [intN]; omega
    · have HSE : Hid (∀ l ∈ h.levels, SzL l) := hd (all_end9 (by rw [HN.out]; omega) HS.out)
      have l1 : ¬ (j : Int) < (n : Int) := by omega
      have HB : Hid (n ≤ 60 ∧ h.name.length ≤ 60) := hd ⟨by omega, by omega⟩
      go_wp2_with fail
      exact HRR.out wr true (C1.out.trans HC.out (by simp)) (fun _ => ⟨HB.out.1, HB.out.2, HSE.out⟩)
end Go.Proofs.YtgbooiaedbpenaaDoor
