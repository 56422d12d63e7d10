/-
 Printer, the reference: levels.
-/
import Derived.Test.YtgbooiaedbpenaaDoorPrTk
import Derived.Test.YtgbooiaedbpenaaDoorPrTf
import Derived.Test.YtgbooiaedbpenaaDoorPrU
namespace Go.Proofs.YtgbooiaedbpenaaDoor
set_option linter.unusedVariables false
set_option linter.unusedSimpArgs false
open Go Go.RowKit Go.Shelf
attribute [local irreducible] Go.wpStill
def tAisle8 : Bytes := [9, 9, 97, 105, 115, 108, 101]
def tPillar8 : Bytes := [9, 9, 112, 105, 108, 108, 97, 114]
def tDoor8 : Bytes := [9, 9, 100, 111, 111, 114]
/-- How long a line is. -/
theorem markS_len {m : Pr.Mk} (h : Pr.markOk m = true) : (Pr.markS m).length ≤ 100 := by
 have h9 := h
 simp only [Pr.markOk, Bool.and_eq_true, decide_eq_true_eq] at h9
 have h1 := nums1_len (x := m.seat) (by simp [Pr.numsOk, h9.2.2.2.1])
 have h2 := nums1_len (x := m.w) (by simp [Pr.numsOk, h9.2.2.2.2])
 have h3 : (Pr.markW m.kind).length ≤ 7 := by unfold Pr.markW; (repeat' split) <;> decide
 unfold Pr.markS
 split
 · rw [List.length_append, List.length_append, List.length_append]; show _ + _ + (3 + _) ≤ _; omega
 · rw [List.append_nil, List.length_append]; omega
theorem marks_len : ∀ {l : List Pr.Mk}, l.all Pr.markOk = true → (l.flatMap Pr.markS).length ≤ 100 * l.length
 | [], _ => Nat.le_refl _
 | m :: l, h => by
  rw [List.all_cons, Bool.and_eq_true] at h
  have h1 := markS_len h.1
  have h2 := marks_len h.2
  rw [List.flatMap_cons, List.length_append, List.length_cons]
  omega
theorem rowS_len {r : Pr.Rw} (h : Pr.rowOk r = true) (h1 : r.name.length ≤ 1000) (h2 : r.marks.length ≤ 9000) : (Pr.rowS r ++ [10]).length ≤ 1000000 := by
 have h9 := h
 simp only [Pr.rowOk, Bool.and_eq_true] at h9
 have hm := marks_len h9.2.2
 have hn := h9.2.1
 simp only [Pr.numsOk, List.all_cons, List.all_nil, Bool.and_true, Bool.and_eq_true] at hn
 have n1 := nums2_len (x := r.x) (y := r.y) (by simp [Pr.numsOk, hn.1, hn.2.1])
 have n2 := nums1_len (x := r.f) (by simp [Pr.numsOk, hn.2.2.1])
 have n3 := nums1_len (x := r.t) (by simp [Pr.numsOk, hn.2.2.2.1])
 have n4 := nums1_len (x := r.step) (by simp [Pr.numsOk, hn.2.2.2.2])
 unfold Pr.rowS Pr.rowH
 simp only [List.length_append, List.length_cons, List.length_nil, Pr.tRow, Pr.tAt, Pr.tSeats, Pr.tTo, Pr.tStep, Pr.tSemi]
 omega
theorem boxN_len {b : Pr.Bx} (h : Pr.boxOk b = true) : (Pr.nums (Pr.boxN b)).length ≤ 88 := Pr.nums_len (Pr.boxN b) (by
 intro q hq
 have h2 := Pr.numOk_iff8.1 (List.all_eq_true.1 h q hq)
 unfold Pr.I64
 omega)
theorem cat3 (a b c : Bytes) : (⟨a.toArray⟩ : ByteArray) ++ ⟨b.toArray⟩ ++ ⟨c.toArray⟩ = ⟨(a ++ b ++ c).toArray⟩ := by rw [str2, str2]
theorem full_nil' : Pr.full [] = [] := rfl
theorem full_one (x : Nat × Bytes) : Pr.full [x] = Pr.lineB x := List.append_nil _
theorem block_full (b : Pr.Bl) : Pr.full (Pr.blockL b) = Pr.lineB (2, Pr.tBlock ++ b.name ++ Pr.tOpen) ++ (Pr.full (b.rows.map Pr.rowL) ++ [9, 9, 125, 10]) := by
 unfold Pr.blockL
 rw [Pr.full_cons, Pr.full_append]
 rfl
theorem level_full (l : Pr.Lv) : Pr.refFloor l = Pr.lineB (1, Pr.tLevel ++ l.name ++ Pr.tHeight ++ Pr.nums [l.height] ++ Pr.tOpen) ++ (Pr.full (l.blocks.flatMap Pr.blockL) ++ (Pr.full (l.areas.map Pr.areaL) ++ (Pr.full (l.aisles.map Pr.aisleL) ++ (Pr.full (l.pillars.map Pr.pillarL) ++ Pr.full (l.doors.map Pr.doorL))))) ++ [9, 125, 10] := by
 unfold Pr.refFloor Pr.levelL Pr.innerL
 rw [Pr.full_cons, Pr.full_append, Pr.full_append, Pr.full_append, Pr.full_append, Pr.full_append]
 simp only [List.append_assoc]
 rfl
theorem take_map {α : Type} {l : List α} {j : Nat} {x : α} (f : α → Nat × Bytes) (h : l[j]? = some x) : Pr.full ((l.take (j + 1)).map f) = Pr.full ((l.take j).map f) ++ Pr.lineB (f x) := by
 obtain ⟨a1, rfl⟩ := List.getElem?_eq_some_iff.1 h
 rw [List.take_succ_eq_append_getElem a1, List.map_append, Pr.full_append]
 exact congrArg _ (full_one _)
theorem take_flat {l : List Pr.Bl} {j : Nat} {x : Pr.Bl} (h : l[j]? = some x) : Pr.full ((l.take (j + 1)).flatMap Pr.blockL) = Pr.full ((l.take j).flatMap Pr.blockL) ++ Pr.full (Pr.blockL x) := by
 obtain ⟨a1, rfl⟩ := List.getElem?_eq_some_iff.1 h
 rw [List.take_succ_eq_append_getElem a1, List.flatMap_append, List.flatMap_singleton, Pr.full_append]
theorem take_all {α : Type} {l : List α} {n : Nat} (h : l.length = n) {j : Nat} (hj : ¬ j < n) : l.take j = l := List.take_of_length_le (by omega)
set_option maxHeartbeats 8000000 in
set_option maxRecDepth 100000 in
theorem floor8_r {w0 w : World} (HQ : Hid (Chg [] w0 w)) (l : Pr.Lv) (p0 p1 p2 p3 p4 : Option Addr) (n0 n1 n2 n3 n4 k0 k1 k2 k3 k4 : Nat) (HA : Hid (LvR w0 l p0 p1 p2 p3 p4 n0 n1 n2 n3 n4 k0 k1 k2 k3 k4)) (HSL : Hid (SzL l)) (HOK : Hid (Pr.levelOk l = true)) {R : Ending → World → Prop} (h : ∀ w', Chg [] w w' → (Pr.refFloor l).length ≤ 3000000000000000000 → R (.returned (.string ⟨(Pr.refFloor l).toArray⟩)) w') :
 Calls Tryd.prog 27 #[.agg #[.string ⟨l.name.toArray⟩, .int .i64 l.height, .slice p0 n0 k0, .slice p1 n1 k1, .slice p2 n2 k2, .slice p3 n3 k3, .slice p4 n4 k4, .int .i64 l.at_]] w R := by
 have HRR := hd h
 clear h
 obtain ⟨u0, v0, s0⟩ := HA.out.rb.cp
 have S0 := hd s0
 have hn0 : n0 ≤ 1000000 := by rw [← s0]; exact HSL.out.1.2.1
 clear s0
 obtain ⟨u1, v1, s1⟩ := HA.out.ra.cp
 have S1 := hd s1
 have hn1 : n1 ≤ 1000000 := by rw [← s1]; exact HSL.out.1.2.2.1
 clear s1
 obtain ⟨u2, v2, s2⟩ := HA.out.ri.cp
 have S2 := hd s2
 have hn2 : n2 ≤ 1000000 := by rw [← s2]; exact HSL.out.1.2.2.2.1
 clear s2
 obtain ⟨u3, v3, s3⟩ := HA.out.rp.cp
 have S3 := hd s3
 have hn3 : n3 ≤ 1000000 := by rw [← s3]; exact HSL.out.1.2.2.2.2.1
 clear s3
 obtain ⟨u4, v4, s4⟩ := HA.out.rd.cp
 have S4 := hd s4
 have hn4 : n4 ≤ 1000000 := by rw [← s4]; exact HSL.out.1.2.2.2.2.2
 clear s4
 have bn := HSL.out.1.1
 have HO9 : Hid (Pr.numsOk [l.height] = true ∧ l.blocks.all Pr.blockOk = true ∧ l.areas.all Pr.areaOk = true ∧ l.aisles.all Pr.boxOk = true ∧ l.pillars.all Pr.boxOk = true ∧ l.doors.all Pr.doorOk = true) := hd (by have h9 := HOK.out; simp only [Pr.levelOk, Bool.and_eq_true] at h9; exact ⟨by simp [Pr.numsOk, h9.1.2], h9.2.1, h9.2.2.1, h9.2.2.2.1, h9.2.2.2.2.1, h9.2.2.2.2.2⟩)
 go_enter Tryd.func27, Tryd.ntmps27
 go_upto_region 1 with (fail)
 obtain ⟨w1, hw⟩ : ∃ W, W = w.alloc (.cells #[.string ⟨l.name.toArray⟩, .int .i64 l.height, .slice p0 n0 k0, .slice p1 n1 k1, .slice p2 n2 k2, .slice p3 n3 k3, .slice p4 n4 k4, .int .i64 l.at_] 50) := ⟨_, rfl⟩
 rw [← hw]
 obtain ⟨G, hX⟩ : ∃ X, X = w.heap.size := ⟨_, rfl⟩
 rw [← hX]
 have HG : Hid (Blk w1 G [.string ⟨l.name.toArray⟩, .int .i64 l.height, .slice p0 n0 k0, .slice p1 n1 k1, .slice p2 n2 k2, .slice p3 n3 k3, .slice p4 n4 k4, .int .i64 l.at_] 50) := hd (by rw [hw, hX]; exact Blk.new w [.string ⟨l.name.toArray⟩, .int .i64 l.height, .slice p0 n0 k0, .slice p1 n1 k1, .slice p2 n2 k2, .slice p3 n3 k3, .slice p4 n4 k4, .int .i64 l.at_] _)
 have C1 : Hid (Chg [] w w1) := hd (by rw [hw]; exact (Chg.refl _ _).alloc _)
 clear hw hX
 have g0 := HG.out.cell (i := 0) rfl
 have g1 := HG.out.cell (i := 1) rfl
 have z1 : ¬ 9223372036854775807 < 7 + l.name.length := by omega
 have z2 : ¬ 9223372036854775807 < 7 + l.name.length + 7 := by omega
 go_wp2_with fail
 rw [show (⟨#[9, 108, 101, 118, 101, 108, 32]⟩ : ByteArray) ++ ⟨l.name.toArray⟩ ++ ⟨#[32, 104, 101, 105, 103, 104, 116]⟩ = ⟨([9] ++ Pr.tLevel ++ l.name ++ Pr.tHeight).toArray⟩ from cat3 _ _ _]
 refine words8_r ([9] ++ Pr.tLevel ++ l.name ++ Pr.tHeight) (by simp only [List.length_append, List.length_cons, List.length_nil, Pr.tLevel, Pr.tHeight]; omega) [l.height] 1 ⟨rfl, by decide⟩ (hd HO9.out.1) (hd (Blk.new w1 [.int .i64 l.height] 3)) ?_
 obtain ⟨w2, hw⟩ : ∃ W, W = w1.alloc (.cells #[.int .i64 l.height] 3) := ⟨_, rfl⟩
 rw [← hw]
 have C2 : Hid (Chg [] w1 w2) := hd (by rw [hw]; exact (Chg.refl _ _).alloc _)
 clear hw g0 g1 z1 z2
 obtain ⟨b0, hb0⟩ : ∃ z, z = [9] ++ Pr.tLevel ++ l.name ++ Pr.tHeight ++ Pr.nums [l.height] := ⟨_, rfl⟩
 rw [← hb0]
 have lb0 : b0.length ≤ 1100 := by have := nums1_len HO9.out.1; rw [hb0]; simp only [List.length_append, List.length_cons, List.length_nil, Pr.tLevel, Pr.tHeight]; omega
 obtain ⟨h0, hh0⟩ : ∃ z, z = b0 ++ [32, 123, 10] := ⟨_, rfl⟩
 have lh0 : h0.length ≤ 1200 := by rw [hh0, List.length_append]; show _ + 3 ≤ _; omega
 have HH0 : Hid (h0 = Pr.lineB (1, Pr.tLevel ++ l.name ++ Pr.tHeight ++ Pr.nums [l.height] ++ Pr.tOpen)) := hd (by rw [hh0, hb0]; simp [Pr.lineB, Pr.tOpen])
 have HS0 : Hid ((⟨b0.toArray⟩ : ByteArray) ++ ⟨#[32, 123, 10]⟩ = ⟨h0.toArray⟩) := hd (by rw [hh0]; exact str2 _ _)
 clear hb0 hh0
 have z3 : ¬ 9223372036854775807 < b0.length + 3 := by omega
 have C12 : Hid (Chg [] w w2) := hd (C1.out.trans C2.out (by simp))
 have HG2 := hd (C2.out.blk HG.out (by simp))
 have HQ2 : Hid (Chg [] w0 w2) := hd (HQ.out.trans C12.out (by simp))
 go_wp2_with fail
 rw [HS0.out]
 go_loopw [3, 4] (fun s i0 wr => ∃ (j : Nat) (acc : Bytes), i0 = .int .i64 (j : Int) ∧ s = .string ⟨acc.toArray⟩ ∧ j ≤ n0 ∧ Hid (Chg [] w2 wr) ∧ Hid (acc = h0 ++ Pr.full ((l.blocks.take j).flatMap Pr.blockL)) ∧ acc.length ≤ 1200 + 2000000000000 * j) (fun _ i0 _ => n0 - intN i0)
 case atStart => exact ⟨0, h0, rfl, rfl, Nat.zero_le _, hd (Chg.refl _ _), hd (List.append_nil _).symm, by omega⟩
 case round =>
  obtain ⟨j, acc, rfl, rfl, hj, HC, HO, la⟩ := hrel
  have x2 := (HC.out.blk HG2.out (by simp)).cell (i := 2) rfl
  by_cases hlt : j < n0
  · skip
    have z0 : (0 : Int) ≤ (j : Int) := by omega
    have z1 : (j : Int) < (n0 : Int) := by omega
    have z2 : (j : Int) ≤ (k0 : Int) := by omega
    have HQR : Hid (Chg [] w0 wr) := hd (HQ2.out.trans HC.out (by simp))
    obtain ⟨x, g, og, cs, hx, ha, -, ⟨rv, hcs, hrs, -⟩, hcc⟩ := HA.out.rb.at_ HQR.out (j := j) (by rw [S0.out]; exact hlt)
    subst ha
    obtain ⟨ra, rk, rfl, _, _⟩ := hrs.form
    have HRS := hd hrs
    obtain ⟨rn, hrn⟩ : ∃ z, z = x.rows.length := ⟨_, rfl⟩
    rw [← hrn] at HRS hcs
    have HRN := hd hrn.symm
    clear hrn hrs
    have c0 : wr.cell? ⟨g, og + j * 3, none⟩ = some (.string ⟨x.name.toArray⟩) := by have h9 := hcc 0 _ (by rw [hcs]; rfl); simpa [Pr.iv, Pr.sv] using h9
    have c1 : wr.cell? ⟨g, og + j * 3 + 1, none⟩ = some (.slice ra rn rk) := by have h9 := hcc 1 _ (by rw [hcs]; rfl); simpa [Pr.iv, Pr.sv] using h9
    have HX := hd hx
    clear hx hcs hcc
    have HZ := hd (HSL.out.2.1 x (List.mem_of_getElem? HX.out))
    have bx := HZ.out.1
    have hrn : rn ≤ 1000000 := by have h9 := HZ.out.2.1; rw [HRN.out] at h9; exact h9
    have HBO : Hid (x.rows.all Pr.rowOk = true) := hd (by have h9 := List.all_eq_true.1 HO9.out.2.1 x (List.mem_of_getElem? HX.out); simp only [Pr.blockOk, Bool.and_eq_true] at h9; exact h9.2)
    have y1 : ¬ 9223372036854775807 < 8 + x.name.length := by omega
    have y2 : ¬ 9223372036854775807 < 8 + x.name.length + 3 := by omega
    have y3 : ¬ 9223372036854775807 < acc.length + (8 + x.name.length + 3) := by omega
    obtain ⟨hb, hhb⟩ : ∃ z, z = acc ++ ([9, 9] ++ Pr.tBlock ++ x.name ++ [32, 123, 10]) := ⟨_, rfl⟩
    have HSB : Hid ((⟨acc.toArray⟩ : ByteArray) ++ (⟨#[9, 9, 98, 108, 111, 99, 107, 32]⟩ ++ ⟨x.name.toArray⟩ ++ ⟨#[32, 123, 10]⟩) = ⟨hb.toArray⟩) := hd (by rw [hhb, ← str2]; exact congrArg _ (cat3 _ _ _))
    have lhb : hb.length ≤ acc.length + 1100 := by rw [hhb]; simp only [List.length_append, List.length_cons, List.length_nil, Pr.tBlock]; omega
    have HHB : Hid (hb = acc ++ Pr.lineB (2, Pr.tBlock ++ x.name ++ Pr.tOpen)) := hd (by rw [hhb]; simp [Pr.lineB, Pr.tOpen])
    clear hhb
    obtain ⟨ur, vr, _⟩ := HRS.out.cp
    have X2 := hd x2
    have D1 := hd c1
    go_wp2_with fail
    rw [HSB.out]
    clear x2 c1 c0 y1 y2 y3
    rename World => wo
    go_loopw [3, 5] (fun s i1 wv => ∃ (p : Nat) (ac : Bytes), i1 = .int .i64 (p : Int) ∧ s = .string ⟨ac.toArray⟩ ∧ p ≤ rn ∧ Hid (Chg [] wo wv) ∧ Hid (ac = hb ++ Pr.full ((x.rows.take p).map Pr.rowL)) ∧ ac.length ≤ acc.length + 1100 + 1000010 * p) (fun _ i1 _ => rn - intN i1)
    case atStart => exact ⟨0, hb, rfl, rfl, Nat.zero_le _, hd (Chg.refl _ _), hd (List.append_nil _).symm, by omega⟩
    case round =>
     obtain ⟨p, ac, rfl, rfl, hp, HP, HOP, lac⟩ := hrel
     have x2 := cell_quiet HP.out X2.out (by simp)
     have c1 := cell_quiet HP.out D1.out (by simp)
     by_cases hlp : p < rn
     · skip
       have t0 : (0 : Int) ≤ (p : Int) := by omega
       have t1 : (p : Int) < (rn : Int) := by omega
       have t2 : (p : Int) ≤ (rk : Int) := by omega
       have HQP : Hid (Chg [] w0 wr) := hd (HQR.out.trans HP.out (by simp))
       obtain ⟨r, g3, og3, cs3, hr, ha, -, ⟨mv, hcs3, hm3, -⟩, hcc3⟩ := HRS.out.at_ HQP.out (j := p) (by rw [HRN.out]; exact hlp)
       subst ha
       obtain ⟨ma, mk, rfl, _, _⟩ := hm3.form
       have e0 : wr.cell? ⟨g3, og3 + p * 8, none⟩ = some (.string ⟨r.name.toArray⟩) := by have h9 := hcc3 0 _ (by rw [hcs3]; rfl); simpa [Pr.iv, Pr.sv] using h9
       have e1 : wr.cell? ⟨g3, og3 + p * 8 + 1, none⟩ = some (.int .i64 r.x) := by have h9 := hcc3 1 _ (by rw [hcs3]; rfl); simpa [Pr.iv, Pr.sv] using h9
       have e2 : wr.cell? ⟨g3, og3 + p * 8 + 2, none⟩ = some (.int .i64 r.y) := by have h9 := hcc3 2 _ (by rw [hcs3]; rfl); simpa [Pr.iv, Pr.sv] using h9
       have e3 : wr.cell? ⟨g3, og3 + p * 8 + 3, none⟩ = some (.int .i64 r.f) := by have h9 := hcc3 3 _ (by rw [hcs3]; rfl); simpa [Pr.iv, Pr.sv] using h9
       have e4 : wr.cell? ⟨g3, og3 + p * 8 + 4, none⟩ = some (.int .i64 r.t) := by have h9 := hcc3 4 _ (by rw [hcs3]; rfl); simpa [Pr.iv, Pr.sv] using h9
       have e5 : wr.cell? ⟨g3, og3 + p * 8 + 5, none⟩ = some (.int .i64 r.step) := by have h9 := hcc3 5 _ (by rw [hcs3]; rfl); simpa [Pr.iv, Pr.sv] using h9
       have e6 : wr.cell? ⟨g3, og3 + p * 8 + 6, none⟩ = some (.slice ma r.marks.length mk) := by have h9 := hcc3 6 _ (by rw [hcs3]; rfl); simpa [Pr.iv, Pr.sv] using h9
       have e7 : wr.cell? ⟨g3, og3 + p * 8 + 7, none⟩ = some (.int .i64 r.at_) := by have h9 := hcc3 7 _ (by rw [hcs3]; rfl); simpa [Pr.iv, Pr.sv] using h9
       have HM3 := hd hm3
       have HRX := hd hr
       have br := HZ.out.2.2 r (List.mem_of_getElem? hr)
       have HRO : Hid (Pr.rowOk r = true) := hd (List.all_eq_true.1 HBO.out r (List.mem_of_getElem? hr))
       have lr := rowS_len HRO.out br.1 br.2
       clear hr hcs3 hcc3 hm3
       obtain ⟨c, hc⟩ : ∃ z, z = Pr.rowS r ++ [10] := ⟨_, rfl⟩
       have HCR := hd hc
       rw [← hc] at lr
       clear hc
       have y1 : ¬ 9223372036854775807 < 3 + c.length := by omega
       have y2 : ¬ 9223372036854775807 < ac.length + (3 + c.length) := by omega
       go_wp2_with fail
       refine line8_r HQP r ma mk _ HM3 br.1 br.2 HRO (fun wy hy => ?_)
       rw [← HCR.out]
       have HPY : Hid (Chg [] wo wy) := hd (HP.out.trans hy (by simp))
       clear hy e0 e1 e2 e3 e4 e5 e6 e7
       go_wp2_with fail
       go_roundw
       case rel => exact ⟨p + 1, ac ++ ([9, 9, 9] ++ c), vint (by omega), by rw [show (⟨#[9, 9, 9]⟩ : ByteArray) ++ ⟨c.toArray⟩ = ⟨([9, 9, 9] ++ c).toArray⟩ from str2 _ _, str2], by omega, HPY, hd (by rw [take_map _ HRX.out, HOP.out, HCR.out, List.append_assoc]; simp [Pr.rowL, Pr.lineB, List.replicate]), by simp only [List.length_append, List.length_cons, List.length_nil]; omega⟩
       case measure => simp [intN]; omega
     · skip
       have t1 : ¬ (p : Int) < (rn : Int) := by omega
       have HRE : Hid (ac = hb ++ Pr.full (x.rows.map Pr.rowL)) := hd (by have h9 := HOP.out; rw [take_all HRN.out hlp] at h9; exact h9)
       have HCV : Hid (Chg [] w2 wr) := hd (HC.out.trans HP.out (by simp))
       have y1 : ¬ 9223372036854775807 < ac.length + 4 := by omega
       go_wp2_with fail
       go_roundw
       case rel => exact ⟨j + 1, ac ++ [9, 9, 125, 10], vint (by omega), by rw [show (⟨ac.toArray⟩ : ByteArray) ++ ⟨#[9, 9, 125, 10]⟩ = ⟨(ac ++ [9, 9, 125, 10]).toArray⟩ from str2 _ _], by omega, HCV, hd (by rw [take_flat HX.out, block_full, HRE.out, HHB.out, HO.out]; simp only [List.append_assoc]), by rw [List.length_append]; show _ + 4 ≤ _; omega⟩
       case measure => simp [intN]; omega
  · skip
    have z1 : ¬ (j : Int) < (n0 : Int) := by omega
    have HP0 : Hid (acc = h0 ++ Pr.full (l.blocks.flatMap Pr.blockL)) := hd (by have h9 := HO.out; rw [take_all S0.out hlt] at h9; exact h9)
    have HC0 := HC
    obtain ⟨h1, hh⟩ : ∃ z, z = acc := ⟨_, rfl⟩
    rw [← hh] at HP0 la ⊢
    have lh1 : h1.length ≤ 2000000000000001200 := by omega
    clear hh HC HO la acc
    go_wp2_with fail
    clear x2
    go_loopw [3, 6] (fun s i0 wr => ∃ (j : Nat) (acc : Bytes), i0 = .int .i64 (j : Int) ∧ s = .string ⟨acc.toArray⟩ ∧ j ≤ n1 ∧ Hid (Chg [] w2 wr) ∧ Hid (acc = h1 ++ Pr.full ((l.areas.take j).map Pr.areaL)) ∧ acc.length ≤ 2000000000000001200 + 2000 * j) (fun _ i0 _ => n1 - intN i0)
    case atStart => exact ⟨0, h1, rfl, rfl, Nat.zero_le _, HC0, hd (List.append_nil _).symm, by omega⟩
    case round =>
     obtain ⟨j, acc, rfl, rfl, hj, HC, HO, la⟩ := hrel
     have x3 := (HC.out.blk HG2.out (by simp)).cell (i := 3) rfl
     by_cases hlt : j < n1
     · skip
       have z0 : (0 : Int) ≤ (j : Int) := by omega
       have z1 : (j : Int) < (n1 : Int) := by omega
       have z2 : (j : Int) ≤ (k1 : Int) := by omega
       have HQR : Hid (Chg [] w0 wr) := hd (HQ2.out.trans HC.out (by simp))
       obtain ⟨x, g, og, cs, hx, ha, -, ⟨hcs, -⟩, hcc⟩ := HA.out.ra.at_ HQR.out (j := j) (by rw [S1.out]; exact hlt)
       subst ha
       have c0 : wr.cell? ⟨g, og + j * 7, none⟩ = some (.string ⟨x.name.toArray⟩) := by have h9 := hcc 0 _ (by rw [hcs]; rfl); simpa [Pr.iv, Pr.sv] using h9
       have c1 : wr.cell? ⟨g, og + j * 7 + 1, none⟩ = some (.int .i64 x.box.x) := by have h9 := hcc 1 _ (by rw [hcs]; rfl); simpa [Pr.iv, Pr.sv] using h9
       have c2 : wr.cell? ⟨g, og + j * 7 + 2, none⟩ = some (.int .i64 x.box.y) := by have h9 := hcc 2 _ (by rw [hcs]; rfl); simpa [Pr.iv, Pr.sv] using h9
       have c3 : wr.cell? ⟨g, og + j * 7 + 3, none⟩ = some (.int .i64 x.box.x2) := by have h9 := hcc 3 _ (by rw [hcs]; rfl); simpa [Pr.iv, Pr.sv] using h9
       have c4 : wr.cell? ⟨g, og + j * 7 + 4, none⟩ = some (.int .i64 x.box.y2) := by have h9 := hcc 4 _ (by rw [hcs]; rfl); simpa [Pr.iv, Pr.sv] using h9
       have c5 : wr.cell? ⟨g, og + j * 7 + 5, none⟩ = some (.int .i64 x.holds) := by have h9 := hcc 5 _ (by rw [hcs]; rfl); simpa [Pr.iv, Pr.sv] using h9
       have c6 : wr.cell? ⟨g, og + j * 7 + 6, none⟩ = some (.int .i64 x.at_) := by have h9 := hcc 6 _ (by rw [hcs]; rfl); simpa [Pr.iv, Pr.sv] using h9
       have HX := hd hx
       clear hx hcs hcc
       have bx := HSL.out.2.2 x (List.mem_of_getElem? HX.out)
       have HAO : Hid (Pr.boxOk x.box = true ∧ Pr.numsOk [x.holds] = true) := hd (by have h9 := List.all_eq_true.1 HO9.out.2.2.1 x (List.mem_of_getElem? HX.out); simp only [Pr.areaOk, Bool.and_eq_true] at h9; exact ⟨h9.2.1, by simp [Pr.numsOk, h9.2.2]⟩)
       obtain ⟨d1, hd1⟩ : ∃ z, z = [9, 9] ++ Pr.tArea ++ x.name := ⟨_, rfl⟩
       have HD1 := hd hd1
       have ld1 : d1.length ≤ 1010 := by rw [hd1]; simp only [List.length_append, List.length_cons, List.length_nil, Pr.tArea]; omega
       obtain ⟨d2, hd2⟩ : ∃ z, z = d1 ++ Pr.nums (Pr.boxN x.box) := ⟨_, rfl⟩
       have HD2 := hd hd2
       have ld2 : d2.length ≤ 1100 := by have := boxN_len HAO.out.1; rw [hd2, List.length_append]; omega
       obtain ⟨d3, hd3⟩ : ∃ z, z = Pr.tHolds ++ Pr.nums [x.holds] := ⟨_, rfl⟩
       have HD3 := hd hd3
       have ld3 : d3.length ≤ 40 := by have := nums1_len HAO.out.2; rw [hd3, List.length_append]; show 6 + _ ≤ _; omega
       obtain ⟨d4, hd4⟩ : ∃ z, z = d2 ++ d3 := ⟨_, rfl⟩
       have HD4 := hd hd4
       have ld4 : d4.length ≤ 1140 := by rw [hd4, List.length_append]; omega
       obtain ⟨d5, hd5⟩ : ∃ z, z = d4 ++ [59, 10] := ⟨_, rfl⟩
       have HD5 := hd hd5
       have ld5 : d5.length ≤ 1150 := by rw [hd5, List.length_append]; show _ + 2 ≤ _; omega
       clear hd1 hd2 hd3 hd4 hd5
       have y1 : ¬ 9223372036854775807 < 7 + x.name.length := by omega
       have y2 : ¬ 9223372036854775807 < d2.length + d3.length := by omega
       have y3 : ¬ 9223372036854775807 < d4.length + 2 := by omega
       have y4 : ¬ 9223372036854775807 < acc.length + d5.length := by omega
       go_upto_region 14 with (fail)
       refine wp_region_held_drew (S := fun W' => Chg [] wr W') (by kernel_rfl) (Chg.refl _ _).drew (fun hHeld => ?_)
       obtain ⟨wd, hwd⟩ : ∃ x, x = wr.drew := ⟨_, rfl⟩
       rw [← hwd] at hHeld ⊢
       clear hwd
       refine tk 0 ?vd0 ?hyd0 ?rsd0
       case hyd0 => (intro w9 hSw; go_simp; try with_reducible rfl)
       try simp only [qq]
       refine tk 1 ?vd1 ?hyd1 ?rsd1
       case hyd1 => (intro w9 hSw; go_simp; try with_reducible rfl)
       try simp only [qq]
       refine tk 2 ?vd2 ?hyd2 ?rsd2
       case hyd2 => (intro w9 hSw; have tx3 := cell_quiet hSw x3 (by simp); go_simp; try with_reducible rfl)
       try simp only [qq]
       refine tk 3 ?vd3 ?hyd3 ?rsd3
       case hyd3 => (intro w9 hSw; go_simp; try with_reducible rfl)
       try simp only [qq]
       refine tk 4 ?vd4 ?hyd4 ?rsd4
       case hyd4 => (intro w9 hSw; go_simp; try with_reducible rfl)
       try simp only [qq]
       refine tk 5 ?vd5 ?hyd5 ?rsd5
       case hyd5 => (intro w9 hSw; go_simp; try with_reducible rfl)
       try simp only [qq]
       refine tk 6 ?vd6 ?hyd6 ?rsd6
       case hyd6 => (intro w9 hSw; have tc0 := cell_quiet hSw c0 (by simp); go_simp; try with_reducible rfl)
       try simp only [qq]
       refine tk 7 ?vd7 ?hyd7 ?rsd7
       case hyd7 => (intro w9 hSw; go_simp; try with_reducible rfl)
       try simp only [qq]
       rw [show (⟨#[9, 9, 97, 114, 101, 97, 32]⟩ : ByteArray) ++ ⟨x.name.toArray⟩ = ⟨d1.toArray⟩ from by rw [HD1.out]; exact str2 _ _]
       refine tk 8 ?vd8 ?hyd8 ?rsd8
       case hyd8 => (intro w9 hSw; go_simp; try with_reducible rfl)
       try simp only [qq]
       refine tk 9 ?vd9 ?hyd9 ?rsd9
       case hyd9 => (intro w9 hSw; have tx3 := cell_quiet hSw x3 (by simp); go_simp; try with_reducible rfl)
       try simp only [qq]
       refine tk 10 ?vd10 ?hyd10 ?rsd10
       case hyd10 => (intro w9 hSw; go_simp; try with_reducible rfl)
       try simp only [qq]
       refine tk 11 ?vd11 ?hyd11 ?rsd11
       case hyd11 => (intro w9 hSw; go_simp; try with_reducible rfl)
       try simp only [qq]
       refine tk 12 ?vd12 ?hyd12 ?rsd12
       case hyd12 => (intro w9 hSw; go_simp; try with_reducible rfl)
       try simp only [qq]
       refine tk 13 ?vd13 ?hyd13 ?rsd13
       case hyd13 => (intro w9 hSw; have tc1 := cell_quiet hSw c1 (by simp); have tc2 := cell_quiet hSw c2 (by simp); have tc3 := cell_quiet hSw c3 (by simp); have tc4 := cell_quiet hSw c4 (by simp); go_simp; try with_reducible rfl)
       try simp only [qq]
       refine tk 15 ?vd15 ?hyd15 ?rsd15
       case hyd15 => (intro w9 hSw; go_simp; try with_reducible rfl)
       try simp only [qq]
       refine tk 16 ?vd16 ?hyd16 ?rsd16
       case hyd16 => (intro w9 hSw; have tx3 := cell_quiet hSw x3 (by simp); go_simp; try with_reducible rfl)
       try simp only [qq]
       refine tk 17 ?vd17 ?hyd17 ?rsd17
       case hyd17 => (intro w9 hSw; go_simp; try with_reducible rfl)
       try simp only [qq]
       refine tk 18 ?vd18 ?hyd18 ?rsd18
       case hyd18 => (intro w9 hSw; go_simp; try with_reducible rfl)
       try simp only [qq]
       refine tk 19 ?vd19 ?hyd19 ?rsd19
       case hyd19 => (intro w9 hSw; go_simp; try with_reducible rfl)
       try simp only [qq]
       refine tk 20 ?vd20 ?hyd20 ?rsd20
       case hyd20 => (intro w9 hSw; have tc5 := cell_quiet hSw c5 (by simp); go_simp; try with_reducible rfl)
       try simp only [qq]
       refine rd2 14 21 (fun K hK => ?_) (fun K hK => ?_)
       · go_simp
         refine rect8_r d1 (by omega) x.box (hd HAO.out.1) (fun wd14 hy => ?_)
         have HY := hd hy
         clear hy
         rw [← HD2.out]
         refine hK.out _ _ (hHeld.trans HY.out (by simp)) (fun hHeld => ?_)
         clear hK K
         try simp only [qq]
         refine rd1 21 (fun K hK => ?_)
         · go_simp
           have HB : Hid (Blk (wd14.alloc (.cells #[.int .i64 x.holds] 3)) wd14.heap.size [.int .i64 x.holds] 3) := hd (Blk.new wd14 [.int .i64 x.holds] _)
           obtain ⟨wd1421, hw⟩ : ∃ W, W = wd14.alloc (.cells #[.int .i64 x.holds] 3) := ⟨_, rfl⟩
           have CE : Hid (Chg [] wd14 wd1421) := hd (by rw [hw]; exact (Chg.refl _ _).alloc _)
           rw [← hw] at HB ⊢
           clear hw
           refine hK.out _ _ (hHeld.trans CE.out (by simp)) (fun hHeld => ?_)
           clear hK K
           try simp only [qq]
           refine rd1 22 (fun K hK => ?_)
           · go_simp
             refine words8_r Pr.tHolds (by decide) [x.holds] 1 ⟨rfl, by decide⟩ (hd HAO.out.2) HB ?_
             refine hK.out _ _ hHeld (fun hHeld => ?_)
             clear hK K
             try simp only [qq]
             rw [← HD3.out]
             refine tk 23 ?ve123 ?hye123 ?rse123
             case hye123 => (intro w9 hSw; go_simp; try with_reducible rfl)
             try simp only [qq]
             rw [show (⟨d2.toArray⟩ : ByteArray) ++ ⟨d3.toArray⟩ = ⟨d4.toArray⟩ from by rw [HD4.out]; exact str2 _ _]
             refine tk 24 ?ve124 ?hye124 ?rse124
             case hye124 => (intro w9 hSw; go_simp; try with_reducible rfl)
             try simp only [qq]
             rw [show (⟨d4.toArray⟩ : ByteArray) ++ ⟨#[59, 10]⟩ = ⟨d5.toArray⟩ from by rw [HD5.out]; exact str2 _ _]
             refine tk 25 ?ve125 ?hye125 ?rse125
             case hye125 => (intro w9 hSw; go_simp; try with_reducible rfl)
             try simp only [qq]
             rw [show (⟨acc.toArray⟩ : ByteArray) ++ ⟨d5.toArray⟩ = ⟨(acc ++ d5).toArray⟩ from str2 _ _]
             refine tk 26 ?ve126 ?hye126 ?rse126
             case hye126 => (intro w9 hSw; go_simp; try with_reducible rfl)
             try simp only [qq]
             refine wpAnyH_done (by kernel_rfl) ?_ _
             try simp only [qq]
             have HCY : Hid (Chg [] w2 wd1421) := hd (HC.out.trans hHeld (by simp))
             clear hHeld c0 c1 c2 c3 c4 c5 c6
             go_wp2_with fail
             go_roundw
             case rel => exact ⟨j + 1, acc ++ d5, vint (by omega), rfl, by omega, HCY, hd (by rw [take_map _ HX.out, HO.out, HD5.out, HD4.out, HD3.out, HD2.out, HD1.out]; simp [Pr.areaL, Pr.lineB, Pr.tSemi, List.replicate]), by rw [List.length_append]; omega⟩
             case measure => simp [intN]; omega
       · go_simp
         have HB : Hid (Blk (wd.alloc (.cells #[.int .i64 x.holds] 3)) wd.heap.size [.int .i64 x.holds] 3) := hd (Blk.new wd [.int .i64 x.holds] _)
         obtain ⟨wd21, hw⟩ : ∃ W, W = wd.alloc (.cells #[.int .i64 x.holds] 3) := ⟨_, rfl⟩
         have CE : Hid (Chg [] wd wd21) := hd (by rw [hw]; exact (Chg.refl _ _).alloc _)
         rw [← hw] at HB ⊢
         clear hw
         refine hK.out _ _ (hHeld.trans CE.out (by simp)) (fun hHeld => ?_)
         clear hK K
         try simp only [qq]
         refine rd1 14 (fun K hK => ?_)
         · go_simp
           refine rect8_r d1 (by omega) x.box (hd HAO.out.1) (fun wd2114 hy => ?_)
           have HY := hd hy
           clear hy
           rw [← HD2.out]
           have HB := hd (HY.out.blk HB.out (by simp))
           refine hK.out _ _ (hHeld.trans HY.out (by simp)) (fun hHeld => ?_)
           clear hK K
           try simp only [qq]
           refine rd1 22 (fun K hK => ?_)
           · go_simp
             refine words8_r Pr.tHolds (by decide) [x.holds] 1 ⟨rfl, by decide⟩ (hd HAO.out.2) HB ?_
             refine hK.out _ _ hHeld (fun hHeld => ?_)
             clear hK K
             try simp only [qq]
             rw [← HD3.out]
             refine tk 23 ?ve223 ?hye223 ?rse223
             case hye223 => (intro w9 hSw; go_simp; try with_reducible rfl)
             try simp only [qq]
             rw [show (⟨d2.toArray⟩ : ByteArray) ++ ⟨d3.toArray⟩ = ⟨d4.toArray⟩ from by rw [HD4.out]; exact str2 _ _]
             refine tk 24 ?ve224 ?hye224 ?rse224
             case hye224 => (intro w9 hSw; go_simp; try with_reducible rfl)
             try simp only [qq]
             rw [show (⟨d4.toArray⟩ : ByteArray) ++ ⟨#[59, 10]⟩ = ⟨d5.toArray⟩ from by rw [HD5.out]; exact str2 _ _]
             refine tk 25 ?ve225 ?hye225 ?rse225
             case hye225 => (intro w9 hSw; go_simp; try with_reducible rfl)
             try simp only [qq]
             rw [show (⟨acc.toArray⟩ : ByteArray) ++ ⟨d5.toArray⟩ = ⟨(acc ++ d5).toArray⟩ from str2 _ _]
             refine tk 26 ?ve226 ?hye226 ?rse226
             case hye226 => (intro w9 hSw; go_simp; try with_reducible rfl)
             try simp only [qq]
             refine wpAnyH_done (by kernel_rfl) ?_ _
             try simp only [qq]
             have HCY : Hid (Chg [] w2 wd2114) := hd (HC.out.trans hHeld (by simp))
             clear hHeld c0 c1 c2 c3 c4 c5 c6
             go_wp2_with fail
             go_roundw
             case rel => exact ⟨j + 1, acc ++ d5, vint (by omega), rfl, by omega, HCY, hd (by rw [take_map _ HX.out, HO.out, HD5.out, HD4.out, HD3.out, HD2.out, HD1.out]; simp [Pr.areaL, Pr.lineB, Pr.tSemi, List.replicate]), by rw [List.length_append]; omega⟩
             case measure => simp [intN]; omega
     · skip
       have z1 : ¬ (j : Int) < (n1 : Int) := by omega
       have HP1 : Hid (acc = h1 ++ Pr.full (l.areas.map Pr.areaL)) := hd (by have h9 := HO.out; rw [take_all S1.out hlt] at h9; exact h9)
       have HC1 := HC
       obtain ⟨h2, hh⟩ : ∃ z, z = acc := ⟨_, rfl⟩
       rw [← hh] at HP1 la ⊢
       have lh2 : h2.length ≤ 2000000002000001200 := by omega
       clear hh HC HO la acc
       go_wp2_with fail
       clear x3
       go_loopw [3, 7] (fun s i0 wr => ∃ (j : Nat) (acc : Bytes), i0 = .int .i64 (j : Int) ∧ s = .string ⟨acc.toArray⟩ ∧ j ≤ n2 ∧ Hid (Chg [] w2 wr) ∧ Hid (acc = h2 ++ Pr.full ((l.aisles.take j).map Pr.aisleL)) ∧ acc.length ≤ 2000000002000001200 + 2000 * j) (fun _ i0 _ => n2 - intN i0)
       case atStart => exact ⟨0, h2, rfl, rfl, Nat.zero_le _, HC1, hd (List.append_nil _).symm, by omega⟩
       case round =>
        obtain ⟨j, acc, rfl, rfl, hj, HC, HO, la⟩ := hrel
        have x4 := (HC.out.blk HG2.out (by simp)).cell (i := 4) rfl
        by_cases hlt : j < n2
        · skip
          have z0 : (0 : Int) ≤ (j : Int) := by omega
          have z1 : (j : Int) < (n2 : Int) := by omega
          have z2 : (j : Int) ≤ (k2 : Int) := by omega
          have HQR : Hid (Chg [] w0 wr) := hd (HQ2.out.trans HC.out (by simp))
          obtain ⟨x, g, og, cs, hx, ha, -, ⟨hcs, -⟩, hcc⟩ := HA.out.ri.at_ HQR.out (j := j) (by rw [S2.out]; exact hlt)
          subst ha
          have c0 : wr.cell? ⟨g, og + j * 4, none⟩ = some (.int .i64 x.x) := by have h9 := hcc 0 _ (by rw [hcs]; rfl); simpa [Pr.iv, Pr.sv] using h9
          have c1 : wr.cell? ⟨g, og + j * 4 + 1, none⟩ = some (.int .i64 x.y) := by have h9 := hcc 1 _ (by rw [hcs]; rfl); simpa [Pr.iv, Pr.sv] using h9
          have c2 : wr.cell? ⟨g, og + j * 4 + 2, none⟩ = some (.int .i64 x.x2) := by have h9 := hcc 2 _ (by rw [hcs]; rfl); simpa [Pr.iv, Pr.sv] using h9
          have c3 : wr.cell? ⟨g, og + j * 4 + 3, none⟩ = some (.int .i64 x.y2) := by have h9 := hcc 3 _ (by rw [hcs]; rfl); simpa [Pr.iv, Pr.sv] using h9
          have HX := hd hx
          clear hx hcs hcc
          have HAO : Hid (Pr.boxOk x = true) := hd (List.all_eq_true.1 HO9.out.2.2.2.1 x (List.mem_of_getElem? HX.out))
          obtain ⟨d1, hd1⟩ : ∃ z, z = tAisle8 ++ Pr.nums (Pr.boxN x) := ⟨_, rfl⟩
          have HD1 := hd hd1
          have ld1 : d1.length ≤ 1000 := by have := boxN_len HAO.out; rw [hd1]; simp only [List.length_append, List.length_cons, List.length_nil, tAisle8]; omega
          clear hd1
          have y1 : ¬ 9223372036854775807 < d1.length + 2 := by omega
          have y2 : ¬ 9223372036854775807 < acc.length + (d1.length + 2) := by omega
          go_wp2_with fail
          refine rect8_r tAisle8 (by decide) x HAO (fun wy hy => ?_)
          rw [← HD1.out]
          have HCY : Hid (Chg [] w2 wy) := hd (HC.out.trans hy (by simp))
          clear hy c0 c1 c2 c3
          go_wp2_with fail
          go_roundw
          case rel => exact ⟨j + 1, acc ++ (d1 ++ [59, 10]), vint (by omega), by rw [show (⟨d1.toArray⟩ : ByteArray) ++ ⟨#[59, 10]⟩ = ⟨(d1 ++ [59, 10]).toArray⟩ from str2 _ _, str2], by omega, HCY, hd (by rw [take_map _ HX.out, HO.out, HD1.out]; simp [Pr.aisleL, Pr.tAisle, tAisle8, Pr.lineB, Pr.tSemi, List.replicate]), by simp only [List.length_append, List.length_cons, List.length_nil]; omega⟩
          case measure => simp [intN]; omega
        · skip
          have z1 : ¬ (j : Int) < (n2 : Int) := by omega
          have HP2 : Hid (acc = h2 ++ Pr.full (l.aisles.map Pr.aisleL)) := hd (by have h9 := HO.out; rw [take_all S2.out hlt] at h9; exact h9)
          have HC2 := HC
          obtain ⟨h3, hh⟩ : ∃ z, z = acc := ⟨_, rfl⟩
          rw [← hh] at HP2 la ⊢
          have lh3 : h3.length ≤ 2000000004000001200 := by omega
          clear hh HC HO la acc
          go_wp2_with fail
          clear x4
          go_loopw [3, 8] (fun s i0 wr => ∃ (j : Nat) (acc : Bytes), i0 = .int .i64 (j : Int) ∧ s = .string ⟨acc.toArray⟩ ∧ j ≤ n3 ∧ Hid (Chg [] w2 wr) ∧ Hid (acc = h3 ++ Pr.full ((l.pillars.take j).map Pr.pillarL)) ∧ acc.length ≤ 2000000004000001200 + 2000 * j) (fun _ i0 _ => n3 - intN i0)
          case atStart => exact ⟨0, h3, rfl, rfl, Nat.zero_le _, HC2, hd (List.append_nil _).symm, by omega⟩
          case round =>
           obtain ⟨j, acc, rfl, rfl, hj, HC, HO, la⟩ := hrel
           have x5 := (HC.out.blk HG2.out (by simp)).cell (i := 5) rfl
           by_cases hlt : j < n3
           · skip
             have z0 : (0 : Int) ≤ (j : Int) := by omega
             have z1 : (j : Int) < (n3 : Int) := by omega
             have z2 : (j : Int) ≤ (k3 : Int) := by omega
             have HQR : Hid (Chg [] w0 wr) := hd (HQ2.out.trans HC.out (by simp))
             obtain ⟨x, g, og, cs, hx, ha, -, ⟨hcs, -⟩, hcc⟩ := HA.out.rp.at_ HQR.out (j := j) (by rw [S3.out]; exact hlt)
             subst ha
             have c0 : wr.cell? ⟨g, og + j * 4, none⟩ = some (.int .i64 x.x) := by have h9 := hcc 0 _ (by rw [hcs]; rfl); simpa [Pr.iv, Pr.sv] using h9
             have c1 : wr.cell? ⟨g, og + j * 4 + 1, none⟩ = some (.int .i64 x.y) := by have h9 := hcc 1 _ (by rw [hcs]; rfl); simpa [Pr.iv, Pr.sv] using h9
             have c2 : wr.cell? ⟨g, og + j * 4 + 2, none⟩ = some (.int .i64 x.x2) := by have h9 := hcc 2 _ (by rw [hcs]; rfl); simpa [Pr.iv, Pr.sv] using h9
             have c3 : wr.cell? ⟨g, og + j * 4 + 3, none⟩ = some (.int .i64 x.y2) := by have h9 := hcc 3 _ (by rw [hcs]; rfl); simpa [Pr.iv, Pr.sv] using h9
             have HX := hd hx
             clear hx hcs hcc
             have HAO : Hid (Pr.boxOk x = true) := hd (List.all_eq_true.1 HO9.out.2.2.2.2.1 x (List.mem_of_getElem? HX.out))
             obtain ⟨d1, hd1⟩ : ∃ z, z = tPillar8 ++ Pr.nums (Pr.boxN x) := ⟨_, rfl⟩
             have HD1 := hd hd1
             have ld1 : d1.length ≤ 1000 := by have := boxN_len HAO.out; rw [hd1]; simp only [List.length_append, List.length_cons, List.length_nil, tPillar8]; omega
             clear hd1
             have y1 : ¬ 9223372036854775807 < d1.length + 2 := by omega
             have y2 : ¬ 9223372036854775807 < acc.length + (d1.length + 2) := by omega
             go_wp2_with fail
             refine rect8_r tPillar8 (by decide) x HAO (fun wy hy => ?_)
             rw [← HD1.out]
             have HCY : Hid (Chg [] w2 wy) := hd (HC.out.trans hy (by simp))
             clear hy c0 c1 c2 c3
             go_wp2_with fail
             go_roundw
             case rel => exact ⟨j + 1, acc ++ (d1 ++ [59, 10]), vint (by omega), by rw [show (⟨d1.toArray⟩ : ByteArray) ++ ⟨#[59, 10]⟩ = ⟨(d1 ++ [59, 10]).toArray⟩ from str2 _ _, str2], by omega, HCY, hd (by rw [take_map _ HX.out, HO.out, HD1.out]; simp [Pr.pillarL, Pr.tPillar, tPillar8, Pr.lineB, Pr.tSemi, List.replicate]), by simp only [List.length_append, List.length_cons, List.length_nil]; omega⟩
             case measure => simp [intN]; omega
           · skip
             have z1 : ¬ (j : Int) < (n3 : Int) := by omega
             have HP3 : Hid (acc = h3 ++ Pr.full (l.pillars.map Pr.pillarL)) := hd (by have h9 := HO.out; rw [take_all S3.out hlt] at h9; exact h9)
             have HC3 := HC
             obtain ⟨h4, hh⟩ : ∃ z, z = acc := ⟨_, rfl⟩
             rw [← hh] at HP3 la ⊢
             have lh4 : h4.length ≤ 2000000006000001200 := by omega
             clear hh HC HO la acc
             go_wp2_with fail
             clear x5
             go_loopw [3, 9] (fun s i0 wr => ∃ (j : Nat) (acc : Bytes), i0 = .int .i64 (j : Int) ∧ s = .string ⟨acc.toArray⟩ ∧ j ≤ n4 ∧ Hid (Chg [] w2 wr) ∧ Hid (acc = h4 ++ Pr.full ((l.doors.take j).map Pr.doorL)) ∧ acc.length ≤ 2000000006000001200 + 2000 * j) (fun _ i0 _ => n4 - intN i0)
             case atStart => exact ⟨0, h4, rfl, rfl, Nat.zero_le _, HC3, hd (List.append_nil _).symm, by omega⟩
             case round =>
              obtain ⟨j, acc, rfl, rfl, hj, HC, HO, la⟩ := hrel
              have x6 := (HC.out.blk HG2.out (by simp)).cell (i := 6) rfl
              by_cases hlt : j < n4
              · skip
                have z0 : (0 : Int) ≤ (j : Int) := by omega
                have z1 : (j : Int) < (n4 : Int) := by omega
                have z2 : (j : Int) ≤ (k4 : Int) := by omega
                have HQR : Hid (Chg [] w0 wr) := hd (HQ2.out.trans HC.out (by simp))
                obtain ⟨x, g, og, cs, hx, ha, -, ⟨hcs, -⟩, hcc⟩ := HA.out.rd.at_ HQR.out (j := j) (by rw [S4.out]; exact hlt)
                subst ha
                have c0 : wr.cell? ⟨g, og + j * 2, none⟩ = some (.int .i64 x.1) := by have h9 := hcc 0 _ (by rw [hcs]; rfl); simpa [Pr.iv, Pr.sv] using h9
                have c1 : wr.cell? ⟨g, og + j * 2 + 1, none⟩ = some (.int .i64 x.2) := by have h9 := hcc 1 _ (by rw [hcs]; rfl); simpa [Pr.iv, Pr.sv] using h9
                have HX := hd hx
                clear hx hcs hcc
                have HAO : Hid (Pr.numsOk [x.1, x.2] = true) := hd (List.all_eq_true.1 HO9.out.2.2.2.2.2 x (List.mem_of_getElem? HX.out))
                obtain ⟨d1, hd1⟩ : ∃ z, z = tDoor8 ++ Pr.nums [x.1, x.2] := ⟨_, rfl⟩
                have HD1 := hd hd1
                have ld1 : d1.length ≤ 1000 := by have := nums2_len HAO.out; rw [hd1]; simp only [List.length_append, List.length_cons, List.length_nil, tDoor8]; omega
                clear hd1
                obtain ⟨d5, hd5⟩ : ∃ z, z = d1 ++ [59, 10] := ⟨_, rfl⟩
                have HD5 := hd hd5
                have ld5 : d5.length ≤ 1010 := by rw [hd5, List.length_append]; show _ + 2 ≤ _; omega
                clear hd5
                have y1 : ¬ 9223372036854775807 < d1.length + 2 := by omega
                have y2 : ¬ 9223372036854775807 < acc.length + d5.length := by omega
                go_upto_region 26 with (fail)
                refine wp_region_held_drew (S := fun W' => Chg [] wr W') (by kernel_rfl) (Chg.refl _ _).drew (fun hHeld => ?_)
                obtain ⟨wd, hwd⟩ : ∃ x, x = wr.drew := ⟨_, rfl⟩
                rw [← hwd] at hHeld ⊢
                clear hwd
                refine tk 0 ?vf0 ?hyf0 ?rsf0
                case hyf0 => (intro w9 hSw; go_simp; try with_reducible rfl)
                try simp only [qq]
                refine tk 1 ?vf1 ?hyf1 ?rsf1
                case hyf1 => (intro w9 hSw; go_simp; try with_reducible rfl)
                try simp only [qq]
                refine tk 2 ?vf2 ?hyf2 ?rsf2
                case hyf2 => (intro w9 hSw; have tx6 := cell_quiet hSw x6 (by simp); go_simp; try with_reducible rfl)
                try simp only [qq]
                refine tk 3 ?vf3 ?hyf3 ?rsf3
                case hyf3 => (intro w9 hSw; go_simp; try with_reducible rfl)
                try simp only [qq]
                refine tk 4 ?vf4 ?hyf4 ?rsf4
                case hyf4 => (intro w9 hSw; go_simp; try with_reducible rfl)
                try simp only [qq]
                refine tk 5 ?vf5 ?hyf5 ?rsf5
                case hyf5 => (intro w9 hSw; go_simp; try with_reducible rfl)
                try simp only [qq]
                refine tk 6 ?vf6 ?hyf6 ?rsf6
                case hyf6 => (intro w9 hSw; have tc0 := cell_quiet hSw c0 (by simp); go_simp; try with_reducible rfl)
                try simp only [qq]
                refine tk 7 ?vf7 ?hyf7 ?rsf7
                case hyf7 => (intro w9 hSw; go_simp; try with_reducible rfl)
                try simp only [qq]
                refine tk 8 ?vf8 ?hyf8 ?rsf8
                case hyf8 => (intro w9 hSw; have tx6 := cell_quiet hSw x6 (by simp); go_simp; try with_reducible rfl)
                try simp only [qq]
                refine tk 9 ?vf9 ?hyf9 ?rsf9
                case hyf9 => (intro w9 hSw; go_simp; try with_reducible rfl)
                try simp only [qq]
                refine tk 10 ?vf10 ?hyf10 ?rsf10
                case hyf10 => (intro w9 hSw; go_simp; try with_reducible rfl)
                try simp only [qq]
                refine tk 11 ?vf11 ?hyf11 ?rsf11
                case hyf11 => (intro w9 hSw; go_simp; try with_reducible rfl)
                try simp only [qq]
                refine tk 12 ?vf12 ?hyf12 ?rsf12
                case hyf12 => (intro w9 hSw; have tc1 := cell_quiet hSw c1 (by simp); go_simp; try with_reducible rfl)
                try simp only [qq]
                refine rd1 13 (fun K hK => ?_)
                go_simp
                have HB : Hid (Blk (wd.alloc (.cells #[.int .i64 x.1, .int .i64 x.2] 3)) wd.heap.size [.int .i64 x.1, .int .i64 x.2] 3) := hd (Blk.new wd [.int .i64 x.1, .int .i64 x.2] _)
                obtain ⟨we, hw⟩ : ∃ W, W = wd.alloc (.cells #[.int .i64 x.1, .int .i64 x.2] 3) := ⟨_, rfl⟩
                have CE : Hid (Chg [] wd we) := hd (by rw [hw]; exact (Chg.refl _ _).alloc _)
                rw [← hw] at HB ⊢
                clear hw
                refine hK.out _ _ (hHeld.trans CE.out (by simp)) (fun hHeld => ?_)
                clear hK K
                try simp only [qq]
                refine rd1 14 (fun K hK => ?_)
                go_simp
                refine words8_r tDoor8 (by decide) [x.1, x.2] 2 ⟨rfl, by decide⟩ HAO HB ?_
                refine hK.out _ _ hHeld (fun hHeld => ?_)
                clear hK K
                try simp only [qq]
                rw [← HD1.out]
                refine tk 15 ?vf15 ?hyf15 ?rsf15
                case hyf15 => (intro w9 hSw; go_simp; try with_reducible rfl)
                try simp only [qq]
                rw [show (⟨d1.toArray⟩ : ByteArray) ++ ⟨#[59, 10]⟩ = ⟨d5.toArray⟩ from by rw [HD5.out]; exact str2 _ _]
                refine tk 16 ?vf16 ?hyf16 ?rsf16
                case hyf16 => (intro w9 hSw; go_simp; try with_reducible rfl)
                try simp only [qq]
                rw [show (⟨acc.toArray⟩ : ByteArray) ++ ⟨d5.toArray⟩ = ⟨(acc ++ d5).toArray⟩ from str2 _ _]
                refine tk 17 ?vf17 ?hyf17 ?rsf17
                case hyf17 => (intro w9 hSw; go_simp; try with_reducible rfl)
                try simp only [qq]
                refine wpAnyH_done (by kernel_rfl) ?_ _
                try simp only [qq]
                have HCY : Hid (Chg [] w2 we) := hd (HC.out.trans hHeld (by simp))
                clear hHeld c0 c1
                go_wp2_with fail
                go_roundw
                case rel => exact ⟨j + 1, acc ++ d5, vint (by omega), rfl, by omega, HCY, hd (by rw [take_map _ HX.out, HO.out, HD5.out, HD1.out]; simp [Pr.doorL, Pr.tDoor, tDoor8, Pr.lineB, Pr.tSemi, List.replicate]), by rw [List.length_append]; omega⟩
                case measure => simp [intN]; omega
              · skip
                have z1 : ¬ (j : Int) < (n4 : Int) := by omega
                have HP4 : Hid (acc = h4 ++ Pr.full (l.doors.map Pr.doorL)) := hd (by have h9 := HO.out; rw [take_all S4.out hlt] at h9; exact h9)
                have HC4 := HC
                obtain ⟨h5, hh⟩ : ∃ z, z = acc := ⟨_, rfl⟩
                rw [← hh] at HP4 la ⊢
                have lh5 : h5.length ≤ 2000000008000001200 := by omega
                clear hh HC HO la acc
                go_wp2_with fail
                clear x6
                have z4 : ¬ 9223372036854775807 < h5.length + 3 := by omega
                go_wp2_with fail
                have HE : Hid (h5 ++ [9, 125, 10] = Pr.refFloor l) := hd (by rw [level_full, HP4.out, HP3.out, HP2.out, HP1.out, HP0.out, HH0.out]; simp only [List.append_assoc])
                have HL9 : Hid ((Pr.refFloor l).length ≤ 3000000000000000000) := hd (by rw [← HE.out, List.length_append]; show _ + 3 ≤ _; omega)
                have h9 := HRR.out wr (C12.out.trans HC4.out (by simp)) HL9.out
                rw [← HE.out, ← str2] at h9
                exact h9
end Go.Proofs.YtgbooiaedbpenaaDoor
