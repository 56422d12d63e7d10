/-
  PrTh, PrTi in one text.
-/
import Derived.Test.YtgbooiaedbpenaaDoorPrTg
import Derived.Test.YtgbooiaedbpenaaDoorPxU
namespace Go.Proofs.YtgbooiaedbpenaaDoor
set_option linter.unusedVariables false
set_option linter.unusedSimpArgs false
open Go Go.RowKit Go.Shelf
attribute [local irreducible] Go.wpStill
theorem ref_any (w : World) (s : Bytes) :
    Calls Tryd.prog 51 #[.string ⟨s.toArray⟩] w fun e w' => ∃ v, e = .returned (.tuple #[v, .int .i64 (Lx.lex s).2.1, .int .i64 (Lx.lex s).2.2]) ∧ Chg [] w w' := by
  by_cases h : s.length ≤ 20000
  · refine (ref_spec w s (by omega)).mono ?_
    rintro e w' ⟨v, h1, -, h3⟩
    exact ⟨v, h1, h3⟩
  · refine (ref_long w s (by omega)).mono ?_
    rintro e w' ⟨rfl, rfl⟩
    have hl : Lx.lex s = ([], 3, -1) := by unfold Lx.lex; rw [if_pos (by omega)]
    exact ⟨_, by rw [hl]; rfl, Chg.refl _ _⟩
/-- The end of a text: it is given when the lexer reads it. -/
theorem end8_r {w : World} (s : Bytes) {R : Ending → World → Prop} (h : ∀ w', Chg [] w w' → R (.returned (.tuple #[.string ⟨(Pr.rend s).1.toArray⟩, .int .i64 ((Pr.rend s).2 : Nat)])) w') :
    Calls Tryd.prog 28 #[.string ⟨s.toArray⟩] w R := by
  have HRR := hd h
  clear h
  go_enter Tryd.func28, Tryd.ntmps28
  go_wp2_with fail
  refine (ref_any w s).mono ?_
  rintro e w2 ⟨v, rfl, hc⟩
  have HC := hd hc
  clear hc
  by_cases h0 : (Lx.lex s).2.1 = 0
  · have HF : Hid (Pr.rend s = (s, 0)) := hd (if_neg (fun h => h h0))
    rw [h0]
    clear h0
    go_wp2_with fail
    have h9 := HRR.out w2 HC.out
    rw [HF.out] at h9
    exact h9
  · have HF : Hid (Pr.rend s = ([], 3)) := hd (if_pos h0)
    obtain ⟨q, hq⟩ : ∃ q, q = (Lx.lex s).2.1 := ⟨_, rfl⟩
    rw [← hq] at h0 ⊢
    clear hq
    have e1 : ((q : Int) != 0) = true := by simp; omega
    have e2 : ¬ (q : Int) = 0 := by omega
    go_wp2_with fail
    have h9 := HRR.out w2 HC.out
    rw [HF.out] at h9
    exact h9
end Go.Proofs.YtgbooiaedbpenaaDoor
namespace Go.Proofs.YtgbooiaedbpenaaDoor
set_option linter.unusedVariables false
set_option linter.unusedSimpArgs false
open Go Go.RowKit Go.Shelf
attribute [local irreducible] Go.wpStill
set_option maxHeartbeats 8000000 in
set_option maxRecDepth 100000 in
theorem refHall_r {w : World} (h : Pr.Hl) (p : Option Addr) (k n : Nat) (HM : Hid (RdS 8 Pr.RLv w (.slice p n k) h.levels)) (bn : h.name.length ≤ 1000) (HSL : Hid (∀ l ∈ h.levels, SzL l)) {R : Ending → World → Prop} (hR : ∀ w', Chg [] w w' → R (.returned (.tuple #[.string ⟨(Pr.refHall h).1.toArray⟩, .int .i64 ((Pr.refHall h).2 : Nat)])) w') :
 Calls Tryd.prog 12 #[.agg #[.string ⟨h.name.toArray⟩, .int .i64 h.sx, .int .i64 h.sy, .slice p n k]] w R := by
 have HRR := hd hR
 clear hR
 obtain ⟨u0, v0, s0⟩ := HM.out.cp
 have HN := hd s0
 clear s0
 go_enter Tryd.func12, Tryd.ntmps12
 go_upto_region 1 with (fail)
 obtain ⟨w1, hw⟩ : ∃ W, W = w.alloc (.cells #[.string ⟨h.name.toArray⟩, .int .i64 h.sx, .int .i64 h.sy, .slice p n k] 26) := ⟨_, rfl⟩
 rw [← hw]
 obtain ⟨G, hX⟩ : ∃ X, X = w.heap.size := ⟨_, rfl⟩
 rw [← hX]
 have HG : Hid (Blk w1 G [.string ⟨h.name.toArray⟩, .int .i64 h.sx, .int .i64 h.sy, .slice p n k] 26) := hd (by rw [hw, hX]; exact Blk.new w [.string ⟨h.name.toArray⟩, .int .i64 h.sx, .int .i64 h.sy, .slice p n k] _)
 have C1 : Hid (Chg [] w w1) := hd (by rw [hw]; exact (Chg.refl _ _).alloc _)
 clear hw hX
 have g0 := HG.out.cell (i := 0) rfl
 have g1 := HG.out.cell (i := 1) rfl
 have g2 := HG.out.cell (i := 2) rfl
 have g3 := HG.out.cell (i := 3) rfl
 go_wp2_with fail
 refine hall8_r C1 h p k n HM bn HSL (fun w2 h2 => ?_)
 have C2 := hd h2
 clear h2 g0 g1 g2 g3
 have HG2 := hd (C2.out.blk HG.out (by simp))
 have g0 := HG2.out.cell (i := 0) rfl
 have g1 := HG2.out.cell (i := 1) rfl
 have g2 := HG2.out.cell (i := 2) rfl
 obtain ⟨q, hq⟩ : ∃ q, q = Pr.hallOk h := ⟨_, rfl⟩
 rw [← hq]
 have Hq := hd hq.symm
 clear hq
 cases q with
 | false =>
  have HF : Hid (Pr.refHall h = ([], 1)) := hd (by unfold Pr.refHall; rw [Hq.out]; rfl)
  go_wp2_with fail
  have h9 := HRR.out w2 (C1.out.trans C2.out (by simp))
  rw [HF.out] at h9
  exact h9
 | true =>
  have HO9 : Hid (Pr.numsOk [h.sx, h.sy] = true ∧ h.levels.all Pr.levelOk = true) := hd (by have h9 := Hq.out; simp only [Pr.hallOk, Bool.and_eq_true] at h9; exact ⟨h9.1.2, h9.2⟩)
  have z1 : ¬ 9223372036854775807 < 5 + h.name.length := by omega
  have z2 : ¬ 9223372036854775807 < 5 + h.name.length + 6 := by omega
  go_wp2_with fail
  rw [show (⟨#[104, 97, 108, 108, 32]⟩ : ByteArray) ++ ⟨h.name.toArray⟩ ++ ⟨#[32, 115, 116, 97, 103, 101]⟩ = ⟨(Pr.tHall ++ h.name ++ Pr.tStage).toArray⟩ from cat3 _ _ _]
  refine words8_r (Pr.tHall ++ h.name ++ Pr.tStage) (by simp only [List.length_append, List.length_cons, List.length_nil, Pr.tHall, Pr.tStage]; omega) [h.sx, h.sy] 2 ⟨rfl, by decide⟩ (hd HO9.out.1) (hd (Blk.new w2 [.int .i64 h.sx, .int .i64 h.sy] 3)) ?_
  obtain ⟨w3, hw⟩ : ∃ W, W = w2.alloc (.cells #[.int .i64 h.sx, .int .i64 h.sy] 3) := ⟨_, rfl⟩
  rw [← hw]
  have C3 : Hid (Chg [] w2 w3) := hd (by rw [hw]; exact (Chg.refl _ _).alloc _)
  clear hw g0 g1 g2 z1 z2
  obtain ⟨b0, hb0⟩ : ∃ z, z = Pr.tHall ++ h.name ++ Pr.tStage ++ Pr.nums [h.sx, h.sy] := ⟨_, rfl⟩
  rw [← hb0]
  have lb0 : b0.length ≤ 1100 := by have := nums2_len HO9.out.1; rw [hb0]; simp only [List.length_append, List.length_cons, List.length_nil, Pr.tHall, Pr.tStage]; omega
  obtain ⟨h0, hh0⟩ : ∃ z, z = b0 ++ [32, 123, 10] := ⟨_, rfl⟩
  have lh0 : h0.length ≤ 1200 := by rw [hh0, List.length_append]; show _ + 3 ≤ _; omega
  have HH0 : Hid (h0 = Pr.refHead h) := hd (by rw [hh0, hb0]; rfl)
  have HS0 : Hid ((⟨b0.toArray⟩ : ByteArray) ++ ⟨#[32, 123, 10]⟩ = ⟨h0.toArray⟩) := hd (by rw [hh0]; exact str2 _ _)
  clear hb0 hh0
  have z3 : ¬ 9223372036854775807 < b0.length + 3 := by omega
  have C13 : Hid (Chg [] w w3) := hd ((C1.out.trans C2.out (by simp)).trans C3.out (by simp))
  have HG3 := hd (C3.out.blk HG2.out (by simp))
  go_wp2_with fail
  rw [HS0.out]
  have HEND : Hid (∀ acc : Bytes, acc = Pr.adds (Pr.refHead h) (h.levels.map Pr.refFloor) → Pr.refHall h = Pr.rend (acc ++ [125, 10])) := hd (fun acc he => by rw [he]; unfold Pr.refHall; rw [Hq.out]; rfl)
  go_loopw [4, 5] (fun s i0 wr => ∃ (j : Nat) (acc : Bytes), i0 = .int .i64 (j : Int) ∧ s = .string ⟨acc.toArray⟩ ∧ j ≤ n ∧ Hid (Chg [] w3 wr) ∧ Hid (acc = Pr.adds (Pr.refHead h) ((h.levels.take j).map Pr.refFloor)) ∧ acc.length ≤ 4000000000000000000) (fun _ i0 _ => n - intN i0)
  case atStart => exact ⟨0, h0, rfl, rfl, Nat.zero_le _, hd (Chg.refl _ _), hd HH0.out, by omega⟩
  case round =>
   obtain ⟨j, acc, rfl, rfl, hj, HC, HO, la⟩ := hrel
   have x3 := (HC.out.blk HG3.out (by simp)).cell (i := 3) rfl
   by_cases hlt : j < n
   · skip
     have z0 : (0 : Int) ≤ (j : Int) := by omega
     have z1 : (j : Int) < (n : Int) := by omega
     have z2 : (j : Int) ≤ (k : Int) := by omega
     by_cases hs : acc.length ≤ 20000
     · skip
       have y0 : (acc.length : Int) ≤ 20000 := by omega
       have HQR : Hid (Chg [] w wr) := hd (C13.out.trans HC.out (by simp))
       obtain ⟨x, g, og, cs, hx, ha, -, ⟨u1, u2, u3, u4, u5, hcs, i0, r0, r1, r2, r3, r4, -⟩, hcc⟩ := HM.out.at_ HQR.out (j := j) (by rw [HN.out]; exact hlt)
       subst ha
       obtain ⟨p0, k0, rfl, _, _⟩ := r0.form
       obtain ⟨n0, hn0⟩ : ∃ z, z = x.blocks.length := ⟨_, rfl⟩
       rw [← hn0] at r0 hcs
       obtain ⟨p1, k1, rfl, _, _⟩ := r1.form
       obtain ⟨n1, hn1⟩ : ∃ z, z = x.areas.length := ⟨_, rfl⟩
       rw [← hn1] at r1 hcs
       obtain ⟨p2, k2, rfl, _, _⟩ := r2.form
       obtain ⟨n2, hn2⟩ : ∃ z, z = x.aisles.length := ⟨_, rfl⟩
       rw [← hn2] at r2 hcs
       obtain ⟨p3, k3, rfl, _, _⟩ := r3.form
       obtain ⟨n3, hn3⟩ : ∃ z, z = x.pillars.length := ⟨_, rfl⟩
       rw [← hn3] at r3 hcs
       obtain ⟨p4, k4, rfl, _, _⟩ := r4.form
       obtain ⟨n4, hn4⟩ : ∃ z, z = x.doors.length := ⟨_, rfl⟩
       rw [← hn4] at r4 hcs
       have HLR : Hid (LvR w x p0 p1 p2 p3 p4 n0 n1 n2 n3 n4 k0 k1 k2 k3 k4) := hd ⟨r0, r1, r2, r3, r4⟩
       have c0 : wr.cell? ⟨g, og + j * 8, none⟩ = some (.string ⟨x.name.toArray⟩) := by have h9 := hcc 0 _ (by rw [hcs]; rfl); simpa [Pr.iv, Pr.sv] using h9
       have c1 : wr.cell? ⟨g, og + j * 8 + 1, none⟩ = some (.int .i64 x.height) := by have h9 := hcc 1 _ (by rw [hcs]; rfl); simpa [Pr.iv, Pr.sv] using h9
       have c2 : wr.cell? ⟨g, og + j * 8 + 2, none⟩ = some (.slice p0 n0 k0) := by have h9 := hcc 2 _ (by rw [hcs]; rfl); simpa [Pr.iv, Pr.sv] using h9
       have c3 : wr.cell? ⟨g, og + j * 8 + 3, none⟩ = some (.slice p1 n1 k1) := by have h9 := hcc 3 _ (by rw [hcs]; rfl); simpa [Pr.iv, Pr.sv] using h9
       have c4 : wr.cell? ⟨g, og + j * 8 + 4, none⟩ = some (.slice p2 n2 k2) := by have h9 := hcc 4 _ (by rw [hcs]; rfl); simpa [Pr.iv, Pr.sv] using h9
       have c5 : wr.cell? ⟨g, og + j * 8 + 5, none⟩ = some (.slice p3 n3 k3) := by have h9 := hcc 5 _ (by rw [hcs]; rfl); simpa [Pr.iv, Pr.sv] using h9
       have c6 : wr.cell? ⟨g, og + j * 8 + 6, none⟩ = some (.slice p4 n4 k4) := by have h9 := hcc 6 _ (by rw [hcs]; rfl); simpa [Pr.iv, Pr.sv] using h9
       have c7 : wr.cell? ⟨g, og + j * 8 + 7, none⟩ = some (.int .i64 x.at_) := by have h9 := hcc 7 _ (by rw [hcs]; rfl); simpa [Pr.iv, Pr.sv] using h9
       have HX := hd hx
       clear hcs hcc r0 r1 r2 r3 r4 i0
       have HZ := hd (HSL.out x (List.mem_of_getElem? HX.out))
       have HLO : Hid (Pr.levelOk x = true) := hd (List.all_eq_true.1 HO9.out.2 x (List.mem_of_getElem? HX.out))
       clear hx hn0 hn1 hn2 hn3 hn4
       go_wp2_with fail
       refine floor8_r HQR x p0 p1 p2 p3 p4 n0 n1 n2 n3 n4 k0 k1 k2 k3 k4 HLR HZ HLO (fun wy hy hl => ?_)
       have HCY : Hid (Chg [] w3 wy) := hd (HC.out.trans hy (by simp))
       clear hy c0 c1 c2 c3 c4 c5 c6 c7
       obtain ⟨c, hc⟩ : ∃ z, z = Pr.refFloor x := ⟨_, rfl⟩
       rw [← hc] at hl ⊢
       have HCV := hd hc
       clear hc
       have y1 : ¬ 9223372036854775807 < acc.length + c.length := by omega
       have HST : Hid (acc ++ c = Pr.adds (Pr.refHead h) ((h.levels.take (j + 1)).map Pr.refFloor)) := hd (by obtain ⟨a1, h8⟩ := List.getElem?_eq_some_iff.1 HX.out; rw [List.take_succ_eq_append_getElem a1, List.map_append, Pr.adds_append, ← HO.out, h8, HCV.out]; show _ = Pr.adds acc [Pr.refFloor x]; rw [Pr.adds_cons, if_pos hs]; rfl)
       go_wp2_with fail
       go_roundw
       case rel => exact ⟨j + 1, acc ++ c, vint (by omega), by rw [str2], by omega, HCY, HST, by rw [List.length_append]; omega⟩
       case measure => simp [intN]; omega
     · skip
       have y0 : ¬ (acc.length : Int) ≤ 20000 := by omega
       have HE : Hid (acc = Pr.adds (Pr.refHead h) (h.levels.map Pr.refFloor)) := hd (by have h8 := List.take_append_drop j h.levels; rw [← h8, List.map_append, Pr.adds_append, ← HO.out]; exact (Pr.adds_big (by omega) _).symm)
       have y1 : ¬ 9223372036854775807 < acc.length + 2 := by omega
       go_wp2_with fail
       rw [show (⟨acc.toArray⟩ : ByteArray) ++ ⟨#[125, 10]⟩ = ⟨(acc ++ [125, 10]).toArray⟩ from str2 _ _]
       refine end8_r (acc ++ [125, 10]) (fun w9 h9 => ?_)
       have H9 := hd h9
       clear h9
       rw [← HEND.out acc HE.out]
       go_wp2_with fail
       exact HRR.out w9 ((C13.out.trans HC.out (by simp)).trans H9.out (by simp))
   · skip
     have z1 : ¬ (j : Int) < (n : Int) := by omega
     have HE : Hid (acc = Pr.adds (Pr.refHead h) (h.levels.map Pr.refFloor)) := hd (by have h9 := HO.out; rw [take_all HN.out hlt] at h9; exact h9)
     have y1 : ¬ 9223372036854775807 < acc.length + 2 := by omega
     go_wp2_with fail
     rw [show (⟨acc.toArray⟩ : ByteArray) ++ ⟨#[125, 10]⟩ = ⟨(acc ++ [125, 10]).toArray⟩ from str2 _ _]
     refine end8_r (acc ++ [125, 10]) (fun w9 h9 => ?_)
     have H9 := hd h9
     clear h9
     rw [← HEND.out acc HE.out]
     go_wp2_with fail
     exact HRR.out w9 ((C13.out.trans HC.out (by simp)).trans H9.out (by simp))
end Go.Proofs.YtgbooiaedbpenaaDoor
