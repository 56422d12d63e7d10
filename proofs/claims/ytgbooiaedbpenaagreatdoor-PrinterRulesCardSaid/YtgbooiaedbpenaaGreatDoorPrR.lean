/-
 Printer, layer 11: rows, the walk.
-/
import Derived.Test.YtgbooiaedbpenaaGreatDoorPrTk
import Derived.Test.YtgbooiaedbpenaaGreatDoorPrRb
namespace Go.Proofs.YtgbooiaedbpenaaGreatDoor
set_option linter.unusedVariables false
set_option linter.unusedSimpArgs false
open Go Go.RowKit Go.Shelf
attribute [local irreducible] Go.wpStill
set_option maxHeartbeats 40000000 in
set_option maxRecDepth 100000 in
theorem row_r {T : TypeId} (hT : Bty T 2) {w0 : World} (HL : Hid (Laid w0)) {b deep : Nat} (HD : Hid (deep ≤ 10)) (HB0 : Hid (w0.heap.size ≤ b)) {w : World} (HQ : Hid (Chg [] w0 w)) {bad : Bool} {out : Bytes} {v : Value} (HW : Hid (Wst T b deep bad out v w)) (r : Pr.Rw) (ao : Option Addr) (cap n : Nat) (HN : Hid (r.marks.length = n)) (HM : Hid (RdS 3 Pr.RMk w0 (.slice ao n cap) r.marks))
 (HRI : Hid (Pr.I64 r.x ∧ Pr.I64 r.y ∧ Pr.I64 r.f ∧ Pr.I64 r.t ∧ Pr.I64 r.step)) (HRN : Hid (r.name.length ≤ 1000)) (HRM : Hid (n ≤ 9000)) {R : Ending → World → Prop}
 (h : ∀ v' w', Wst T b deep (bad || !Pr.rowOk r) (Pr.put deep out (Pr.rowS r)) v' w' → Wr b v w v' w' → R (.returned (.tuple #[])) w') :
 Calls Tryz.prog 61 #[.pointer (some ⟨b, 0, none⟩), .agg #[.string ⟨r.name.toArray⟩, .int .i64 r.x, .int .i64 r.y, .int .i64 r.f, .int .i64 r.t, .int .i64 r.step, .slice ao n cap, .int .i64 r.at_]] w R := by
 have HR := hd h
 clear h
 go_enter Tryz.func61, Tryz.ntmps61
 go_upto_region 1 with (fail)
 obtain ⟨w1, hw⟩ : ∃ W, W = w.alloc (.cells #[.string ⟨r.name.toArray⟩, .int .i64 r.x, .int .i64 r.y, .int .i64 r.f, .int .i64 r.t, .int .i64 r.step, .slice ao n cap, .int .i64 r.at_] 50) := ⟨_, rfl⟩
 rw [← hw]
 obtain ⟨M, hM⟩ : ∃ X, X = w.heap.size := ⟨_, rfl⟩
 rw [← hM]
 have HMB : Hid (Blk w1 M [.string ⟨r.name.toArray⟩, .int .i64 r.x, .int .i64 r.y, .int .i64 r.f, .int .i64 r.t, .int .i64 r.step, .slice ao n cap, .int .i64 r.at_] 50) := hd (by rw [hw, hM]; exact Blk.new w [.string ⟨r.name.toArray⟩, .int .i64 r.x, .int .i64 r.y, .int .i64 r.f, .int .i64 r.t, .int .i64 r.step, .slice ao n cap, .int .i64 r.at_] _)
 have C1 : Hid (Chg [] w w1) := hd (by rw [hw]; exact (Chg.refl _ _).alloc _)
 have HW1 := hd (HW.out.quiet C1.out)
 have HQ1 : Hid (Chg [] w0 w1) := hd (HQ.out.trans C1.out (by simp))
 have NM : M ≠ b := by have := HW.out.lt; omega
 clear hw hM
 refine wp_region_held_drew (S := fun W' => Chg [b] w1 W') (by kernel_rfl) (Chg.refl _ _).drew (fun hHeld => ?_)
 obtain ⟨wd, hwd⟩ : ∃ x, x = w1.drew := ⟨_, rfl⟩
 have CD : Hid (Chg [] w1 wd) := hd (by rw [hwd]; exact (Chg.refl _ _).drew)
 rw [← hwd] at hHeld ⊢
 clear hwd
 refine tk 0 ?va0 ?hya0 ?rsa0
 case hya0 => (intro w9 hSw; go_simp; try with_reducible rfl)
 try simp only [qq]
 refine tk 1 ?va1 ?hya1 ?rsa1
 case hya1 => (intro w9 hSw; go_simp; try with_reducible rfl)
 try simp only [qq]
 refine tk 2 ?va2 ?hya2 ?rsa2
 case hya2 => (intro w9 hSw; go_simp; try with_reducible rfl)
 try simp only [qq]
 refine tk 3 ?va3 ?hya3 ?rsa3
 case hya3 => (intro w9 hSw; go_simp; try with_reducible rfl)
 try simp only [qq]
 refine tk 4 ?va4 ?hya4 ?rsa4
 case hya4 => (intro w9 hSw; have e0 := cell_quiet hSw (HMB.out.cell (i := 0) rfl) (by simp [NM]); go_simp; try with_reducible rfl)
 try simp only [qq]
 refine tk 8 ?va8 ?hya8 ?rsa8
 case hya8 => (intro w9 hSw; go_simp; try with_reducible rfl)
 try simp only [qq]
 refine tk 9 ?va9 ?hya9 ?rsa9
 case hya9 => (intro w9 hSw; go_simp; try with_reducible rfl)
 try simp only [qq]
 refine tk 10 ?va10 ?hya10 ?rsa10
 case hya10 => (intro w9 hSw; go_simp; try with_reducible rfl)
 try simp only [qq]
 refine tk 11 ?va11 ?hya11 ?rsa11
 case hya11 => (intro w9 hSw; go_simp; try with_reducible rfl)
 try simp only [qq]
 refine tk 12 ?va12 ?hya12 ?rsa12
 case hya12 => (intro w9 hSw; have e1 := cell_quiet hSw (HMB.out.cell (i := 1) rfl) (by simp [NM]); go_simp; try with_reducible rfl)
 try simp only [qq]
 refine tk 13 ?va13 ?hya13 ?rsa13
 case hya13 => (intro w9 hSw; go_simp; try with_reducible rfl)
 try simp only [qq]
 refine tk 14 ?va14 ?hya14 ?rsa14
 case hya14 => (intro w9 hSw; have e2 := cell_quiet hSw (HMB.out.cell (i := 2) rfl) (by simp [NM]); go_simp; try with_reducible rfl)
 try simp only [qq]
 refine tk 19 ?va19 ?hya19 ?rsa19
 case hya19 => (intro w9 hSw; go_simp; try with_reducible rfl)
 try simp only [qq]
 refine tk 20 ?va20 ?hya20 ?rsa20
 case hya20 => (intro w9 hSw; go_simp; try with_reducible rfl)
 try simp only [qq]
 refine tk 21 ?va21 ?hya21 ?rsa21
 case hya21 => (intro w9 hSw; go_simp; try with_reducible rfl)
 try simp only [qq]
 refine tk 22 ?va22 ?hya22 ?rsa22
 case hya22 => (intro w9 hSw; go_simp; try with_reducible rfl)
 try simp only [qq]
 refine tk 23 ?va23 ?hya23 ?rsa23
 case hya23 => (intro w9 hSw; have e3 := cell_quiet hSw (HMB.out.cell (i := 3) rfl) (by simp [NM]); go_simp; try with_reducible rfl)
 try simp only [qq]
 refine tk 28 ?va28 ?hya28 ?rsa28
 case hya28 => (intro w9 hSw; go_simp; try with_reducible rfl)
 try simp only [qq]
 refine tk 29 ?va29 ?hya29 ?rsa29
 case hya29 => (intro w9 hSw; go_simp; try with_reducible rfl)
 try simp only [qq]
 refine tk 30 ?va30 ?hya30 ?rsa30
 case hya30 => (intro w9 hSw; go_simp; try with_reducible rfl)
 try simp only [qq]
 refine tk 31 ?va31 ?hya31 ?rsa31
 case hya31 => (intro w9 hSw; go_simp; try with_reducible rfl)
 try simp only [qq]
 refine tk 32 ?va32 ?hya32 ?rsa32
 case hya32 => (intro w9 hSw; have e4 := cell_quiet hSw (HMB.out.cell (i := 4) rfl) (by simp [NM]); go_simp; try with_reducible rfl)
 try simp only [qq]
 refine tk 37 ?va37 ?hya37 ?rsa37
 case hya37 => (intro w9 hSw; go_simp; try with_reducible rfl)
 try simp only [qq]
 refine tk 38 ?va38 ?hya38 ?rsa38
 case hya38 => (intro w9 hSw; go_simp; try with_reducible rfl)
 try simp only [qq]
 refine tk 39 ?va39 ?hya39 ?rsa39
 case hya39 => (intro w9 hSw; go_simp; try with_reducible rfl)
 try simp only [qq]
 refine tk 40 ?va40 ?hya40 ?rsa40
 case hya40 => (intro w9 hSw; go_simp; try with_reducible rfl)
 try simp only [qq]
 refine tk 41 ?va41 ?hya41 ?rsa41
 case hya41 => (intro w9 hSw; have e5 := cell_quiet hSw (HMB.out.cell (i := 5) rfl) (by simp [NM]); go_simp; try with_reducible rfl)
 try simp only [qq]
 refine name3 (fun O Q0 A0 hO hQ hA => ?_)
 have CC : RowC w0 b w1 r := ⟨HL, HB0, HQ1, HRI, HRN⟩
 have hO2 : Hid (RowO O) := hd (by rw [hO.out]; unfold RowO; kernel_rfl)
 have st5_1234 : Hid (RowS5_1234 T b deep w1 bad out v r O Q0 A0) := hd (by
  unfold RowS5_1234
  intro w2 d13 d14 d15 d24 d25 d26 d33 d34 d35 d42 d43 d44 d51 X1 X2 X3 X4 a HW2 HC2 HA
  rw [hO.out, hQ.out, hA.out]
  try simp only [qq]
  refine tk 45 ?vzz45 ?hyzz45 ?rszz45
  case hyzz45 => (intro w9 hSw; go_simp; try with_reducible rfl)
  try simp only [qq]
  refine wpAnyH_done (by kernel_rfl) ?_ _
  try simp only [qq]
  clear hO hQ hA
  go_upto_region 3 with (fail)
  obtain ⟨w3, hw3⟩ : ∃ W, W = w2.alloc (.cells #[.string ⟨#[]⟩, .string ⟨#[32, 103, 97, 112]⟩, .string ⟨#[32, 119, 104, 101, 101, 108]⟩, .string ⟨#[32, 104, 105, 100, 100, 101, 110]⟩, .string ⟨#[32, 98, 101, 115, 105, 100, 101]⟩] 171) := ⟨_, rfl⟩
  rw [← hw3]
  obtain ⟨D, hD⟩ : ∃ X, X = w2.heap.size := ⟨_, rfl⟩
  rw [← hD]
  have HDB : Hid (Blk w3 D [.string ⟨#[]⟩, .string ⟨#[32, 103, 97, 112]⟩, .string ⟨#[32, 119, 104, 101, 101, 108]⟩, .string ⟨#[32, 104, 105, 100, 100, 101, 110]⟩, .string ⟨#[32, 98, 101, 115, 105, 100, 101]⟩] 171) := hd (by rw [hw3, hD]; exact Blk.new w2 [.string ⟨#[]⟩, .string ⟨#[32, 103, 97, 112]⟩, .string ⟨#[32, 119, 104, 101, 101, 108]⟩, .string ⟨#[32, 104, 105, 100, 100, 101, 110]⟩, .string ⟨#[32, 98, 101, 115, 105, 100, 101]⟩] _)
  have C3 : Hid (Chg [] w2 w3) := hd (by rw [hw3]; exact (Chg.refl _ _).alloc _)
  have ND : D ≠ b := by have := HW2.out.lt; omega
  have HC23 : Hid (Chg [b] w1 w3) := hd (HC2.out.trans C3.out (by simp))
  have HQ3 : Hid (Chg [] w0 w3) := hd (HQ1.out.since HC23.out HB0.out)
  have HW3 := hd (HW2.out.quiet C3.out)
  obtain ⟨q5, hq5⟩ : ∃ q, q = (((((bad || !Pr.nameOk r.name) || !Pr.numsOk [r.x, r.y]) || !Pr.numsOk [r.f]) || !Pr.numsOk [r.t]) || !Pr.numsOk [r.step]) := ⟨_, rfl⟩
  rw [← hq5] at HW3
  have HQ5 := hd hq5
  have c6 := (HC23.out.blk HMB.out (by simp [NM])).cell (i := 6) rfl
  clear hw3 hD hq5 HW2 C3
  go_wp2_with fail
  clear c6
  go_loopw [4, 57] (fun s i wr => ∃ (j : Nat) (acc : Bytes), i = .int .i64 (j : Int) ∧ s = .string ⟨acc.toArray⟩ ∧ j ≤ n ∧ Hid (acc = Pr.rowH r ++ (r.marks.take j).flatMap Pr.markS ∧ acc.length ≤ 1500 + 100 * j) ∧ Hid (Wst T b deep (q5 || !(r.marks.take j).all Pr.markOk) out v wr) ∧ Hid (Chg [b] w3 wr)) (fun _ i _ => n - intN i)
  case atStart => exact ⟨0, a, rfl, rfl, Nat.zero_le _, hd ⟨by rw [HA.out.1]; simp [Pr.rowH], HA.out.2⟩, hd (by simpa using HW3.out), hd (Chg.refl _ _)⟩
  case round =>
   obtain ⟨j, acc, rfl, rfl, hj, HAC, HWJ, HC⟩ := hrel
   obtain ⟨qj, hqj⟩ : ∃ q, q = (q5 || !(r.marks.take j).all Pr.markOk) := ⟨_, rfl⟩
   rw [← hqj] at HWJ
   have HQJ := hd hqj
   clear hqj
   by_cases hlt : j < n
   · obtain ⟨m, hm⟩ : ∃ m, r.marks[j]? = some m := ⟨r.marks[j]'(by rw [HN.out]; exact hlt), by simp⟩
     obtain ⟨g, off, cs, rfl, hgl, hl, ⟨hcs, i1, i2, i3⟩, hcell⟩ := (HM.out.keep Pr.kq_mk (HQ3.out.since HC.out HB0.out)).elem hm
     have k0 : wr.cell? ⟨g, off + j * 3, none⟩ = some (.int .i64 m.kind) := hcell 0 _ (by rw [hcs]; rfl)
     have k1 : wr.cell? ⟨g, off + j * 3 + 1, none⟩ = some (.int .i64 m.seat) := hcell 1 _ (by rw [hcs]; rfl)
     have k2 : wr.cell? ⟨g, off + j * 3 + 2, none⟩ = some (.int .i64 m.w) := hcell 2 _ (by rw [hcs]; rfl)
     have HI1 := hd i2
     have HI2 := hd i3
     have htk : r.marks.take (j + 1) = r.marks.take j ++ [m] := by obtain ⟨hj2, rfl⟩ := List.getElem?_eq_some_iff.1 hm; exact List.take_succ_eq_append_getElem hj2
     have HTK := hd htk
     have hmem : m ∈ r.marks := List.mem_of_getElem? hm
     have q1 : (j : Int) < (n : Int) := by omega
     have q0 : (0 : Int) ≤ (j : Int) := by omega
     have q2 : (j : Int) < (cap : Int) ∨ True := .inr trivial
     have hrm := HRM.out
     clear hm hcell hcs hl hgl htk q2
     go_upto_region 6 with (fail)
     obtain ⟨w4, hw4⟩ : ∃ W, W = wr.alloc (.cells #[.int .i64 m.kind, .int .i64 m.seat, .int .i64 m.w] 47) := ⟨_, rfl⟩
     rw [← hw4]
     obtain ⟨G, hG⟩ : ∃ X, X = wr.heap.size := ⟨_, rfl⟩
     rw [← hG]
     have HG : Hid (Blk w4 G [.int .i64 m.kind, .int .i64 m.seat, .int .i64 m.w] 47) := hd (by rw [hw4, hG]; exact Blk.new wr [.int .i64 m.kind, .int .i64 m.seat, .int .i64 m.w] _)
     have C4 : Hid (Chg [] wr w4) := hd (by rw [hw4]; exact (Chg.refl _ _).alloc _)
     have HC4 : Hid (Chg [b] w3 w4) := hd (HC.out.trans C4.out (by simp))
     have NG : G ≠ b := by have := HWJ.out.lt; omega
     clear hw4 hG k0 k1 k2
     have g0 := HG.out.cell (i := 0) rfl
     have g2 := HG.out.cell (i := 2) rfl
     have HNOK : Hid (Pr.markOk m = false → (bad || !Pr.rowOk r) = true) := hd (fun h => by have h2 : r.marks.all Pr.markOk = false := List.all_eq_false.2 ⟨m, hmem, by rw [h]; decide⟩; unfold Pr.rowOk; rw [h2]; simp)
     by_cases hk1 : m.kind < 1
     · have HBAD : Hid ((bad || !Pr.rowOk r) = true) := hd (HNOK.out (by unfold Pr.markOk; rw [decide_eq_false (by omega)]; rfl))
       have f3 := (HWJ.out.quiet C4.out).cell3.1
       have f4 := (HWJ.out.quiet C4.out).cell3.2
       go_wp2_with fail
       (try simp only [Exit.inBlock, Exit.then])
       refine bodyPost_ret (results_none rfl _ _ _) rfl ?_
       refine HR.out v _ (by rw [HBAD.out]; exact HWJ.out.quiet C4.out |>.setBad) (Wr.cell ?_)
       exact ((C1.out.mono (by simp)).trans (HC23.out.trans HC4.out (fun q hq => .inl hq)) (fun q hq => .inl hq)).setCell _ _ (.inl (by simp))
     · by_cases hk4 : 4 < m.kind
       · have HBAD : Hid ((bad || !Pr.rowOk r) = true) := hd (HNOK.out (by unfold Pr.markOk; rw [decide_eq_false (p := m.kind ≤ 4) (by omega)]; simp))
         have f3 := (HWJ.out.quiet C4.out).cell3.1
         have f4 := (HWJ.out.quiet C4.out).cell3.2
         go_wp2_with fail
         (try simp only [Exit.inBlock, Exit.then])
         refine bodyPost_ret (results_none rfl _ _ _) rfl ?_
         refine HR.out v _ (by rw [HBAD.out]; exact HWJ.out.quiet C4.out |>.setBad) (Wr.cell ?_)
         exact ((C1.out.mono (by simp)).trans (HC23.out.trans HC4.out (fun q hq => .inl hq)) (fun q hq => .inl hq)).setCell _ _ (.inl (by simp))
       · by_cases hkw : m.kind ≠ 4 ∧ m.w ≠ 0
         · have HBAD : Hid ((bad || !Pr.rowOk r) = true) := hd (HNOK.out (by unfold Pr.markOk; rw [decide_eq_false (p := m.kind = 4 ∨ m.w = 0) (by rintro (h | h); exact hkw.1 h; exact hkw.2 h)]; simp))
           have e4 : ((m.kind : Int) == 4) = false := by rw [beq_eq_false_iff_ne]; exact hkw.1
           have e0 : ((m.w : Int) == 0) = false := by rw [beq_eq_false_iff_ne]; exact hkw.2
           have z4 : (m.kind != 4) = true := by rw [bne_iff_ne]; exact hkw.1
           have z0 : (m.w != 0) = true := by rw [bne_iff_ne]; exact hkw.2
           clear hkw e4 e0
           have f3 := (HWJ.out.quiet C4.out).cell3.1
           have f4 := (HWJ.out.quiet C4.out).cell3.2
           go_wp2_with fail
           (try simp only [Exit.inBlock, Exit.then])
           refine bodyPost_ret (results_none rfl _ _ _) rfl ?_
           refine HR.out v _ (by rw [HBAD.out]; exact HWJ.out.quiet C4.out |>.setBad) (Wr.cell ?_)
           exact ((C1.out.mono (by simp)).trans (HC23.out.trans HC4.out (fun q hq => .inl hq)) (fun q hq => .inl hq)).setCell _ _ (.inl (by simp))
         · obtain ⟨kn, hkn⟩ : ∃ kn : Nat, m.kind = (kn : Int) := ⟨m.kind.toNat, by omega⟩
           clear g0
           by_cases h44 : kn = 4
           · skip
             have p1 : ¬ (kn : Int) < 1 := by omega
             have p4 : ¬ (4 : Int) < (kn : Int) := by omega
             have pz : (0 : Int) ≤ (kn : Int) := by omega
             have p5 : (kn : Int) < 5 := by omega
             have pi : ((kn : Int)).toNat = kn := by omega
             have e4 : ((kn : Int) == 4) = true := by rw [beq_iff_eq]; omega
             have z4 : (kn : Int) = 4 := by omega
             have HE4 := hd e4
             have HK4 : Hid (m.kind = 4) := hd (by omega)
             clear h44
             have HKN := hd hkn
             have HKR : Hid (1 ≤ m.kind ∧ m.kind ≤ 4) := hd ⟨by omega, by omega⟩
             rw [hkn] at HG
             have g0 := HG.out.cell (i := 0) rfl
             clear hkn hk1 hk4 hkw
             go_upto_region 8 with (fail)
             clear g0 g2 e4 z4
             have HMW : Hid (w4.cell? ⟨D, kn, none⟩ = some (.string ⟨(Pr.markW (kn : Int)).toArray⟩) ∧ (Pr.markW (kn : Int)).length ≤ 7) := hd (by
              have h1 := HC4.out.blk HDB.out (by simp [ND])
              have h2 : kn = 1 ∨ kn = 2 ∨ kn = 3 ∨ kn = 4 := by omega
              rcases h2 with rfl | rfl | rfl | rfl
              · exact ⟨h1.cell (i := 1) rfl, by decide⟩
              · exact ⟨h1.cell (i := 2) rfl, by decide⟩
              · exact ⟨h1.cell (i := 3) rfl, by decide⟩
              · exact ⟨h1.cell (i := 4) rfl, by decide⟩)
             obtain ⟨mw, hmw⟩ : ∃ mw, mw = Pr.markW (kn : Int) := ⟨_, rfl⟩
             rw [← hmw] at HMW
             have HMV := hd hmw
             clear hmw
             have HQ4 : Hid (Chg [] w0 w4) := hd (HQ3.out.since HC4.out HB0.out)
             refine wp_region_held_drew (S := fun W' => Chg [b] w4 W') (by kernel_rfl) (Chg.refl _ _).drew (fun hHeld => ?_)
             obtain ⟨wd, hwd⟩ : ∃ x, x = w4.drew := ⟨_, rfl⟩
             have CDd : Hid (Chg [] w4 wd) := hd (by rw [hwd]; exact (Chg.refl _ _).drew)
             have CDb : Hid (Chg [b] w4 wd) := hd (CDd.out.mono (by simp))
             rw [← hwd] at hHeld ⊢
             clear hwd
             have HWd := hd ((HWJ.out.quiet C4.out).quiet CDd.out)
             refine tk 0 ?vkf0 ?hykf0 ?rskf0
             case hykf0 => (intro w9 hSw; go_simp; try with_reducible rfl)
             try simp only [qq]
             refine tk 1 ?vkf1 ?hykf1 ?rskf1
             case hykf1 => (intro w9 hSw; go_simp; try with_reducible rfl)
             try simp only [qq]
             refine tk 2 ?vkf2 ?hykf2 ?rskf2
             case hykf2 => (intro w9 hSw; have e8 := cell_quiet hSw (HG.out.cell (i := 0) rfl) (by simp [NG]); go_simp; try with_reducible rfl)
             try simp only [qq]
             refine tk 3 ?vkf3 ?hykf3 ?rskf3
             case hykf3 => (intro w9 hSw; go_simp; try with_reducible rfl)
             try simp only [qq]
             refine tk 4 ?vkf4 ?hykf4 ?rskf4
             case hykf4 => (intro w9 hSw; have e8 := cell_quiet hSw HMW.out.1 (by simp [ND]); go_simp; try with_reducible rfl)
             try simp only [qq]
             refine tk 5 ?vkf5 ?hykf5 ?rskf5
             case hykf5 => (intro w9 hSw; go_simp; try with_reducible rfl)
             try simp only [qq]
             refine tk 6 ?vkf6 ?hykf6 ?rskf6
             case hykf6 => (intro w9 hSw; go_simp; try with_reducible rfl)
             try simp only [qq]
             refine tk 7 ?vkf7 ?hykf7 ?rskf7
             case hykf7 => (intro w9 hSw; go_simp; try with_reducible rfl)
             try simp only [qq]
             refine tk 8 ?vkf8 ?hykf8 ?rskf8
             case hykf8 => (intro w9 hSw; go_simp; try with_reducible rfl)
             try simp only [qq]
             refine tk 9 ?vkf9 ?hykf9 ?rskf9
             case hykf9 => (intro w9 hSw; have e8 := cell_quiet hSw (HG.out.cell (i := 1) rfl) (by simp [NG]); go_simp; try with_reducible rfl)
             try simp only [qq]
             refine rd1 10 (fun K hK => ?_)
             go_simp
             obtain ⟨w5b, hw5b⟩ : ∃ W, W = wd.alloc (.cells #[.int .i64 m.seat] 3) := ⟨_, rfl⟩
             rw [← hw5b]
             obtain ⟨Yf, hYf⟩ : ∃ X, X = wd.heap.size := ⟨_, rfl⟩
             rw [← hYf]
             have HBYf : Hid (Blk w5b Yf [.int .i64 m.seat] 3) := hd (by rw [hw5b, hYf]; exact Blk.new wd [.int .i64 m.seat] _)
             have Cw5b : Hid (Chg [] wd w5b) := hd (by rw [hw5b]; exact (Chg.refl _ _).alloc _)
             have NYf : Hid (Yf ≠ b) := hd (by have := HWd.out.lt; omega)
             have Hw5b := hd (CDb.out.trans Cw5b.out (by simp))
             refine hK.out _ _ Hw5b.out (fun hHeld => ?_)
             clear hK K hw5b hYf
             try simp only [qq]
             refine rd1 11 (fun K hK => ?_)
             go_simp
             refine numbers_r HL HB0 (hd (HQ4.out.since Hw5b.out HB0.out)) (hd (HWd.out.quiet Cw5b.out)) [m.seat] 1 ⟨rfl, by decide⟩ (by intro q hq; rw [List.mem_singleton] at hq; rw [hq]; exact HI1.out) HBYf.out NYf.out (fun w5 h3 h4 => ?_)
             have HWw5 := hd h3
             have Hw5 := hd (Hw5b.out.trans h4 (fun q hq => .inl hq))
             refine hK.out _ _ Hw5.out (fun hHeld => ?_)
             clear hK K h3 h4
             try simp only [qq]
             have gnw5 : (Pr.nums [m.seat]).length ≤ 22 := Pr.nums_len [m.seat] (by intro q hq; rw [List.mem_singleton] at hq; rw [hq]; exact HI1.out)
             obtain ⟨nnw5, hnn⟩ : ∃ nn, nn = Pr.nums [m.seat] := ⟨_, rfl⟩
             rw [← hnn] at gnw5
             rw [← hnn]
             have HNw5 := hd hnn
             clear hnn
             have gm := HMW.out.2
             have ga := HAC.out.2
             have g1 : ¬ 9223372036854775807 < mw.length + nnw5.length := by omega
             refine tk 12 ?vkf12 ?hykf12 ?rskf12
             case hykf12 => (intro w9 hSw; go_simp; try with_reducible rfl)
             try simp only [qq]
             rw [str2]
             have gz : (⟨(mw ++ nnw5).toArray⟩ : ByteArray).size = mw.length + nnw5.length := by rw [size_of9, List.length_append]
             have g3 : ¬ 9223372036854775807 < acc.length + (mw.length + nnw5.length) := by omega
             refine tk 13 ?vkf13 ?hykf13 ?rskf13
             case hykf13 => (intro w9 hSw; go_simp; try with_reducible rfl)
             try simp only [qq]
             rw [str2]
             refine tk 14 ?vkf14 ?hykf14 ?rskf14
             case hykf14 => (intro w9 hSw; go_simp; try with_reducible rfl)
             try simp only [qq]
             refine wpAnyH_done (by kernel_rfl) ?_ _
             try simp only [qq]
             clear hHeld g1 gz g3
             obtain ⟨ac2, hac2⟩ : ∃ x, x = acc ++ (mw ++ nnw5) := ⟨_, rfl⟩
             rw [← hac2]
             have HA2 : Hid (ac2 = acc ++ (mw ++ nnw5) ∧ ac2.length ≤ 1500 + 100 * j + 29) := hd ⟨hac2, by rw [hac2, List.length_append, List.length_append]; omega⟩
             clear hac2
             have g0 := (Hw5.out.blk HG.out (by simp [NG])).cell (i := 0) rfl
             have e4 := HE4.out
             have z4 : (kn : Int) = 4 := by rw [beq_iff_eq] at e4; exact e4
             go_upto_region 10 with (fail)
             clear g0 e4 z4
             have HQ5b : Hid (Chg [] w0 w5) := hd (HQ4.out.since Hw5.out HB0.out)
             have HG5 := hd (Hw5.out.blk HG.out (by simp [NG]))
             refine wp_region_held_drew (S := fun W' => Chg [b] w5 W') (by kernel_rfl) (Chg.refl _ _).drew (fun hHeld => ?_)
             obtain ⟨we, hwe⟩ : ∃ x, x = w5.drew := ⟨_, rfl⟩
             have CDe : Hid (Chg [] w5 we) := hd (by rw [hwe]; exact (Chg.refl _ _).drew)
             have CDc : Hid (Chg [b] w5 we) := hd (CDe.out.mono (by simp))
             rw [← hwe] at hHeld ⊢
             clear hwe
             have HWe := hd (HWw5.out.quiet CDe.out)
             refine tk 0 ?vo0 ?hyo0 ?rso0
             case hyo0 => (intro w9 hSw; go_simp; try with_reducible rfl)
             try simp only [qq]
             refine tk 1 ?vo1 ?hyo1 ?rso1
             case hyo1 => (intro w9 hSw; go_simp; try with_reducible rfl)
             try simp only [qq]
             refine tk 2 ?vo2 ?hyo2 ?rso2
             case hyo2 => (intro w9 hSw; go_simp; try with_reducible rfl)
             try simp only [qq]
             refine tk 3 ?vo3 ?hyo3 ?rso3
             case hyo3 => (intro w9 hSw; go_simp; try with_reducible rfl)
             try simp only [qq]
             refine tk 4 ?vo4 ?hyo4 ?rso4
             case hyo4 => (intro w9 hSw; go_simp; try with_reducible rfl)
             try simp only [qq]
             refine tk 5 ?vo5 ?hyo5 ?rso5
             case hyo5 => (intro w9 hSw; have e8 := cell_quiet hSw (HG5.out.cell (i := 2) rfl) (by simp [NG]); go_simp; try with_reducible rfl)
             try simp only [qq]
             refine rd1 6 (fun K hK => ?_)
             go_simp
             obtain ⟨w6b, hw6b⟩ : ∃ W, W = we.alloc (.cells #[.int .i64 m.w] 3) := ⟨_, rfl⟩
             rw [← hw6b]
             obtain ⟨Yo, hYo⟩ : ∃ X, X = we.heap.size := ⟨_, rfl⟩
             rw [← hYo]
             have HBYo : Hid (Blk w6b Yo [.int .i64 m.w] 3) := hd (by rw [hw6b, hYo]; exact Blk.new we [.int .i64 m.w] _)
             have Cw6b : Hid (Chg [] we w6b) := hd (by rw [hw6b]; exact (Chg.refl _ _).alloc _)
             have NYo : Hid (Yo ≠ b) := hd (by have := HWe.out.lt; omega)
             have Hw6b := hd (CDc.out.trans Cw6b.out (by simp))
             refine hK.out _ _ Hw6b.out (fun hHeld => ?_)
             clear hK K hw6b hYo
             try simp only [qq]
             refine rd1 7 (fun K hK => ?_)
             go_simp
             refine numbers_r HL HB0 (hd (HQ5b.out.since Hw6b.out HB0.out)) (hd (HWe.out.quiet Cw6b.out)) [m.w] 1 ⟨rfl, by decide⟩ (by intro q hq; rw [List.mem_singleton] at hq; rw [hq]; exact HI2.out) HBYo.out NYo.out (fun w6 h3 h4 => ?_)
             have HWw6 := hd h3
             have Hw6 := hd (Hw6b.out.trans h4 (fun q hq => .inl hq))
             refine hK.out _ _ Hw6.out (fun hHeld => ?_)
             clear hK K h3 h4
             try simp only [qq]
             have gnw6 : (Pr.nums [m.w]).length ≤ 22 := Pr.nums_len [m.w] (by intro q hq; rw [List.mem_singleton] at hq; rw [hq]; exact HI2.out)
             obtain ⟨nnw6, hnn⟩ : ∃ nn, nn = Pr.nums [m.w] := ⟨_, rfl⟩
             rw [← hnn] at gnw6
             rw [← hnn]
             have HNw6 := hd hnn
             clear hnn
             have ga2 := HA2.out.2
             have g1 : ¬ 9223372036854775807 < 3 + nnw6.length := by omega
             refine tk 8 ?vo8 ?hyo8 ?rso8
             case hyo8 => (intro w9 hSw; go_simp; try with_reducible rfl)
             try simp only [qq]
             rw [show (⟨#[32, 111, 102]⟩ : ByteArray) ++ ⟨nnw6.toArray⟩ = ⟨(Pr.tOf ++ nnw6).toArray⟩ from str2 _ _]
             have gz : (⟨(Pr.tOf ++ nnw6).toArray⟩ : ByteArray).size = 3 + nnw6.length := by rw [size_of9, List.length_append]; rfl
             have gy : (Pr.tOf ++ nnw6).length = 3 + nnw6.length := by rw [List.length_append]; rfl
             have g3 : ¬ 9223372036854775807 < ac2.length + (Pr.tOf ++ nnw6).length := by omega
             have g4 : ¬ 9223372036854775807 < ac2.length + (3 + nnw6.length) := by omega
             refine tk 9 ?vo9 ?hyo9 ?rso9
             case hyo9 => (intro w9 hSw; (try simp only [List.length_append] at g3); go_simp; try with_reducible rfl)
             try simp only [qq]
             rw [str2]
             refine tk 10 ?vo10 ?hyo10 ?rso10
             case hyo10 => (intro w9 hSw; go_simp; try with_reducible rfl)
             try simp only [qq]
             refine wpAnyH_done (by kernel_rfl) ?_ _
             try simp only [qq]
             clear hHeld g1 gz g3 g4
             have gy2 := gy
             clear gy
             have HRL : Hid (Chg [b] w3 w6) := hd ((HC4.out.trans Hw5.out (fun q hq => .inl hq)).trans Hw6.out (fun q hq => .inl hq))
             go_wp2_with fail
             go_roundw
             case rel => exact ⟨j + 1, ac2 ++ (Pr.tOf ++ nnw6), vint (by omega), rfl, by omega, hd ⟨by rw [HA2.out.1, HAC.out.1, HTK.out, HMV.out, HNw5.out, HNw6.out, ← HKN.out, List.flatMap_append, List.flatMap_singleton, Pr.markS_4 HK4.out]; simp only [List.append_assoc], by rw [List.length_append, gy2]; omega⟩, hd (by rw [HTK.out, List.all_append, List.all_cons, List.all_nil, Bool.and_true, Pr.markOk_4 HK4.out, Bool.not_and, Bool.not_and, ← Bool.or_assoc, ← HQJ.out, ← Bool.or_assoc]; have h9 := HWw6.out; rw [Pr.numsOk_1, Pr.numsOk_1] at h9; exact h9), HRL⟩
             case measure => simp [intN]; omega
           · skip
             have p1 : ¬ (kn : Int) < 1 := by omega
             have p4 : ¬ (4 : Int) < (kn : Int) := by omega
             have pz : (0 : Int) ≤ (kn : Int) := by omega
             have p5 : (kn : Int) < 5 := by omega
             have pi : ((kn : Int)).toNat = kn := by omega
             have e4 : ((kn : Int) == 4) = false := by rw [beq_eq_false_iff_ne]; omega
             have z4 : ¬ (kn : Int) = 4 := by omega
             have HE4 := hd e4
             have z0 : m.w = 0 := Decidable.byContradiction (fun h => hkw ⟨by omega, h⟩)
             have HK4 : Hid (m.kind ≠ 4 ∧ m.w = 0) := hd ⟨by omega, Decidable.byContradiction (fun h => hkw ⟨by omega, h⟩)⟩
             have e0 : ((m.w : Int) == 0) = true := by rw [beq_iff_eq]; exact HK4.out.2
             clear h44
             have HKN := hd hkn
             have HKR : Hid (1 ≤ m.kind ∧ m.kind ≤ 4) := hd ⟨by omega, by omega⟩
             rw [hkn] at HG
             have g0 := HG.out.cell (i := 0) rfl
             clear hkn hk1 hk4 hkw
             go_upto_region 8 with (fail)
             clear g0 g2 e4 z4
             have HMW : Hid (w4.cell? ⟨D, kn, none⟩ = some (.string ⟨(Pr.markW (kn : Int)).toArray⟩) ∧ (Pr.markW (kn : Int)).length ≤ 7) := hd (by
              have h1 := HC4.out.blk HDB.out (by simp [ND])
              have h2 : kn = 1 ∨ kn = 2 ∨ kn = 3 ∨ kn = 4 := by omega
              rcases h2 with rfl | rfl | rfl | rfl
              · exact ⟨h1.cell (i := 1) rfl, by decide⟩
              · exact ⟨h1.cell (i := 2) rfl, by decide⟩
              · exact ⟨h1.cell (i := 3) rfl, by decide⟩
              · exact ⟨h1.cell (i := 4) rfl, by decide⟩)
             obtain ⟨mw, hmw⟩ : ∃ mw, mw = Pr.markW (kn : Int) := ⟨_, rfl⟩
             rw [← hmw] at HMW
             have HMV := hd hmw
             clear hmw
             have HQ4 : Hid (Chg [] w0 w4) := hd (HQ3.out.since HC4.out HB0.out)
             refine wp_region_held_drew (S := fun W' => Chg [b] w4 W') (by kernel_rfl) (Chg.refl _ _).drew (fun hHeld => ?_)
             obtain ⟨wd, hwd⟩ : ∃ x, x = w4.drew := ⟨_, rfl⟩
             have CDd : Hid (Chg [] w4 wd) := hd (by rw [hwd]; exact (Chg.refl _ _).drew)
             have CDb : Hid (Chg [b] w4 wd) := hd (CDd.out.mono (by simp))
             rw [← hwd] at hHeld ⊢
             clear hwd
             have HWd := hd ((HWJ.out.quiet C4.out).quiet CDd.out)
             refine tk 0 ?vkg0 ?hykg0 ?rskg0
             case hykg0 => (intro w9 hSw; go_simp; try with_reducible rfl)
             try simp only [qq]
             refine tk 1 ?vkg1 ?hykg1 ?rskg1
             case hykg1 => (intro w9 hSw; go_simp; try with_reducible rfl)
             try simp only [qq]
             refine tk 2 ?vkg2 ?hykg2 ?rskg2
             case hykg2 => (intro w9 hSw; have e8 := cell_quiet hSw (HG.out.cell (i := 0) rfl) (by simp [NG]); go_simp; try with_reducible rfl)
             try simp only [qq]
             refine tk 3 ?vkg3 ?hykg3 ?rskg3
             case hykg3 => (intro w9 hSw; go_simp; try with_reducible rfl)
             try simp only [qq]
             refine tk 4 ?vkg4 ?hykg4 ?rskg4
             case hykg4 => (intro w9 hSw; have e8 := cell_quiet hSw HMW.out.1 (by simp [ND]); go_simp; try with_reducible rfl)
             try simp only [qq]
             refine tk 5 ?vkg5 ?hykg5 ?rskg5
             case hykg5 => (intro w9 hSw; go_simp; try with_reducible rfl)
             try simp only [qq]
             refine tk 6 ?vkg6 ?hykg6 ?rskg6
             case hykg6 => (intro w9 hSw; go_simp; try with_reducible rfl)
             try simp only [qq]
             refine tk 7 ?vkg7 ?hykg7 ?rskg7
             case hykg7 => (intro w9 hSw; go_simp; try with_reducible rfl)
             try simp only [qq]
             refine tk 8 ?vkg8 ?hykg8 ?rskg8
             case hykg8 => (intro w9 hSw; go_simp; try with_reducible rfl)
             try simp only [qq]
             refine tk 9 ?vkg9 ?hykg9 ?rskg9
             case hykg9 => (intro w9 hSw; have e8 := cell_quiet hSw (HG.out.cell (i := 1) rfl) (by simp [NG]); go_simp; try with_reducible rfl)
             try simp only [qq]
             refine rd1 10 (fun K hK => ?_)
             go_simp
             obtain ⟨w5b, hw5b⟩ : ∃ W, W = wd.alloc (.cells #[.int .i64 m.seat] 3) := ⟨_, rfl⟩
             rw [← hw5b]
             obtain ⟨Yg, hYg⟩ : ∃ X, X = wd.heap.size := ⟨_, rfl⟩
             rw [← hYg]
             have HBYg : Hid (Blk w5b Yg [.int .i64 m.seat] 3) := hd (by rw [hw5b, hYg]; exact Blk.new wd [.int .i64 m.seat] _)
             have Cw5b : Hid (Chg [] wd w5b) := hd (by rw [hw5b]; exact (Chg.refl _ _).alloc _)
             have NYg : Hid (Yg ≠ b) := hd (by have := HWd.out.lt; omega)
             have Hw5b := hd (CDb.out.trans Cw5b.out (by simp))
             refine hK.out _ _ Hw5b.out (fun hHeld => ?_)
             clear hK K hw5b hYg
             try simp only [qq]
             refine rd1 11 (fun K hK => ?_)
             go_simp
             refine numbers_r HL HB0 (hd (HQ4.out.since Hw5b.out HB0.out)) (hd (HWd.out.quiet Cw5b.out)) [m.seat] 1 ⟨rfl, by decide⟩ (by intro q hq; rw [List.mem_singleton] at hq; rw [hq]; exact HI1.out) HBYg.out NYg.out (fun w5 h3 h4 => ?_)
             have HWw5 := hd h3
             have Hw5 := hd (Hw5b.out.trans h4 (fun q hq => .inl hq))
             refine hK.out _ _ Hw5.out (fun hHeld => ?_)
             clear hK K h3 h4
             try simp only [qq]
             have gnw5 : (Pr.nums [m.seat]).length ≤ 22 := Pr.nums_len [m.seat] (by intro q hq; rw [List.mem_singleton] at hq; rw [hq]; exact HI1.out)
             obtain ⟨nnw5, hnn⟩ : ∃ nn, nn = Pr.nums [m.seat] := ⟨_, rfl⟩
             rw [← hnn] at gnw5
             rw [← hnn]
             have HNw5 := hd hnn
             clear hnn
             have gm := HMW.out.2
             have ga := HAC.out.2
             have g1 : ¬ 9223372036854775807 < mw.length + nnw5.length := by omega
             refine tk 12 ?vkg12 ?hykg12 ?rskg12
             case hykg12 => (intro w9 hSw; go_simp; try with_reducible rfl)
             try simp only [qq]
             rw [str2]
             have gz : (⟨(mw ++ nnw5).toArray⟩ : ByteArray).size = mw.length + nnw5.length := by rw [size_of9, List.length_append]
             have g3 : ¬ 9223372036854775807 < acc.length + (mw.length + nnw5.length) := by omega
             refine tk 13 ?vkg13 ?hykg13 ?rskg13
             case hykg13 => (intro w9 hSw; go_simp; try with_reducible rfl)
             try simp only [qq]
             rw [str2]
             refine tk 14 ?vkg14 ?hykg14 ?rskg14
             case hykg14 => (intro w9 hSw; go_simp; try with_reducible rfl)
             try simp only [qq]
             refine wpAnyH_done (by kernel_rfl) ?_ _
             try simp only [qq]
             clear hHeld g1 gz g3
             obtain ⟨ac2, hac2⟩ : ∃ x, x = acc ++ (mw ++ nnw5) := ⟨_, rfl⟩
             rw [← hac2]
             have HA2 : Hid (ac2 = acc ++ (mw ++ nnw5) ∧ ac2.length ≤ 1500 + 100 * j + 29) := hd ⟨hac2, by rw [hac2, List.length_append, List.length_append]; omega⟩
             clear hac2
             have g0 := (Hw5.out.blk HG.out (by simp [NG])).cell (i := 0) rfl
             have e4 := HE4.out
             have z4 : ¬ (kn : Int) = 4 := by rw [beq_eq_false_iff_ne] at e4; exact e4
             have HRL : Hid (Chg [b] w3 w5) := hd (HC4.out.trans Hw5.out (fun q hq => .inl hq))
             go_wp2_with fail
             go_roundw
             case rel => exact ⟨j + 1, ac2, vint (by omega), rfl, by omega, hd ⟨by rw [HA2.out.1, HAC.out.1, HTK.out, HMV.out, HNw5.out, ← HKN.out, List.flatMap_append, List.flatMap_singleton, Pr.markS_n HK4.out.1, List.append_assoc], by have := HA2.out.2; omega⟩, hd (by rw [HTK.out, List.all_append, List.all_cons, List.all_nil, Bool.and_true, Pr.markOk_n HKR.out.1 HKR.out.2 HK4.out.2, Bool.not_and, ← Bool.or_assoc, ← HQJ.out]; have h9 := HWw5.out; rw [Pr.numsOk_1] at h9; exact h9), HRL⟩
             case measure => simp [intN]; omega
   · have q1 : ¬ (j : Int) < (n : Int) := by omega
     have hjn : r.marks.take j = r.marks := List.take_of_length_le (by rw [HN.out]; omega)
     rw [hjn] at HAC HQJ
     clear hjn
     have hrm := HRM.out
     have ga := HAC.out.2
     have g1 : ¬ 9223372036854775807 < acc.length + 1 := by omega
     have gl : (acc ++ [59]).length ≤ 1000000 := by rw [List.length_append]; show _ + 1 ≤ _; omega
     have HGL := hd gl
     clear ga hrm gl
     go_wp2_with fail
     rw [show (⟨acc.toArray⟩ : ByteArray) ++ ⟨#[59]⟩ = ⟨(acc ++ [59]).toArray⟩ from str2 _ _]
     refine line_r hT HD.out HWJ (acc ++ [59]) HGL.out (fun v7 w7 h7 h8 => ?_)
     have HBQ : Hid (qj = (bad || !Pr.rowOk r)) := hd (by rw [HQJ.out, HQ5.out]; exact Pr.row_bad bad r)
     have HRS : Hid (acc ++ [59] = Pr.rowS r) := hd (by rw [HAC.out.1]; rfl)
     rw [HBQ.out, HRS.out] at h7
     have H7 := hd h7
     have H8 : Hid (Wr b v w v7 w7) := hd ((Wr.cell ((C1.out.mono (by simp)).trans (HC23.out.trans HC.out (fun q hq => .inl hq)) (fun q hq => .inl hq))).trans h8)
     clear h7 h8
     go_wp2_with fail
     go_end0
     exact HR.out v7 w7 H7.out H8.out)
 have HPQ : Hid (∀ c a d x w, Q0 (.panic c) (a.put d x) w → Q0 (.panic c) a w) := hd (by rw [hQ.out]; intro c a d x w h; cases d <;> exact h)
 clear hQ
 obtain ⟨y, hA⟩ := RowA_of hA
 have st4_1234 := rows4_1234 CC hO2 HPQ hA st5_1234
 have st4_123 := rows4_123 CC hO2 HPQ hA st4_1234
 have st3_1234 := rows3_1234 CC hO2 HPQ hA st4_1234
 have st3_123 := rows3_123 CC hO2 HPQ hA st4_123 st3_1234
 have st3_124 := rows3_124 CC hO2 HPQ hA st3_1234
 have st3_12 := rows3_12 CC hO2 HPQ hA st3_123 st3_124
 have st2_1234 := rows2_1234 CC hO2 HPQ hA st3_1234
 have st2_123 := rows2_123 CC hO2 HPQ hA st3_123 st2_1234
 have st2_124 := rows2_124 CC hO2 HPQ hA st3_124 st2_1234
 have st2_134 := rows2_134 CC hO2 HPQ hA st2_1234
 have st2_12 := rows2_12 CC hO2 HPQ hA st3_12 st2_123 st2_124
 have st2_13 := rows2_13 CC hO2 HPQ hA st2_123 st2_134
 have st2_14 := rows2_14 CC hO2 HPQ hA st2_124 st2_134
 have st2_1 := rows2_1 CC hO2 HPQ hA st2_12 st2_13 st2_14
 have st1_1234 := rows1_1234 CC hO2 HPQ hA st2_1234
 have st1_123 := rows1_123 CC hO2 HPQ hA st2_123 st1_1234
 have st1_124 := rows1_124 CC hO2 HPQ hA st2_124 st1_1234
 have st1_134 := rows1_134 CC hO2 HPQ hA st2_134 st1_1234
 have st1_234 := rows1_234 CC hO2 HPQ hA st1_1234
 have st1_12 := rows1_12 CC hO2 HPQ hA st2_12 st1_123 st1_124
 have st1_13 := rows1_13 CC hO2 HPQ hA st2_13 st1_123 st1_134
 have st1_14 := rows1_14 CC hO2 HPQ hA st2_14 st1_124 st1_134
 have st1_23 := rows1_23 CC hO2 HPQ hA st1_123 st1_234
 have st1_24 := rows1_24 CC hO2 HPQ hA st1_124 st1_234
 have st1_34 := rows1_34 CC hO2 HPQ hA st1_134 st1_234
 have st1_1 := rows1_1 CC hO2 HPQ hA st2_1 st1_12 st1_13 st1_14
 have st1_2 := rows1_2 CC hO2 HPQ hA st1_12 st1_23 st1_24
 have st1_3 := rows1_3 CC hO2 HPQ hA st1_13 st1_23 st1_34
 have st1_4 := rows1_4 CC hO2 HPQ hA st1_14 st1_24 st1_34
 have st1_ := rows1_ CC hO2 HPQ hA st1_1 st1_2 st1_3 st1_4
 have st0_1234 := rows0_1234 CC hO2 HPQ hA st1_1234
 have st0_123 := rows0_123 CC hO2 HPQ hA st1_123 st0_1234
 have st0_124 := rows0_124 CC hO2 HPQ hA st1_124 st0_1234
 have st0_134 := rows0_134 CC hO2 HPQ hA st1_134 st0_1234
 have st0_234 := rows0_234 CC hO2 HPQ hA st1_234 st0_1234
 have st0_12 := rows0_12 CC hO2 HPQ hA st1_12 st0_123 st0_124
 have st0_13 := rows0_13 CC hO2 HPQ hA st1_13 st0_123 st0_134
 have st0_14 := rows0_14 CC hO2 HPQ hA st1_14 st0_124 st0_134
 have st0_23 := rows0_23 CC hO2 HPQ hA st1_23 st0_123 st0_234
 have st0_24 := rows0_24 CC hO2 HPQ hA st1_24 st0_124 st0_234
 have st0_34 := rows0_34 CC hO2 HPQ hA st1_34 st0_134 st0_234
 have st0_1 := rows0_1 CC hO2 HPQ hA st1_1 st0_12 st0_13 st0_14
 have st0_2 := rows0_2 CC hO2 HPQ hA st1_2 st0_12 st0_23 st0_24
 have st0_3 := rows0_3 CC hO2 HPQ hA st1_3 st0_13 st0_23 st0_34
 have st0_4 := rows0_4 CC hO2 HPQ hA st1_4 st0_14 st0_24 st0_34
 have st0_ := rows0_ CC hO2 HPQ hA st1_ st0_1 st0_2 st0_3 st0_4
 exact st0_.out wd (hd (HW1.out.quiet CD.out)) (hd hHeld)
end Go.Proofs.YtgbooiaedbpenaaGreatDoor
