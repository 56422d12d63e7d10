/-
 Printer, layer 16: tests of rules.
-/
import Derived.Test.YtgbooiaedbpenaaGreatDoorPrTk
import Derived.Test.YtgbooiaedbpenaaGreatDoorPrZp
import Derived.Test.YtgbooiaedbpenaaGreatDoorPrWp
import Derived.Deep.DeepCutAuto
namespace Go.Proofs.YtgbooiaedbpenaaGreatDoor
set_option linter.unusedVariables false
set_option linter.unusedSimpArgs false
open Go Go.RowKit Go.Shelf
attribute [local irreducible] Go.wpStill

/-- Whether all was as required is stored. -/
theorem Wst.set3 {T : TypeId} {b deep : Nat} {bad : Bool} {out : Bytes} {v : Value} {w : World} (h : Wst T b deep bad out v w) (q : Bool) (hq : q = false → bad = false) : Wst T b deep q out v (w.setCell ⟨b, 3, none⟩ (.bool q)) := by
 obtain ⟨o, h1, h2, h3⟩ := h
 obtain ⟨p, hp, hb⟩ := h1.blk
 exact ⟨o, h1.rest ((Chg.refl _ _).setCell _ _ (.inl (by simp))) hp (hb.set 3 _), h2, fun e => h3 (hq e)⟩
theorem Wst.c3 {T : TypeId} {b deep : Nat} {bad : Bool} {out : Bytes} {v : Value} {w : World} (h : Wst T b deep bad out v w) : w.cell? ⟨b, 3, none⟩ = some (.bool bad) ∧ w.frozen? ⟨b, 3, none⟩ = false := by
 obtain ⟨o, h1, h2⟩ := h
 obtain ⟨p, hp, hb⟩ := h1.blk
 exact ⟨hb.cell (i := 3) rfl, hb.free 3⟩
theorem Wst.nb {T : TypeId} {b deep : Nat} {bad : Bool} {out : Bytes} {v : Value} {w : World} (h : Wst T b deep bad out v w) {G : Nat} {cs : List Value} {e : TypeId} (hG : Blk w G cs e) (hb : G ≠ b) (he : e ≠ 5) : G ∉ b :: v.ownBlock.toList := by simp only [List.mem_cons, Option.mem_toList, not_or]; exact ⟨hb, h.ne9 hG he⟩
theorem Wst.ob {T : TypeId} {b deep : Nat} {bad : Bool} {out : Bytes} {v : Value} {w : World} (h : Wst T b deep bad out v w) {m : Nat} (hm : m ≤ b) : ∀ k ∈ b :: v.ownBlock.toList, m ≤ k := by
 intro k hk
 rcases List.mem_cons.1 hk with rfl | hk
 · exact hm
 · rw [Option.mem_toList] at hk
   have := own_ge h k hk
   omega
set_option maxHeartbeats 4000000 in
set_option maxRecDepth 100000 in
theorem test_r {T : TypeId} {w0 : World} (HL : Hid (Laid w0)) {b deep : Nat} (HB0 : Hid (w0.heap.size ≤ b)) {w : World} (HQ : Hid (Chg [] w0 w)) {bad : Bool} {out : Bytes} {v : Value} (HW : Hid (Wst T b deep bad out v w)) (x : Pr.Tst) (HI : Hid (Pr.I64 x.op ∧ Pr.I64 x.n)) (bx : x.attr.length ≤ 1000 ∧ x.name.length ≤ 1000) {R : Ending → World → Prop}
 (h : ∀ w' s, Wst T b deep (bad || !Pr.testOk x) out v w' → Wr b v w v w' → (Pr.testOk x = true → s = Pr.testS x) → s.length ≤ 3000 → R (.returned (.string ⟨s.toArray⟩)) w') :
 Calls Tryz.prog 16 #[.pointer (some ⟨b, 0, none⟩), .agg #[.string ⟨x.attr.toArray⟩, .int .i64 x.op, .string ⟨x.name.toArray⟩, .int .i64 x.n, .int .i64 x.at_]] w R := by
 have HRR := hd h
 clear h
 obtain ⟨atr, op, nm, n, pos⟩ := x
 have HI1 : Hid (Pr.I64 op ∧ Pr.I64 n) := hd HI.out
 have bx1 : atr.length ≤ 1000 := bx.1
 have bx2 : nm.length ≤ 1000 := bx.2
 clear HI bx
 go_enter Tryz.func16, Tryz.ntmps16
 go_upto_region 1 with (fail)
 obtain ⟨w4, hw⟩ : ∃ W, W = w.alloc (.cells #[.string ⟨atr.toArray⟩, .int .i64 op, .string ⟨nm.toArray⟩, .int .i64 n, .int .i64 pos] 65) := ⟨_, rfl⟩
 rw [← hw]
 obtain ⟨G, hG⟩ : ∃ X, X = w.heap.size := ⟨_, rfl⟩
 rw [← hG]
 have HG : Hid (Blk w4 G [.string ⟨atr.toArray⟩, .int .i64 op, .string ⟨nm.toArray⟩, .int .i64 n, .int .i64 pos] 65) := hd (by rw [hw, hG]; exact Blk.new w [.string ⟨atr.toArray⟩, .int .i64 op, .string ⟨nm.toArray⟩, .int .i64 n, .int .i64 pos] _)
 have C4 : Hid (Chg [] w w4) := hd (by rw [hw]; exact (Chg.refl _ _).alloc _)
 have NG : G ≠ b := by have := HW.out.lt; omega
 clear hw hG
 have HW4 := hd (HW.out.quiet C4.out)
 have HQ4 : Hid (Chg [] w0 w4) := hd (HQ.out.trans C4.out (by simp))
 have NHG := hd (HW4.out.nb HG.out NG (by decide))
 have g0 := HG.out.cell (i := 0) rfl
 have g1 := HG.out.cell (i := 1) rfl
 have g2 := HG.out.cell (i := 2) rfl
 have g3 := HG.out.cell (i := 3) rfl
 have g4 := HG.out.cell (i := 4) rfl
 by_cases hop : 1 ≤ op ∧ op ≤ 6
 · skip
   have HOP := hd hop
   clear hop
   obtain ⟨q0, q6⟩ := HOP.out
   have q0' : ¬ op < 1 := by omega
   have q6' : ¬ 6 < op := by omega
   go_upto_region 4 with (fail)
   clear q0' q6'
   go_upto_region 5 with (fail)
   obtain ⟨w5, hw⟩ : ∃ W, W = w4.alloc (.cells #[.string ⟨#[]⟩, .string ⟨#[32, 61]⟩, .string ⟨#[32, 33, 61]⟩, .string ⟨#[32, 60]⟩, .string ⟨#[32, 60, 61]⟩, .string ⟨#[32, 62]⟩, .string ⟨#[32, 62, 61]⟩] 118) := ⟨_, rfl⟩
   rw [← hw]
   obtain ⟨D, hG⟩ : ∃ X, X = w4.heap.size := ⟨_, rfl⟩
   rw [← hG]
   have HD : Hid (Blk w5 D [.string ⟨#[]⟩, .string ⟨#[32, 61]⟩, .string ⟨#[32, 33, 61]⟩, .string ⟨#[32, 60]⟩, .string ⟨#[32, 60, 61]⟩, .string ⟨#[32, 62]⟩, .string ⟨#[32, 62, 61]⟩] 118) := hd (by rw [hw, hG]; exact Blk.new w4 [.string ⟨#[]⟩, .string ⟨#[32, 61]⟩, .string ⟨#[32, 33, 61]⟩, .string ⟨#[32, 60]⟩, .string ⟨#[32, 60, 61]⟩, .string ⟨#[32, 62]⟩, .string ⟨#[32, 62, 61]⟩] _)
   have C5 : Hid (Chg [] w4 w5) := hd (by rw [hw]; exact (Chg.refl _ _).alloc _)
   have ND : D ≠ b := by have := HW4.out.lt; omega
   clear hw hG
   have HW5 := hd (HW4.out.quiet C5.out)
   have HQ5 : Hid (Chg [] w0 w5) := hd (HQ4.out.trans C5.out (by simp))
   have HG5 := hd (C5.out.blk HG.out (by simp))
   have NHD := hd (HW5.out.nb HD.out ND (by decide))
   have FOK : Hid (Pr.testOk ⟨atr, op, nm, n, pos⟩ = (Pr.nameOk atr && (if nm = [] then Pr.numOk n else decide (n = 0) && Pr.valueOk nm))) := hd (by simp only [Pr.testOk, decide_eq_true HOP.out.1, decide_eq_true HOP.out.2, Bool.true_and])
   clear g0 g1 g2 g3 g4
   go_cut [6] (fun s6 wx => s6 = .string ⟨(atr ++ Pr.opW op).toArray⟩ ∧ Hid (Wst T b deep (bad || !Pr.nameOk atr) out v wx) ∧ Hid (Chg [b] w5 wx))
   case first =>
    have hcs : op = 1 ∨ op = 2 ∨ op = 3 ∨ op = 4 ∨ op = 5 ∨ op = 6 := by omega
    clear q0 q6 HOP FOK HRR
    rcases hcs with rfl | rfl | rfl | rfl | rfl | rfl
    · skip
      have HOB : Hid (∀ k ∈ b :: v.ownBlock.toList, w0.heap.size ≤ k) := hd (HW5.out.ob HB0.out)
      refine wp_region_held_drew (S := fun W' => Chg (b :: v.ownBlock.toList) w5 W') (by kernel_rfl) (Chg.refl _ _).drew (fun hHeld => ?_)
      obtain ⟨wd, hwd⟩ : ∃ x, x = w5.drew := ⟨_, rfl⟩
      have CD : Hid (Chg [] w5 wd) := hd (by rw [hwd]; exact (Chg.refl _ _).drew)
      rw [← hwd] at hHeld ⊢
      clear hwd
      have HWwd := hd (HW5.out.quiet CD.out)
      refine tk 0 ?vo10 ?hyo10 ?rso10
      case hyo10 => (intro w9 hSw; go_simp; try with_reducible rfl)
      try simp only [qq]
      refine tk 1 ?vo11 ?hyo11 ?rso11
      case hyo11 => (intro w9 hSw; go_simp; try with_reducible rfl)
      try simp only [qq]
      refine tk 2 ?vo12 ?hyo12 ?rso12
      case hyo12 => (intro w9 hSw; go_simp; try with_reducible rfl)
      try simp only [qq]
      refine tk 3 ?vo13 ?hyo13 ?rso13
      case hyo13 => (intro w9 hSw; go_simp; try with_reducible rfl)
      try simp only [qq]
      refine tk 4 ?vo14 ?hyo14 ?rso14
      case hyo14 => (intro w9 hSw; have e0 := cell_quiet hSw (HG5.out.cell (i := 0) rfl) NHG.out; go_simp; try with_reducible rfl)
      try simp only [qq]
      refine tk 6 ?vo16 ?hyo16 ?rso16
      case hyo16 => (intro w9 hSw; go_simp; try with_reducible rfl)
      try simp only [qq]
      refine tk 7 ?vo17 ?hyo17 ?rso17
      case hyo17 => (intro w9 hSw; have e1 := cell_quiet hSw (HG5.out.cell (i := 1) rfl) NHG.out; go_simp; try with_reducible rfl)
      try simp only [qq]
      refine tk 8 ?vo18 ?hyo18 ?rso18
      case hyo18 => (intro w9 hSw; go_simp; try with_reducible rfl)
      try simp only [qq]
      refine tk 9 ?vo19 ?hyo19 ?rso19
      case hyo19 => (intro w9 hSw; have e1 := cell_quiet hSw (HD.out.cell (i := 1) rfl) NHD.out; go_simp; try with_reducible rfl)
      try simp only [qq]
      refine rd1 5 (fun K hK => ?_)
      go_simp
      refine name_r HWwd atr (fun wo11 h3 h4 => ?_)
      have H3 := hd h3
      have H4 : Hid (Chg [b] w5 wo11) := hd ((CD.out.mono (by simp)).trans h4 (fun k hk => .inl hk))
      refine hK.out _ _ (hHeld.trans h4 (fun k hk => .inl (by rw [List.mem_singleton] at hk; simp [hk]))) (fun hHeld => ?_)
      clear hK K h3 h4
      try simp only [qq]
      have hz : ¬ 9223372036854775807 < atr.length + 2 := by omega
      refine tk 10 ?vo110 ?hyo110 ?rso110
      case hyo110 => (intro w9 hSw; go_simp; try with_reducible rfl)
      try simp only [qq]
      refine tk 11 ?vo111 ?hyo111 ?rso111
      case hyo111 => (intro w9 hSw; go_simp; try with_reducible rfl)
      try simp only [qq]
      refine wpAnyH_done (by kernel_rfl) ?_ _
      try simp only [qq]
      go_wp2_with fail
      go_meet
      exact ⟨by rw [show (⟨List.toArray atr⟩ : ByteArray) ++ ⟨List.toArray ([32, 61] : Bytes)⟩ = ⟨(atr ++ ([32, 61] : Bytes)).toArray⟩ from str2 _ _]; rfl, H3, H4⟩
    · skip
      have HOB : Hid (∀ k ∈ b :: v.ownBlock.toList, w0.heap.size ≤ k) := hd (HW5.out.ob HB0.out)
      refine wp_region_held_drew (S := fun W' => Chg (b :: v.ownBlock.toList) w5 W') (by kernel_rfl) (Chg.refl _ _).drew (fun hHeld => ?_)
      obtain ⟨wd, hwd⟩ : ∃ x, x = w5.drew := ⟨_, rfl⟩
      have CD : Hid (Chg [] w5 wd) := hd (by rw [hwd]; exact (Chg.refl _ _).drew)
      rw [← hwd] at hHeld ⊢
      clear hwd
      have HWwd := hd (HW5.out.quiet CD.out)
      refine tk 0 ?vo20 ?hyo20 ?rso20
      case hyo20 => (intro w9 hSw; go_simp; try with_reducible rfl)
      try simp only [qq]
      refine tk 1 ?vo21 ?hyo21 ?rso21
      case hyo21 => (intro w9 hSw; go_simp; try with_reducible rfl)
      try simp only [qq]
      refine tk 2 ?vo22 ?hyo22 ?rso22
      case hyo22 => (intro w9 hSw; go_simp; try with_reducible rfl)
      try simp only [qq]
      refine tk 3 ?vo23 ?hyo23 ?rso23
      case hyo23 => (intro w9 hSw; go_simp; try with_reducible rfl)
      try simp only [qq]
      refine tk 4 ?vo24 ?hyo24 ?rso24
      case hyo24 => (intro w9 hSw; have e0 := cell_quiet hSw (HG5.out.cell (i := 0) rfl) NHG.out; go_simp; try with_reducible rfl)
      try simp only [qq]
      refine tk 6 ?vo26 ?hyo26 ?rso26
      case hyo26 => (intro w9 hSw; go_simp; try with_reducible rfl)
      try simp only [qq]
      refine tk 7 ?vo27 ?hyo27 ?rso27
      case hyo27 => (intro w9 hSw; have e1 := cell_quiet hSw (HG5.out.cell (i := 1) rfl) NHG.out; go_simp; try with_reducible rfl)
      try simp only [qq]
      refine tk 8 ?vo28 ?hyo28 ?rso28
      case hyo28 => (intro w9 hSw; go_simp; try with_reducible rfl)
      try simp only [qq]
      refine tk 9 ?vo29 ?hyo29 ?rso29
      case hyo29 => (intro w9 hSw; have e2 := cell_quiet hSw (HD.out.cell (i := 2) rfl) NHD.out; go_simp; try with_reducible rfl)
      try simp only [qq]
      refine rd1 5 (fun K hK => ?_)
      go_simp
      refine name_r HWwd atr (fun wo21 h3 h4 => ?_)
      have H3 := hd h3
      have H4 : Hid (Chg [b] w5 wo21) := hd ((CD.out.mono (by simp)).trans h4 (fun k hk => .inl hk))
      refine hK.out _ _ (hHeld.trans h4 (fun k hk => .inl (by rw [List.mem_singleton] at hk; simp [hk]))) (fun hHeld => ?_)
      clear hK K h3 h4
      try simp only [qq]
      have hz : ¬ 9223372036854775807 < atr.length + 3 := by omega
      refine tk 10 ?vo210 ?hyo210 ?rso210
      case hyo210 => (intro w9 hSw; go_simp; try with_reducible rfl)
      try simp only [qq]
      refine tk 11 ?vo211 ?hyo211 ?rso211
      case hyo211 => (intro w9 hSw; go_simp; try with_reducible rfl)
      try simp only [qq]
      refine wpAnyH_done (by kernel_rfl) ?_ _
      try simp only [qq]
      go_wp2_with fail
      go_meet
      exact ⟨by rw [show (⟨List.toArray atr⟩ : ByteArray) ++ ⟨List.toArray ([32, 33, 61] : Bytes)⟩ = ⟨(atr ++ ([32, 33, 61] : Bytes)).toArray⟩ from str2 _ _]; rfl, H3, H4⟩
    · skip
      have HOB : Hid (∀ k ∈ b :: v.ownBlock.toList, w0.heap.size ≤ k) := hd (HW5.out.ob HB0.out)
      refine wp_region_held_drew (S := fun W' => Chg (b :: v.ownBlock.toList) w5 W') (by kernel_rfl) (Chg.refl _ _).drew (fun hHeld => ?_)
      obtain ⟨wd, hwd⟩ : ∃ x, x = w5.drew := ⟨_, rfl⟩
      have CD : Hid (Chg [] w5 wd) := hd (by rw [hwd]; exact (Chg.refl _ _).drew)
      rw [← hwd] at hHeld ⊢
      clear hwd
      have HWwd := hd (HW5.out.quiet CD.out)
      refine tk 0 ?vo30 ?hyo30 ?rso30
      case hyo30 => (intro w9 hSw; go_simp; try with_reducible rfl)
      try simp only [qq]
      refine tk 1 ?vo31 ?hyo31 ?rso31
      case hyo31 => (intro w9 hSw; go_simp; try with_reducible rfl)
      try simp only [qq]
      refine tk 2 ?vo32 ?hyo32 ?rso32
      case hyo32 => (intro w9 hSw; go_simp; try with_reducible rfl)
      try simp only [qq]
      refine tk 3 ?vo33 ?hyo33 ?rso33
      case hyo33 => (intro w9 hSw; go_simp; try with_reducible rfl)
      try simp only [qq]
      refine tk 4 ?vo34 ?hyo34 ?rso34
      case hyo34 => (intro w9 hSw; have e0 := cell_quiet hSw (HG5.out.cell (i := 0) rfl) NHG.out; go_simp; try with_reducible rfl)
      try simp only [qq]
      refine tk 6 ?vo36 ?hyo36 ?rso36
      case hyo36 => (intro w9 hSw; go_simp; try with_reducible rfl)
      try simp only [qq]
      refine tk 7 ?vo37 ?hyo37 ?rso37
      case hyo37 => (intro w9 hSw; have e1 := cell_quiet hSw (HG5.out.cell (i := 1) rfl) NHG.out; go_simp; try with_reducible rfl)
      try simp only [qq]
      refine tk 8 ?vo38 ?hyo38 ?rso38
      case hyo38 => (intro w9 hSw; go_simp; try with_reducible rfl)
      try simp only [qq]
      refine tk 9 ?vo39 ?hyo39 ?rso39
      case hyo39 => (intro w9 hSw; have e3 := cell_quiet hSw (HD.out.cell (i := 3) rfl) NHD.out; go_simp; try with_reducible rfl)
      try simp only [qq]
      refine rd1 5 (fun K hK => ?_)
      go_simp
      refine name_r HWwd atr (fun wo31 h3 h4 => ?_)
      have H3 := hd h3
      have H4 : Hid (Chg [b] w5 wo31) := hd ((CD.out.mono (by simp)).trans h4 (fun k hk => .inl hk))
      refine hK.out _ _ (hHeld.trans h4 (fun k hk => .inl (by rw [List.mem_singleton] at hk; simp [hk]))) (fun hHeld => ?_)
      clear hK K h3 h4
      try simp only [qq]
      have hz : ¬ 9223372036854775807 < atr.length + 2 := by omega
      refine tk 10 ?vo310 ?hyo310 ?rso310
      case hyo310 => (intro w9 hSw; go_simp; try with_reducible rfl)
      try simp only [qq]
      refine tk 11 ?vo311 ?hyo311 ?rso311
      case hyo311 => (intro w9 hSw; go_simp; try with_reducible rfl)
      try simp only [qq]
      refine wpAnyH_done (by kernel_rfl) ?_ _
      try simp only [qq]
      go_wp2_with fail
      go_meet
      exact ⟨by rw [show (⟨List.toArray atr⟩ : ByteArray) ++ ⟨List.toArray ([32, 60] : Bytes)⟩ = ⟨(atr ++ ([32, 60] : Bytes)).toArray⟩ from str2 _ _]; rfl, H3, H4⟩
    · skip
      have HOB : Hid (∀ k ∈ b :: v.ownBlock.toList, w0.heap.size ≤ k) := hd (HW5.out.ob HB0.out)
      refine wp_region_held_drew (S := fun W' => Chg (b :: v.ownBlock.toList) w5 W') (by kernel_rfl) (Chg.refl _ _).drew (fun hHeld => ?_)
      obtain ⟨wd, hwd⟩ : ∃ x, x = w5.drew := ⟨_, rfl⟩
      have CD : Hid (Chg [] w5 wd) := hd (by rw [hwd]; exact (Chg.refl _ _).drew)
      rw [← hwd] at hHeld ⊢
      clear hwd
      have HWwd := hd (HW5.out.quiet CD.out)
      refine tk 0 ?vo40 ?hyo40 ?rso40
      case hyo40 => (intro w9 hSw; go_simp; try with_reducible rfl)
      try simp only [qq]
      refine tk 1 ?vo41 ?hyo41 ?rso41
      case hyo41 => (intro w9 hSw; go_simp; try with_reducible rfl)
      try simp only [qq]
      refine tk 2 ?vo42 ?hyo42 ?rso42
      case hyo42 => (intro w9 hSw; go_simp; try with_reducible rfl)
      try simp only [qq]
      refine tk 3 ?vo43 ?hyo43 ?rso43
      case hyo43 => (intro w9 hSw; go_simp; try with_reducible rfl)
      try simp only [qq]
      refine tk 4 ?vo44 ?hyo44 ?rso44
      case hyo44 => (intro w9 hSw; have e0 := cell_quiet hSw (HG5.out.cell (i := 0) rfl) NHG.out; go_simp; try with_reducible rfl)
      try simp only [qq]
      refine tk 6 ?vo46 ?hyo46 ?rso46
      case hyo46 => (intro w9 hSw; go_simp; try with_reducible rfl)
      try simp only [qq]
      refine tk 7 ?vo47 ?hyo47 ?rso47
      case hyo47 => (intro w9 hSw; have e1 := cell_quiet hSw (HG5.out.cell (i := 1) rfl) NHG.out; go_simp; try with_reducible rfl)
      try simp only [qq]
      refine tk 8 ?vo48 ?hyo48 ?rso48
      case hyo48 => (intro w9 hSw; go_simp; try with_reducible rfl)
      try simp only [qq]
      refine tk 9 ?vo49 ?hyo49 ?rso49
      case hyo49 => (intro w9 hSw; have e4 := cell_quiet hSw (HD.out.cell (i := 4) rfl) NHD.out; go_simp; try with_reducible rfl)
      try simp only [qq]
      refine rd1 5 (fun K hK => ?_)
      go_simp
      refine name_r HWwd atr (fun wo41 h3 h4 => ?_)
      have H3 := hd h3
      have H4 : Hid (Chg [b] w5 wo41) := hd ((CD.out.mono (by simp)).trans h4 (fun k hk => .inl hk))
      refine hK.out _ _ (hHeld.trans h4 (fun k hk => .inl (by rw [List.mem_singleton] at hk; simp [hk]))) (fun hHeld => ?_)
      clear hK K h3 h4
      try simp only [qq]
      have hz : ¬ 9223372036854775807 < atr.length + 3 := by omega
      refine tk 10 ?vo410 ?hyo410 ?rso410
      case hyo410 => (intro w9 hSw; go_simp; try with_reducible rfl)
      try simp only [qq]
      refine tk 11 ?vo411 ?hyo411 ?rso411
      case hyo411 => (intro w9 hSw; go_simp; try with_reducible rfl)
      try simp only [qq]
      refine wpAnyH_done (by kernel_rfl) ?_ _
      try simp only [qq]
      go_wp2_with fail
      go_meet
      exact ⟨by rw [show (⟨List.toArray atr⟩ : ByteArray) ++ ⟨List.toArray ([32, 60, 61] : Bytes)⟩ = ⟨(atr ++ ([32, 60, 61] : Bytes)).toArray⟩ from str2 _ _]; rfl, H3, H4⟩
    · skip
      have HOB : Hid (∀ k ∈ b :: v.ownBlock.toList, w0.heap.size ≤ k) := hd (HW5.out.ob HB0.out)
      refine wp_region_held_drew (S := fun W' => Chg (b :: v.ownBlock.toList) w5 W') (by kernel_rfl) (Chg.refl _ _).drew (fun hHeld => ?_)
      obtain ⟨wd, hwd⟩ : ∃ x, x = w5.drew := ⟨_, rfl⟩
      have CD : Hid (Chg [] w5 wd) := hd (by rw [hwd]; exact (Chg.refl _ _).drew)
      rw [← hwd] at hHeld ⊢
      clear hwd
      have HWwd := hd (HW5.out.quiet CD.out)
      refine tk 0 ?vo50 ?hyo50 ?rso50
      case hyo50 => (intro w9 hSw; go_simp; try with_reducible rfl)
      try simp only [qq]
      refine tk 1 ?vo51 ?hyo51 ?rso51
      case hyo51 => (intro w9 hSw; go_simp; try with_reducible rfl)
      try simp only [qq]
      refine tk 2 ?vo52 ?hyo52 ?rso52
      case hyo52 => (intro w9 hSw; go_simp; try with_reducible rfl)
      try simp only [qq]
      refine tk 3 ?vo53 ?hyo53 ?rso53
      case hyo53 => (intro w9 hSw; go_simp; try with_reducible rfl)
      try simp only [qq]
      refine tk 4 ?vo54 ?hyo54 ?rso54
      case hyo54 => (intro w9 hSw; have e0 := cell_quiet hSw (HG5.out.cell (i := 0) rfl) NHG.out; go_simp; try with_reducible rfl)
      try simp only [qq]
      refine tk 6 ?vo56 ?hyo56 ?rso56
      case hyo56 => (intro w9 hSw; go_simp; try with_reducible rfl)
      try simp only [qq]
      refine tk 7 ?vo57 ?hyo57 ?rso57
      case hyo57 => (intro w9 hSw; have e1 := cell_quiet hSw (HG5.out.cell (i := 1) rfl) NHG.out; go_simp; try with_reducible rfl)
      try simp only [qq]
      refine tk 8 ?vo58 ?hyo58 ?rso58
      case hyo58 => (intro w9 hSw; go_simp; try with_reducible rfl)
      try simp only [qq]
      refine tk 9 ?vo59 ?hyo59 ?rso59
      case hyo59 => (intro w9 hSw; have e5 := cell_quiet hSw (HD.out.cell (i := 5) rfl) NHD.out; go_simp; try with_reducible rfl)
      try simp only [qq]
      refine rd1 5 (fun K hK => ?_)
      go_simp
      refine name_r HWwd atr (fun wo51 h3 h4 => ?_)
      have H3 := hd h3
      have H4 : Hid (Chg [b] w5 wo51) := hd ((CD.out.mono (by simp)).trans h4 (fun k hk => .inl hk))
      refine hK.out _ _ (hHeld.trans h4 (fun k hk => .inl (by rw [List.mem_singleton] at hk; simp [hk]))) (fun hHeld => ?_)
      clear hK K h3 h4
      try simp only [qq]
      have hz : ¬ 9223372036854775807 < atr.length + 2 := by omega
      refine tk 10 ?vo510 ?hyo510 ?rso510
      case hyo510 => (intro w9 hSw; go_simp; try with_reducible rfl)
      try simp only [qq]
      refine tk 11 ?vo511 ?hyo511 ?rso511
      case hyo511 => (intro w9 hSw; go_simp; try with_reducible rfl)
      try simp only [qq]
      refine wpAnyH_done (by kernel_rfl) ?_ _
      try simp only [qq]
      go_wp2_with fail
      go_meet
      exact ⟨by rw [show (⟨List.toArray atr⟩ : ByteArray) ++ ⟨List.toArray ([32, 62] : Bytes)⟩ = ⟨(atr ++ ([32, 62] : Bytes)).toArray⟩ from str2 _ _]; rfl, H3, H4⟩
    · skip
      have HOB : Hid (∀ k ∈ b :: v.ownBlock.toList, w0.heap.size ≤ k) := hd (HW5.out.ob HB0.out)
      refine wp_region_held_drew (S := fun W' => Chg (b :: v.ownBlock.toList) w5 W') (by kernel_rfl) (Chg.refl _ _).drew (fun hHeld => ?_)
      obtain ⟨wd, hwd⟩ : ∃ x, x = w5.drew := ⟨_, rfl⟩
      have CD : Hid (Chg [] w5 wd) := hd (by rw [hwd]; exact (Chg.refl _ _).drew)
      rw [← hwd] at hHeld ⊢
      clear hwd
      have HWwd := hd (HW5.out.quiet CD.out)
      refine tk 0 ?vo60 ?hyo60 ?rso60
      case hyo60 => (intro w9 hSw; go_simp; try with_reducible rfl)
      try simp only [qq]
      refine tk 1 ?vo61 ?hyo61 ?rso61
      case hyo61 => (intro w9 hSw; go_simp; try with_reducible rfl)
      try simp only [qq]
      refine tk 2 ?vo62 ?hyo62 ?rso62
      case hyo62 => (intro w9 hSw; go_simp; try with_reducible rfl)
      try simp only [qq]
      refine tk 3 ?vo63 ?hyo63 ?rso63
      case hyo63 => (intro w9 hSw; go_simp; try with_reducible rfl)
      try simp only [qq]
      refine tk 4 ?vo64 ?hyo64 ?rso64
      case hyo64 => (intro w9 hSw; have e0 := cell_quiet hSw (HG5.out.cell (i := 0) rfl) NHG.out; go_simp; try with_reducible rfl)
      try simp only [qq]
      refine tk 6 ?vo66 ?hyo66 ?rso66
      case hyo66 => (intro w9 hSw; go_simp; try with_reducible rfl)
      try simp only [qq]
      refine tk 7 ?vo67 ?hyo67 ?rso67
      case hyo67 => (intro w9 hSw; have e1 := cell_quiet hSw (HG5.out.cell (i := 1) rfl) NHG.out; go_simp; try with_reducible rfl)
      try simp only [qq]
      refine tk 8 ?vo68 ?hyo68 ?rso68
      case hyo68 => (intro w9 hSw; go_simp; try with_reducible rfl)
      try simp only [qq]
      refine tk 9 ?vo69 ?hyo69 ?rso69
      case hyo69 => (intro w9 hSw; have e6 := cell_quiet hSw (HD.out.cell (i := 6) rfl) NHD.out; go_simp; try with_reducible rfl)
      try simp only [qq]
      refine rd1 5 (fun K hK => ?_)
      go_simp
      refine name_r HWwd atr (fun wo61 h3 h4 => ?_)
      have H3 := hd h3
      have H4 : Hid (Chg [b] w5 wo61) := hd ((CD.out.mono (by simp)).trans h4 (fun k hk => .inl hk))
      refine hK.out _ _ (hHeld.trans h4 (fun k hk => .inl (by rw [List.mem_singleton] at hk; simp [hk]))) (fun hHeld => ?_)
      clear hK K h3 h4
      try simp only [qq]
      have hz : ¬ 9223372036854775807 < atr.length + 3 := by omega
      refine tk 10 ?vo610 ?hyo610 ?rso610
      case hyo610 => (intro w9 hSw; go_simp; try with_reducible rfl)
      try simp only [qq]
      refine tk 11 ?vo611 ?hyo611 ?rso611
      case hyo611 => (intro w9 hSw; go_simp; try with_reducible rfl)
      try simp only [qq]
      refine wpAnyH_done (by kernel_rfl) ?_ _
      try simp only [qq]
      go_wp2_with fail
      go_meet
      exact ⟨by rw [show (⟨List.toArray atr⟩ : ByteArray) ++ ⟨List.toArray ([32, 62, 61] : Bytes)⟩ = ⟨(atr ++ ([32, 62, 61] : Bytes)).toArray⟩ from str2 _ _]; rfl, H3, H4⟩
   case rest =>
    obtain ⟨h6, HWC, HCC⟩ := hcut
    subst h6
    have HCW : Hid (Chg [b] w5 wc) := HCC
    have HQC : Hid (Chg [] w0 wc) := hd (HQ5.out.since HCW.out HB0.out)
    have HGC := hd (HCW.out.blk HG5.out (by simp [NG]))
    have NHC := hd (HWC.out.nb HGC.out NG (by decide))
    have HRC : Hid (Wr b v w v wc) := hd (Wr.cell ((C4.out.mono (by simp)).trans ((C5.out.mono (by simp)).trans HCW.out (fun k hk => .inl hk)) (fun k hk => .inl hk)))
    clear HCC HCW HW HW4 HW5 HG HG5 HD NHG NHD HQ HQ4 HQ5 C4 C5
    obtain ⟨sa, hsa⟩ : ∃ z, z = atr ++ Pr.opW op := ⟨_, rfl⟩
    rw [← hsa]
    have gsa : sa.length ≤ 1010 := by rw [hsa, List.length_append]; have : (Pr.opW op).length ≤ 3 := (by unfold Pr.opW; (repeat' split) <;> simp); omega
    have HSA := hd hsa
    clear hsa q0 q6
    obtain ⟨bad1, hb1⟩ : ∃ z, z = (bad || !Pr.nameOk atr) := ⟨_, rfl⟩
    rw [← hb1] at HWC
    have HB1 := hd hb1
    clear hb1
    have g2 := HGC.out.cell (i := 2) rfl
    by_cases hnm : nm = []
    · skip
      subst hnm
      go_upto_region 7 with (fail)
      clear g2
      have HOB : Hid (∀ k ∈ b :: v.ownBlock.toList, w0.heap.size ≤ k) := hd (HWC.out.ob HB0.out)
      refine wp_region_held_drew (S := fun W' => Chg (b :: v.ownBlock.toList) wc W') (by kernel_rfl) (Chg.refl _ _).drew (fun hHeld => ?_)
      obtain ⟨wd, hwd⟩ : ∃ x, x = wc.drew := ⟨_, rfl⟩
      have CD : Hid (Chg [] wc wd) := hd (by rw [hwd]; exact (Chg.refl _ _).drew)
      rw [← hwd] at hHeld ⊢
      clear hwd
      have HWwd := hd (HWC.out.quiet CD.out)
      have HQB := HQC
      refine tk 0 ?vn0 ?hyn0 ?rsn0
      case hyn0 => (intro w9 hSw; go_simp; try with_reducible rfl)
      try simp only [qq]
      refine tk 1 ?vn1 ?hyn1 ?rsn1
      case hyn1 => (intro w9 hSw; go_simp; try with_reducible rfl)
      try simp only [qq]
      refine tk 2 ?vn2 ?hyn2 ?rsn2
      case hyn2 => (intro w9 hSw; go_simp; try with_reducible rfl)
      try simp only [qq]
      refine tk 3 ?vn3 ?hyn3 ?rsn3
      case hyn3 => (intro w9 hSw; go_simp; try with_reducible rfl)
      try simp only [qq]
      refine tk 4 ?vn4 ?hyn4 ?rsn4
      case hyn4 => (intro w9 hSw; go_simp; try with_reducible rfl)
      try simp only [qq]
      refine tk 5 ?vn5 ?hyn5 ?rsn5
      case hyn5 => (intro w9 hSw; have e3 := cell_quiet hSw (HGC.out.cell (i := 3) rfl) NHC.out; go_simp; try with_reducible rfl)
      try simp only [qq]
      refine rd1 6 (fun K hK => ?_)
      go_simp
      obtain ⟨wn1, hw⟩ : ∃ W, W = wd.alloc (.cells #[.int .i64 n] 3) := ⟨_, rfl⟩
      rw [← hw]
      obtain ⟨X1, hX⟩ : ∃ X, X = wd.heap.size := ⟨_, rfl⟩
      rw [← hX]
      have HX1 : Hid (Blk wn1 X1 [.int .i64 n] 3 ∧ X1 ≠ b) := hd ⟨by rw [hw, hX]; exact Blk.new wd [.int .i64 n] _, by have := HWwd.out.lt; omega⟩
      have Cw : Hid (Chg [] wd wn1) := hd (by rw [hw]; exact (Chg.refl _ _).alloc _)
      have HWwn1 := hd (HWwd.out.quiet Cw.out)
      refine hK.out _ _ (hHeld.trans Cw.out (by simp)) (fun hHeld => ?_)
      clear hK K hw hX
      try simp only [qq]
      clear Cw
      refine rd1 7 (fun K hK => ?_)
      go_simp
      refine numbers_r HL HB0 (hd ((HQB.out.trans hHeld (fun k hk => .inr (HOB.out k hk))))) HWwn1 [n] 1 ⟨rfl, by decide⟩ (by intro q hq; rw [List.mem_singleton] at hq; rw [hq]; exact HI1.out.2) HX1.out.1 HX1.out.2 (fun wn2 h3 h4 => ?_)
      have HWwn2 := hd h3
      refine hK.out _ _ (hHeld.trans h4 (fun k hk => .inl (by rw [List.mem_singleton] at hk; simp [hk]))) (fun hHeld => ?_)
      clear hK K h3 h4
      try simp only [qq]
      have gna : (Pr.nums [n]).length ≤ 22 := Pr.nums_len [n] (by intro q hq; rw [List.mem_singleton] at hq; rw [hq]; exact HI1.out.2)
      obtain ⟨na, h9⟩ : ∃ z, z = Pr.nums [n] := ⟨_, rfl⟩
      rw [← h9] at gna
      rw [← h9]
      have Hna := hd h9
      clear h9
      have hz : ¬ 9223372036854775807 < sa.length + na.length := by omega
      refine tk 8 ?vn8 ?hyn8 ?rsn8
      case hyn8 => (intro w9 hSw; go_simp; try with_reducible rfl)
      try simp only [qq]
      rw [show (⟨List.toArray sa⟩ : ByteArray) ++ ⟨List.toArray na⟩ = ⟨(sa ++ na).toArray⟩ from str2 _ _]
      obtain ⟨a1, h9⟩ : ∃ z, z = sa ++ na := ⟨_, rfl⟩
      rw [← h9]
      have ga1 : a1.length ≤ 1100 := by rw [h9, List.length_append]; show sa.length + na.length ≤ _; omega
      have Ha1 := hd h9
      clear h9 hz
      refine tk 9 ?vn9 ?hyn9 ?rsn9
      case hyn9 => (intro w9 hSw; go_simp; try with_reducible rfl)
      try simp only [qq]
      refine wpAnyH_done (by kernel_rfl) ?_ _
      try simp only [qq]
      have HH := hd hHeld
      clear hHeld
      go_wp2_with fail
      refine HRR.out wn2 a1 ?_ (HRC.out.trans ⟨HH.out.mono (fun k hk => hk), fun k hk => .inl hk⟩) (fun _ => by rw [Ha1.out, HSA.out, Hna.out]; simp [Pr.testS]) (by omega)
      have h9 := HWwn2.out
      rw [HB1.out] at h9
      rw [FOK.out]
      first | rw [if_pos rfl] | rw [if_pos trivial]
      rw [Bool.not_and, ← Bool.or_assoc]
      rw [show Pr.numOk n = Pr.numsOk [n] by simp [Pr.numsOk]]
      exact h9
    · skip
      have he : nm.isEmpty = false := by cases nm with | nil => exact absurd rfl hnm | cons a r => rfl
      have HNM := hd hnm
      clear hnm
      obtain ⟨ml, hml⟩ := (HL.out.quiet HQC.out).cut
      go_wp2_with fail
      refine (Tryz.strings_Cut ⟨nm.toArray⟩ ⟨#[46]⟩ ml wc (by rw [size_of9]; omega) hml).mono ?_
      rintro e wd ⟨rfl, k, hwd⟩
      have CD : Hid (Chg [] wc wd) := hd (by rw [hwd]; exact chg_drewN _ _)
      rw [show Lib.cut (⟨nm.toArray⟩ : ByteArray).data.toList (⟨#[46]⟩ : ByteArray).data.toList = _ from Pr.cut_lib nm]
      clear hwd hml he g2
      have HWD := hd (HWC.out.quiet CD.out)
      have HQD : Hid (Chg [] w0 wd) := hd (HQC.out.trans CD.out (by simp))
      have HGD := hd (CD.out.blk HGC.out (by simp))
      have HRD : Hid (Wr b v w v wd) := hd (HRC.out.trans (Wr.cell (CD.out.mono (by simp))))
      clear CD HWC HQC HGC NHC HRC
      obtain ⟨n1, hn1⟩ : ∃ z, z = (Pr.cut nm).1 := ⟨_, rfl⟩
      obtain ⟨o2, ho2⟩ : ∃ z, z = (Pr.cut nm).2 := ⟨_, rfl⟩
      rw [← hn1, ← ho2]
      have HN1 := hd hn1
      have HO2 := hd ho2
      clear hn1 ho2
      have HVAL : Hid (Pr.valueOk nm = (Pr.nameOk n1 && o2.all Pr.nameOk)) := hd (by unfold Pr.valueOk; rw [← HN1.out, ← HO2.out])
      cases o2 with
      | none =>
       go_wp2_with fail
       refine name_r HWD n1 (fun we h3 h4 => ?_)
       have HWwe := hd h3
       have HGwe := hd (h4.blk HGD.out (by simp [NG]))
       have HRwe : Hid (Wr b v w v we) := hd (HRD.out.trans (Wr.cell h4))
       clear h3 h4
       go_upto_region 12 with (fail)
       obtain ⟨q, hq⟩ : ∃ q, q = (bad1 || !Pr.nameOk n1) := ⟨_, rfl⟩
       rw [← hq] at HWwe
       have HQQ := hd hq
       clear hq
       have g2 := HGwe.out.cell (i := 2) rfl
       have g3 := HGwe.out.cell (i := 3) rfl
       have k3 := HWwe.out.c3.1
       have f3 := HWwe.out.c3.2
       have z1 : ¬ 9223372036854775807 < sa.length + 1 := by omega
       have z2 : ¬ 9223372036854775807 < sa.length + 1 + nm.length := by omega
       have FIN : Hid (∀ r : Bool, r = (q || !decide (n = 0)) → R (.returned (.string ⟨(sa ++ (32 :: nm)).toArray⟩)) (we.setCell ⟨b, 3, none⟩ (.bool r))) := hd (fun r hr => by
        refine HRR.out _ _ ?_ (HRwe.out.trans (Wr.cell ((Chg.refl _ _).setCell _ _ (.inl (by simp))))) (fun _ => by rw [HSA.out]; unfold Pr.testS; rw [if_neg HNM.out]) (by simp only [List.length_append, List.length_cons]; omega)
        rw [FOK.out, if_neg HNM.out, HVAL.out]
        have h9 := HWwe.out.set3 r (fun e => by rw [hr] at e; exact (Bool.or_eq_false_iff.1 e).1)
        have e9 : (bad || !(Pr.nameOk atr && (decide (n = 0) && (Pr.nameOk n1 && Option.all Pr.nameOk none)))) = r := by rw [hr, HQQ.out, HB1.out]; simp only [Option.all_none, Option.all_some, Bool.and_true]; cases bad <;> cases Pr.nameOk atr <;> cases decide (n = 0) <;> cases Pr.nameOk n1 <;> (try rfl) <;> (try (cases Pr.nameOk r2 <;> rfl))
        rw [e9]
        exact h9)
       cases q
       · by_cases hn : n = 0
         · subst hn
           go_wp2_with fail
           have h9 := FIN.out false (by simp)
           first | exact h9 | (rw [str2] ; exact h9) | (rw [show (⟨List.toArray sa⟩ : ByteArray) ++ ⟨#[32]⟩ = ⟨(sa ++ [32]).toArray⟩ from str2 sa [32], str2]; simpa using h9)
         · have e9 : (n != 0) = true := by simp [hn]
           go_wp2_with fail
           try rw [e9]
           have h9 := FIN.out true (by simp [hn])
           first | exact h9 | (rw [show (⟨List.toArray sa⟩ : ByteArray) ++ ⟨#[32]⟩ = ⟨(sa ++ [32]).toArray⟩ from str2 sa [32], str2]; simpa using h9)
       · go_wp2_with fail
         have h9 := FIN.out true (by simp)
         first | exact h9 | (rw [show (⟨List.toArray sa⟩ : ByteArray) ++ ⟨#[32]⟩ = ⟨(sa ++ [32]).toArray⟩ from str2 sa [32], str2]; simpa using h9)
      | some r2 =>
       go_wp2_with fail
       refine name_r HWD n1 (fun we h3 h4 => ?_)
       have HWwe := hd h3
       have HGwe := hd (h4.blk HGD.out (by simp [NG]))
       have HRwe : Hid (Wr b v w v we) := hd (HRD.out.trans (Wr.cell h4))
       clear h3 h4
       go_wp2_with fail
       refine name_r HWwe r2 (fun wf h3 h4 => ?_)
       have HWwf := hd h3
       have HGwf := hd (h4.blk HGwe.out (by simp [NG]))
       have HRwf : Hid (Wr b v w v wf) := hd (HRwe.out.trans (Wr.cell h4))
       clear h3 h4
       go_upto_region 12 with (fail)
       obtain ⟨q, hq⟩ : ∃ q, q = ((bad1 || !Pr.nameOk n1) || !Pr.nameOk r2) := ⟨_, rfl⟩
       rw [← hq] at HWwf
       have HQQ := hd hq
       clear hq
       have g2 := HGwf.out.cell (i := 2) rfl
       have g3 := HGwf.out.cell (i := 3) rfl
       have k3 := HWwf.out.c3.1
       have f3 := HWwf.out.c3.2
       have z1 : ¬ 9223372036854775807 < sa.length + 1 := by omega
       have z2 : ¬ 9223372036854775807 < sa.length + 1 + nm.length := by omega
       have FIN : Hid (∀ r : Bool, r = (q || !decide (n = 0)) → R (.returned (.string ⟨(sa ++ (32 :: nm)).toArray⟩)) (wf.setCell ⟨b, 3, none⟩ (.bool r))) := hd (fun r hr => by
        refine HRR.out _ _ ?_ (HRwf.out.trans (Wr.cell ((Chg.refl _ _).setCell _ _ (.inl (by simp))))) (fun _ => by rw [HSA.out]; unfold Pr.testS; rw [if_neg HNM.out]) (by simp only [List.length_append, List.length_cons]; omega)
        rw [FOK.out, if_neg HNM.out, HVAL.out]
        have h9 := HWwf.out.set3 r (fun e => by rw [hr] at e; exact (Bool.or_eq_false_iff.1 e).1)
        have e9 : (bad || !(Pr.nameOk atr && (decide (n = 0) && (Pr.nameOk n1 && Option.all Pr.nameOk (some r2))))) = r := by rw [hr, HQQ.out, HB1.out]; simp only [Option.all_none, Option.all_some, Bool.and_true]; cases bad <;> cases Pr.nameOk atr <;> cases decide (n = 0) <;> cases Pr.nameOk n1 <;> (try rfl) <;> (try (cases Pr.nameOk r2 <;> rfl))
        rw [e9]
        exact h9)
       cases q
       · by_cases hn : n = 0
         · subst hn
           go_wp2_with fail
           have h9 := FIN.out false (by simp)
           first | exact h9 | (rw [str2] ; exact h9) | (rw [show (⟨List.toArray sa⟩ : ByteArray) ++ ⟨#[32]⟩ = ⟨(sa ++ [32]).toArray⟩ from str2 sa [32], str2]; simpa using h9)
         · have e9 : (n != 0) = true := by simp [hn]
           go_wp2_with fail
           try rw [e9]
           have h9 := FIN.out true (by simp [hn])
           first | exact h9 | (rw [show (⟨List.toArray sa⟩ : ByteArray) ++ ⟨#[32]⟩ = ⟨(sa ++ [32]).toArray⟩ from str2 sa [32], str2]; simpa using h9)
       · go_wp2_with fail
         have h9 := FIN.out true (by simp)
         first | exact h9 | (rw [show (⟨List.toArray sa⟩ : ByteArray) ++ ⟨#[32]⟩ = ⟨(sa ++ [32]).toArray⟩ from str2 sa [32], str2]; simpa using h9)
 · have HF : Hid (Pr.testOk ⟨atr, op, nm, n, pos⟩ = false) := hd (by unfold Pr.testOk; rw [show (decide (1 ≤ op) && decide (op ≤ 6)) = false by rw [← Bool.decide_and, decide_eq_false hop]]; rfl)
   have k3 := HW4.out.c3.1
   have f3 := HW4.out.c3.2
   have FIN : Hid (R (.returned (.string ⟨#[]⟩)) (w4.setCell ⟨b, 3, none⟩ (.bool true))) := hd (HRR.out _ [] (by rw [HF.out, Bool.not_false, Bool.or_true]; exact HW4.out.set3 true (fun e => by cases e)) ((Wr.cell (C4.out.mono (by simp))).trans (Wr.cell ((Chg.refl _ _).setCell _ _ (.inl (by simp))))) (fun e => by rw [HF.out] at e; cases e) (by simp))
   by_cases h1 : op < 1
   · go_wp2_with fail
     exact FIN.out
   · have h2 : 6 < op := by omega
     clear hop
     go_wp2_with fail
     exact FIN.out
end Go.Proofs.YtgbooiaedbpenaaGreatDoor
