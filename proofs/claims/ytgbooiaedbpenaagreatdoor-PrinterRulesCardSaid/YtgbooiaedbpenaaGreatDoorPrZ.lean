/-
 Printer, layer 14: ratios of rules.
-/
import Derived.Test.YtgbooiaedbpenaaGreatDoorPrTk
import Derived.Test.YtgbooiaedbpenaaGreatDoorPrP
namespace Go.Proofs.YtgbooiaedbpenaaGreatDoor
set_option linter.unusedVariables false
set_option linter.unusedSimpArgs false
open Go Go.RowKit Go.Shelf
attribute [local irreducible] Go.wpStill

theorem Wst.ne9 {T : TypeId} {b deep : Nat} {bad : Bool} {out : Bytes} {v : Value} {w : World} (h : Wst T b deep bad out v w) {X : Nat} {cs : List Value} {e : TypeId} (hb : Blk w X cs e) (he : e ≠ 5) : v.ownBlock ≠ some X := by
 obtain ⟨o, h1, _⟩ := h
 exact h1.ne hb he
theorem trim1 (n : Int) : Lib.trimPrefix (Pr.nums [n]) [32] = Lib.itoa n := by
 have e : Pr.nums [n] = 32 :: Lib.itoa n := by simp [Pr.nums]
 rw [e]
 simp [Lib.trimPrefix, Lib.hasPrefix]
set_option maxHeartbeats 4000000 in
set_option maxRecDepth 100000 in
theorem ratio_r {T : TypeId} {w0 : World} (HL : Hid (Laid w0)) {b deep : Nat} (HB0 : Hid (w0.heap.size ≤ b)) {w : World} (HQ : Hid (Chg [] w0 w)) {bad : Bool} {out : Bytes} {v : Value} (HW : Hid (Wst T b deep bad out v w)) (x : Int × Int) (HI : Hid (Pr.I64 x.1 ∧ Pr.I64 x.2)) {R : Ending → World → Prop}
 (h : ∀ w', Wst T b deep (bad || !Pr.ratioOk x) out v w' → Wr b v w v w' → R (.returned (.string ⟨(Pr.ratioS x).toArray⟩)) w') :
 Calls Tryz.prog 39 #[.pointer (some ⟨b, 0, none⟩), .agg #[.int .i64 x.1, .int .i64 x.2]] w R := by
 have HRR := hd h
 clear h
 go_enter Tryz.func39, Tryz.ntmps39
 go_upto_region 1 with (fail)
 obtain ⟨w4, hw4⟩ : ∃ W, W = w.alloc (.cells #[.int .i64 x.1, .int .i64 x.2] 69) := ⟨_, rfl⟩
 rw [← hw4]
 obtain ⟨G, hG⟩ : ∃ X, X = w.heap.size := ⟨_, rfl⟩
 rw [← hG]
 have HG : Hid (Blk w4 G [.int .i64 x.1, .int .i64 x.2] 69) := hd (by rw [hw4, hG]; exact Blk.new w [.int .i64 x.1, .int .i64 x.2] _)
 have C4 : Hid (Chg [] w w4) := hd (by rw [hw4]; exact (Chg.refl _ _).alloc _)
 have NG : G ≠ b := by have := HW.out.lt; omega
 obtain ⟨vj, hvj⟩ : ∃ z, z = v := ⟨_, rfl⟩
 have HWJ4 := hd (HW.out.quiet C4.out)
 rw [← hvj] at HWJ4
 have HVJ := hd hvj
 have HQB : Hid (Chg [] w0 w4) := hd (HQ.out.trans C4.out (by simp))
 have HOB : Hid (∀ k ∈ b :: vj.ownBlock.toList, w0.heap.size ≤ k) := hd (by intro k hk; have h1 := HB0.out; rcases List.mem_cons.1 hk with rfl | hk; exact h1; rw [Option.mem_toList] at hk; have := own_ge HWJ4.out k hk; omega)
 have NGO : G ∉ b :: vj.ownBlock.toList := by simp only [List.mem_cons, Option.mem_toList, not_or]; exact ⟨NG, HWJ4.out.ne9 HG.out (by decide)⟩
 have NGH := hd NGO
 clear hw4 hG NGO hvj
 refine wp_region_held_drew (S := fun W' => Chg (b :: vj.ownBlock.toList) w4 W') (by kernel_rfl) (Chg.refl _ _).drew (fun hHeld => ?_)
 obtain ⟨wd, hwd⟩ : ∃ x, x = w4.drew := ⟨_, rfl⟩
 have CD : Hid (Chg [] w4 wd) := hd (by rw [hwd]; exact (Chg.refl _ _).drew)
 rw [← hwd] at hHeld ⊢
 clear hwd
 have HWd := hd (HWJ4.out.quiet CD.out)
 refine tk 0 ?vr0 ?hyr0 ?rsr0
 case hyr0 => (intro w9 hSw; go_simp; try with_reducible rfl)
 try simp only [qq]
 refine tk 1 ?vr1 ?hyr1 ?rsr1
 case hyr1 => (intro w9 hSw; go_simp; try with_reducible rfl)
 try simp only [qq]
 refine tk 2 ?vr2 ?hyr2 ?rsr2
 case hyr2 => (intro w9 hSw; go_simp; try with_reducible rfl)
 try simp only [qq]
 refine tk 3 ?vr3 ?hyr3 ?rsr3
 case hyr3 => (intro w9 hSw; go_simp; try with_reducible rfl)
 try simp only [qq]
 refine tk 4 ?vr4 ?hyr4 ?rsr4
 case hyr4 => (intro w9 hSw; have e0 := cell_quiet hSw (HG.out.cell (i := 0) rfl) NGH.out; go_simp; try with_reducible rfl)
 try simp only [qq]
 refine tk 8 ?vr8 ?hyr8 ?rsr8
 case hyr8 => (intro w9 hSw; go_simp; try with_reducible rfl)
 try simp only [qq]
 refine tk 9 ?vr9 ?hyr9 ?rsr9
 case hyr9 => (intro w9 hSw; go_simp; try with_reducible rfl)
 try simp only [qq]
 refine tk 10 ?vr10 ?hyr10 ?rsr10
 case hyr10 => (intro w9 hSw; go_simp; try with_reducible rfl)
 try simp only [qq]
 refine tk 11 ?vr11 ?hyr11 ?rsr11
 case hyr11 => (intro w9 hSw; go_simp; try with_reducible rfl)
 try simp only [qq]
 refine tk 12 ?vr12 ?hyr12 ?rsr12
 case hyr12 => (intro w9 hSw; have e1 := cell_quiet hSw (HG.out.cell (i := 1) rfl) NGH.out; go_simp; try with_reducible rfl)
 try simp only [qq]
 refine rd2 5 13 (fun K hK => ?_) (fun K hK => ?_)
 · skip
   go_simp
   obtain ⟨wra1, hw⟩ : ∃ W, W = wd.alloc (.cells #[.int .i64 x.1] 3) := ⟨_, rfl⟩
   rw [← hw]
   obtain ⟨X1, hX⟩ : ∃ X, X = wd.heap.size := ⟨_, rfl⟩
   rw [← hX]
   have HX1 : Hid (Blk wra1 X1 [.int .i64 x.1] 3 ∧ X1 ≠ b) := hd ⟨by rw [hw, hX]; exact Blk.new wd [.int .i64 x.1] _, by have := HWd.out.lt; omega⟩
   have Cw : Hid (Chg [] wd wra1) := hd (by rw [hw]; exact (Chg.refl _ _).alloc _)
   have HWwra1 := hd (HWd.out.quiet Cw.out)
   refine hK.out _ _ (hHeld.trans Cw.out (by simp)) (fun hHeld => ?_)
   clear hK K hw hX
   try simp only [qq]
   clear Cw
   refine rd2 6 13 (fun K hK => ?_) (fun K hK => ?_)
   · skip
     go_simp
     refine numbers_r HL HB0 (hd ((HQB.out.trans hHeld (fun k hk => .inr (HOB.out k hk))))) HWwra1 [x.1] 1 ⟨rfl, by decide⟩ (by intro q hq; rw [List.mem_singleton] at hq; rw [hq]; exact HI.out.1) HX1.out.1 HX1.out.2 (fun wraa2 h3 h4 => ?_)
     have HWwraa2 := hd h3
     refine hK.out _ _ (hHeld.trans h4 (fun k hk => .inl (by rw [List.mem_singleton] at hk; simp [hk]))) (fun hHeld => ?_)
     clear hK K h3 h4
     try simp only [qq]
     have gna : (Pr.nums [x.1]).length ≤ 22 := Pr.nums_len [x.1] (by intro q hq; rw [List.mem_singleton] at hq; rw [hq]; exact HI.out.1)
     obtain ⟨na, h9⟩ : ∃ z, z = Pr.nums [x.1] := ⟨_, rfl⟩
     rw [← h9] at gna
     rw [← h9]
     have Hna := hd h9
     clear h9
     have hz : ¬ 9223372036854775807 < na.length + 1 := by omega
     refine tk 7 ?vraa7 ?hyraa7 ?rsraa7
     case hyraa7 => (intro w9 hSw; go_simp; try with_reducible rfl)
     try simp only [qq]
     rw [show (⟨List.toArray na⟩ : ByteArray) ++ ⟨List.toArray ([47] : Bytes)⟩ = ⟨(na ++ ([47] : Bytes)).toArray⟩ from str2 _ _]
     obtain ⟨a1, h9⟩ : ∃ z, z = na ++ ([47] : Bytes) := ⟨_, rfl⟩
     rw [← h9]
     have ga1 : a1.length ≤ 30 := by rw [h9, List.length_append]; show na.length + 1 ≤ _; omega
     have Ha1 := hd h9
     clear h9 hz
     refine rd1 13 (fun K hK => ?_)
     go_simp
     obtain ⟨wraa3, hw⟩ : ∃ W, W = wraa2.alloc (.cells #[.int .i64 x.2] 3) := ⟨_, rfl⟩
     rw [← hw]
     obtain ⟨X2, hX⟩ : ∃ X, X = wraa2.heap.size := ⟨_, rfl⟩
     rw [← hX]
     have HX2 : Hid (Blk wraa3 X2 [.int .i64 x.2] 3 ∧ X2 ≠ b) := hd ⟨by rw [hw, hX]; exact Blk.new wraa2 [.int .i64 x.2] _, by have := HWwraa2.out.lt; omega⟩
     have Cw : Hid (Chg [] wraa2 wraa3) := hd (by rw [hw]; exact (Chg.refl _ _).alloc _)
     have HWwraa3 := hd (HWwraa2.out.quiet Cw.out)
     refine hK.out _ _ (hHeld.trans Cw.out (by simp)) (fun hHeld => ?_)
     clear hK K hw hX
     try simp only [qq]
     clear Cw
     refine rd1 14 (fun K hK => ?_)
     go_simp
     refine numbers_r HL HB0 (hd ((HQB.out.trans hHeld (fun k hk => .inr (HOB.out k hk))))) HWwraa3 [x.2] 1 ⟨rfl, by decide⟩ (by intro q hq; rw [List.mem_singleton] at hq; rw [hq]; exact HI.out.2) HX2.out.1 HX2.out.2 (fun wraa4 h3 h4 => ?_)
     have HWwraa4 := hd h3
     refine hK.out _ _ (hHeld.trans h4 (fun k hk => .inl (by rw [List.mem_singleton] at hk; simp [hk]))) (fun hHeld => ?_)
     clear hK K h3 h4
     try simp only [qq]
     have gnb : (Pr.nums [x.2]).length ≤ 22 := Pr.nums_len [x.2] (by intro q hq; rw [List.mem_singleton] at hq; rw [hq]; exact HI.out.2)
     obtain ⟨nb, h9⟩ : ∃ z, z = Pr.nums [x.2] := ⟨_, rfl⟩
     rw [← h9] at gnb
     rw [← h9]
     have Hnb := hd h9
     clear h9
     refine rd1 15 (fun K hK => ?_)
     go_simp
     refine (Tryz.strings_TrimPrefix ⟨nb.toArray⟩ ⟨#[32]⟩ wraa4).mono ?_
     rintro e wraa5 ⟨rfl, hwe⟩
     have hwe := hwe.symm
     subst hwe
     rw [show Lib.trimPrefix (⟨nb.toArray⟩ : ByteArray).data.toList (⟨#[32]⟩ : ByteArray).data.toList = Lib.itoa x.2 from by show Lib.trimPrefix nb [32] = _; rw [Hnb.out]; exact trim1 x.2]
     refine hK.out _ _ hHeld (fun hHeld => ?_)
     clear hK K
     try simp only [qq]
     have git : (Lib.itoa x.2).length ≤ 21 := Pr.itoa_len x.2 HI.out.2
     obtain ⟨it, h9⟩ : ∃ z, z = Lib.itoa x.2 := ⟨_, rfl⟩
     rw [← h9] at git
     rw [← h9]
     have Hit := hd h9
     clear h9
     have hz : ¬ 9223372036854775807 < a1.length + it.length := by omega
     refine tk 16 ?vraa16 ?hyraa16 ?rsraa16
     case hyraa16 => (intro w9 hSw; go_simp; try with_reducible rfl)
     try simp only [qq]
     rw [show (⟨List.toArray a1⟩ : ByteArray) ++ ⟨List.toArray it⟩ = ⟨(a1 ++ it).toArray⟩ from str2 _ _]
     obtain ⟨a2, h9⟩ : ∃ z, z = a1 ++ it := ⟨_, rfl⟩
     rw [← h9]
     have ga2 : a2.length ≤ 60 := by rw [h9, List.length_append]; show a1.length + it.length ≤ _; omega
     have Ha2 := hd h9
     clear h9 hz
     refine tk 17 ?vraa17 ?hyraa17 ?rsraa17
     case hyraa17 => (intro w9 hSw; go_simp; try with_reducible rfl)
     try simp only [qq]
     refine wpAnyH_done (by kernel_rfl) ?_ _
     try simp only [qq]
     have HH := hd hHeld
     clear hHeld
     have HF : Hid (Wst T b deep (bad || !Pr.ratioOk x) out v wraa4) := hd (by have h9 := HWwraa4.out; rw [HVJ.out, Bool.or_assoc, ← Bool.not_and] at h9; rw [show Pr.ratioOk x = (Pr.numsOk [x.1] && Pr.numsOk [x.2]) by simp [Pr.ratioOk, Pr.numsOk]]; exact h9)
     have HR5 : Hid (Wr b v w v wraa4) := hd (by have h9 := HH.out; rw [HVJ.out] at h9; exact ⟨(C4.out.mono (by simp)).trans h9 (fun k hk => .inl hk), fun k hk => .inl hk⟩)
     have HS : Hid (a2 = Pr.ratioS x) := hd (by rw [Ha2.out, Ha1.out, Hna.out, Hit.out]; rfl)
     go_wp2_with fail
     rw [HS.out]
     exact HRR.out wraa4 HF.out HR5.out
   · skip
     go_simp
     obtain ⟨wrab2, hw⟩ : ∃ W, W = wra1.alloc (.cells #[.int .i64 x.2] 3) := ⟨_, rfl⟩
     rw [← hw]
     obtain ⟨X2, hX⟩ : ∃ X, X = wra1.heap.size := ⟨_, rfl⟩
     rw [← hX]
     have HX2 : Hid (Blk wrab2 X2 [.int .i64 x.2] 3 ∧ X2 ≠ b) := hd ⟨by rw [hw, hX]; exact Blk.new wra1 [.int .i64 x.2] _, by have := HWwra1.out.lt; omega⟩
     have Cw : Hid (Chg [] wra1 wrab2) := hd (by rw [hw]; exact (Chg.refl _ _).alloc _)
     have HWwrab2 := hd (HWwra1.out.quiet Cw.out)
     refine hK.out _ _ (hHeld.trans Cw.out (by simp)) (fun hHeld => ?_)
     clear hK K hw hX
     try simp only [qq]
     have HX1 := hd (And.intro (Cw.out.blk HX1.out.1 (by simp)) HX1.out.2)
     clear Cw
     refine rd1 6 (fun K hK => ?_)
     go_simp
     refine numbers_r HL HB0 (hd ((HQB.out.trans hHeld (fun k hk => .inr (HOB.out k hk))))) HWwrab2 [x.1] 1 ⟨rfl, by decide⟩ (by intro q hq; rw [List.mem_singleton] at hq; rw [hq]; exact HI.out.1) HX1.out.1 HX1.out.2 (fun wrab3 h3 h4 => ?_)
     have HX2 := hd (And.intro (h4.blk HX2.out.1 (by simp [HX2.out.2])) HX2.out.2)
     have HWwrab3 := hd h3
     refine hK.out _ _ (hHeld.trans h4 (fun k hk => .inl (by rw [List.mem_singleton] at hk; simp [hk]))) (fun hHeld => ?_)
     clear hK K h3 h4
     try simp only [qq]
     have gna : (Pr.nums [x.1]).length ≤ 22 := Pr.nums_len [x.1] (by intro q hq; rw [List.mem_singleton] at hq; rw [hq]; exact HI.out.1)
     obtain ⟨na, h9⟩ : ∃ z, z = Pr.nums [x.1] := ⟨_, rfl⟩
     rw [← h9] at gna
     rw [← h9]
     have Hna := hd h9
     clear h9
     have hz : ¬ 9223372036854775807 < na.length + 1 := by omega
     refine tk 7 ?vrab7 ?hyrab7 ?rsrab7
     case hyrab7 => (intro w9 hSw; go_simp; try with_reducible rfl)
     try simp only [qq]
     rw [show (⟨List.toArray na⟩ : ByteArray) ++ ⟨List.toArray ([47] : Bytes)⟩ = ⟨(na ++ ([47] : Bytes)).toArray⟩ from str2 _ _]
     obtain ⟨a1, h9⟩ : ∃ z, z = na ++ ([47] : Bytes) := ⟨_, rfl⟩
     rw [← h9]
     have ga1 : a1.length ≤ 30 := by rw [h9, List.length_append]; show na.length + 1 ≤ _; omega
     have Ha1 := hd h9
     clear h9 hz
     refine rd1 14 (fun K hK => ?_)
     go_simp
     refine numbers_r HL HB0 (hd ((HQB.out.trans hHeld (fun k hk => .inr (HOB.out k hk))))) HWwrab3 [x.2] 1 ⟨rfl, by decide⟩ (by intro q hq; rw [List.mem_singleton] at hq; rw [hq]; exact HI.out.2) HX2.out.1 HX2.out.2 (fun wrab4 h3 h4 => ?_)
     have HWwrab4 := hd h3
     refine hK.out _ _ (hHeld.trans h4 (fun k hk => .inl (by rw [List.mem_singleton] at hk; simp [hk]))) (fun hHeld => ?_)
     clear hK K h3 h4
     try simp only [qq]
     have gnb : (Pr.nums [x.2]).length ≤ 22 := Pr.nums_len [x.2] (by intro q hq; rw [List.mem_singleton] at hq; rw [hq]; exact HI.out.2)
     obtain ⟨nb, h9⟩ : ∃ z, z = Pr.nums [x.2] := ⟨_, rfl⟩
     rw [← h9] at gnb
     rw [← h9]
     have Hnb := hd h9
     clear h9
     refine rd1 15 (fun K hK => ?_)
     go_simp
     refine (Tryz.strings_TrimPrefix ⟨nb.toArray⟩ ⟨#[32]⟩ wrab4).mono ?_
     rintro e wrab5 ⟨rfl, hwe⟩
     have hwe := hwe.symm
     subst hwe
     rw [show Lib.trimPrefix (⟨nb.toArray⟩ : ByteArray).data.toList (⟨#[32]⟩ : ByteArray).data.toList = Lib.itoa x.2 from by show Lib.trimPrefix nb [32] = _; rw [Hnb.out]; exact trim1 x.2]
     refine hK.out _ _ hHeld (fun hHeld => ?_)
     clear hK K
     try simp only [qq]
     have git : (Lib.itoa x.2).length ≤ 21 := Pr.itoa_len x.2 HI.out.2
     obtain ⟨it, h9⟩ : ∃ z, z = Lib.itoa x.2 := ⟨_, rfl⟩
     rw [← h9] at git
     rw [← h9]
     have Hit := hd h9
     clear h9
     have hz : ¬ 9223372036854775807 < a1.length + it.length := by omega
     refine tk 16 ?vrab16 ?hyrab16 ?rsrab16
     case hyrab16 => (intro w9 hSw; go_simp; try with_reducible rfl)
     try simp only [qq]
     rw [show (⟨List.toArray a1⟩ : ByteArray) ++ ⟨List.toArray it⟩ = ⟨(a1 ++ it).toArray⟩ from str2 _ _]
     obtain ⟨a2, h9⟩ : ∃ z, z = a1 ++ it := ⟨_, rfl⟩
     rw [← h9]
     have ga2 : a2.length ≤ 60 := by rw [h9, List.length_append]; show a1.length + it.length ≤ _; omega
     have Ha2 := hd h9
     clear h9 hz
     refine tk 17 ?vrab17 ?hyrab17 ?rsrab17
     case hyrab17 => (intro w9 hSw; go_simp; try with_reducible rfl)
     try simp only [qq]
     refine wpAnyH_done (by kernel_rfl) ?_ _
     try simp only [qq]
     have HH := hd hHeld
     clear hHeld
     have HF : Hid (Wst T b deep (bad || !Pr.ratioOk x) out v wrab4) := hd (by have h9 := HWwrab4.out; rw [HVJ.out, Bool.or_assoc, ← Bool.not_and] at h9; rw [show Pr.ratioOk x = (Pr.numsOk [x.1] && Pr.numsOk [x.2]) by simp [Pr.ratioOk, Pr.numsOk]]; exact h9)
     have HR5 : Hid (Wr b v w v wrab4) := hd (by have h9 := HH.out; rw [HVJ.out] at h9; exact ⟨(C4.out.mono (by simp)).trans h9 (fun k hk => .inl hk), fun k hk => .inl hk⟩)
     have HS : Hid (a2 = Pr.ratioS x) := hd (by rw [Ha2.out, Ha1.out, Hna.out, Hit.out]; rfl)
     go_wp2_with fail
     rw [HS.out]
     exact HRR.out wrab4 HF.out HR5.out
 · skip
   go_simp
   obtain ⟨wrb1, hw⟩ : ∃ W, W = wd.alloc (.cells #[.int .i64 x.2] 3) := ⟨_, rfl⟩
   rw [← hw]
   obtain ⟨X2, hX⟩ : ∃ X, X = wd.heap.size := ⟨_, rfl⟩
   rw [← hX]
   have HX2 : Hid (Blk wrb1 X2 [.int .i64 x.2] 3 ∧ X2 ≠ b) := hd ⟨by rw [hw, hX]; exact Blk.new wd [.int .i64 x.2] _, by have := HWd.out.lt; omega⟩
   have Cw : Hid (Chg [] wd wrb1) := hd (by rw [hw]; exact (Chg.refl _ _).alloc _)
   have HWwrb1 := hd (HWd.out.quiet Cw.out)
   refine hK.out _ _ (hHeld.trans Cw.out (by simp)) (fun hHeld => ?_)
   clear hK K hw hX
   try simp only [qq]
   clear Cw
   refine rd1 5 (fun K hK => ?_)
   go_simp
   obtain ⟨wrb2, hw⟩ : ∃ W, W = wrb1.alloc (.cells #[.int .i64 x.1] 3) := ⟨_, rfl⟩
   rw [← hw]
   obtain ⟨X1, hX⟩ : ∃ X, X = wrb1.heap.size := ⟨_, rfl⟩
   rw [← hX]
   have HX1 : Hid (Blk wrb2 X1 [.int .i64 x.1] 3 ∧ X1 ≠ b) := hd ⟨by rw [hw, hX]; exact Blk.new wrb1 [.int .i64 x.1] _, by have := HWwrb1.out.lt; omega⟩
   have Cw : Hid (Chg [] wrb1 wrb2) := hd (by rw [hw]; exact (Chg.refl _ _).alloc _)
   have HWwrb2 := hd (HWwrb1.out.quiet Cw.out)
   refine hK.out _ _ (hHeld.trans Cw.out (by simp)) (fun hHeld => ?_)
   clear hK K hw hX
   try simp only [qq]
   have HX2 := hd (And.intro (Cw.out.blk HX2.out.1 (by simp)) HX2.out.2)
   clear Cw
   refine rd1 6 (fun K hK => ?_)
   go_simp
   refine numbers_r HL HB0 (hd ((HQB.out.trans hHeld (fun k hk => .inr (HOB.out k hk))))) HWwrb2 [x.1] 1 ⟨rfl, by decide⟩ (by intro q hq; rw [List.mem_singleton] at hq; rw [hq]; exact HI.out.1) HX1.out.1 HX1.out.2 (fun wrb3 h3 h4 => ?_)
   have HX2 := hd (And.intro (h4.blk HX2.out.1 (by simp [HX2.out.2])) HX2.out.2)
   have HWwrb3 := hd h3
   refine hK.out _ _ (hHeld.trans h4 (fun k hk => .inl (by rw [List.mem_singleton] at hk; simp [hk]))) (fun hHeld => ?_)
   clear hK K h3 h4
   try simp only [qq]
   have gna : (Pr.nums [x.1]).length ≤ 22 := Pr.nums_len [x.1] (by intro q hq; rw [List.mem_singleton] at hq; rw [hq]; exact HI.out.1)
   obtain ⟨na, h9⟩ : ∃ z, z = Pr.nums [x.1] := ⟨_, rfl⟩
   rw [← h9] at gna
   rw [← h9]
   have Hna := hd h9
   clear h9
   have hz : ¬ 9223372036854775807 < na.length + 1 := by omega
   refine tk 7 ?vrb7 ?hyrb7 ?rsrb7
   case hyrb7 => (intro w9 hSw; go_simp; try with_reducible rfl)
   try simp only [qq]
   rw [show (⟨List.toArray na⟩ : ByteArray) ++ ⟨List.toArray ([47] : Bytes)⟩ = ⟨(na ++ ([47] : Bytes)).toArray⟩ from str2 _ _]
   obtain ⟨a1, h9⟩ : ∃ z, z = na ++ ([47] : Bytes) := ⟨_, rfl⟩
   rw [← h9]
   have ga1 : a1.length ≤ 30 := by rw [h9, List.length_append]; show na.length + 1 ≤ _; omega
   have Ha1 := hd h9
   clear h9 hz
   refine rd1 14 (fun K hK => ?_)
   go_simp
   refine numbers_r HL HB0 (hd ((HQB.out.trans hHeld (fun k hk => .inr (HOB.out k hk))))) HWwrb3 [x.2] 1 ⟨rfl, by decide⟩ (by intro q hq; rw [List.mem_singleton] at hq; rw [hq]; exact HI.out.2) HX2.out.1 HX2.out.2 (fun wrb4 h3 h4 => ?_)
   have HWwrb4 := hd h3
   refine hK.out _ _ (hHeld.trans h4 (fun k hk => .inl (by rw [List.mem_singleton] at hk; simp [hk]))) (fun hHeld => ?_)
   clear hK K h3 h4
   try simp only [qq]
   have gnb : (Pr.nums [x.2]).length ≤ 22 := Pr.nums_len [x.2] (by intro q hq; rw [List.mem_singleton] at hq; rw [hq]; exact HI.out.2)
   obtain ⟨nb, h9⟩ : ∃ z, z = Pr.nums [x.2] := ⟨_, rfl⟩
   rw [← h9] at gnb
   rw [← h9]
   have Hnb := hd h9
   clear h9
   refine rd1 15 (fun K hK => ?_)
   go_simp
   refine (Tryz.strings_TrimPrefix ⟨nb.toArray⟩ ⟨#[32]⟩ wrb4).mono ?_
   rintro e wrb5 ⟨rfl, hwe⟩
   have hwe := hwe.symm
   subst hwe
   rw [show Lib.trimPrefix (⟨nb.toArray⟩ : ByteArray).data.toList (⟨#[32]⟩ : ByteArray).data.toList = Lib.itoa x.2 from by show Lib.trimPrefix nb [32] = _; rw [Hnb.out]; exact trim1 x.2]
   refine hK.out _ _ hHeld (fun hHeld => ?_)
   clear hK K
   try simp only [qq]
   have git : (Lib.itoa x.2).length ≤ 21 := Pr.itoa_len x.2 HI.out.2
   obtain ⟨it, h9⟩ : ∃ z, z = Lib.itoa x.2 := ⟨_, rfl⟩
   rw [← h9] at git
   rw [← h9]
   have Hit := hd h9
   clear h9
   have hz : ¬ 9223372036854775807 < a1.length + it.length := by omega
   refine tk 16 ?vrb16 ?hyrb16 ?rsrb16
   case hyrb16 => (intro w9 hSw; go_simp; try with_reducible rfl)
   try simp only [qq]
   rw [show (⟨List.toArray a1⟩ : ByteArray) ++ ⟨List.toArray it⟩ = ⟨(a1 ++ it).toArray⟩ from str2 _ _]
   obtain ⟨a2, h9⟩ : ∃ z, z = a1 ++ it := ⟨_, rfl⟩
   rw [← h9]
   have ga2 : a2.length ≤ 60 := by rw [h9, List.length_append]; show a1.length + it.length ≤ _; omega
   have Ha2 := hd h9
   clear h9 hz
   refine tk 17 ?vrb17 ?hyrb17 ?rsrb17
   case hyrb17 => (intro w9 hSw; go_simp; try with_reducible rfl)
   try simp only [qq]
   refine wpAnyH_done (by kernel_rfl) ?_ _
   try simp only [qq]
   have HH := hd hHeld
   clear hHeld
   have HF : Hid (Wst T b deep (bad || !Pr.ratioOk x) out v wrb4) := hd (by have h9 := HWwrb4.out; rw [HVJ.out, Bool.or_assoc, ← Bool.not_and] at h9; rw [show Pr.ratioOk x = (Pr.numsOk [x.1] && Pr.numsOk [x.2]) by simp [Pr.ratioOk, Pr.numsOk]]; exact h9)
   have HR5 : Hid (Wr b v w v wrb4) := hd (by have h9 := HH.out; rw [HVJ.out] at h9; exact ⟨(C4.out.mono (by simp)).trans h9 (fun k hk => .inl hk), fun k hk => .inl hk⟩)
   have HS : Hid (a2 = Pr.ratioS x) := hd (by rw [Ha2.out, Ha1.out, Hna.out, Hit.out]; rfl)
   go_wp2_with fail
   rw [HS.out]
   exact HRR.out wrb4 HF.out HR5.out
end Go.Proofs.YtgbooiaedbpenaaGreatDoor
