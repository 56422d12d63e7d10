/-
 Printer, layer 9: rectangles; what ends a text.
-/
import Derived.Test.YtgbooiaedbpenaaGreatDoorPrTk
import Derived.Test.YtgbooiaedbpenaaGreatDoorPrJ
namespace Go.Proofs.YtgbooiaedbpenaaGreatDoor
set_option linter.unusedVariables false
set_option linter.unusedSimpArgs false
open Go Go.RowKit Go.Shelf
attribute [local irreducible] Go.wpStill

theorem chg_drewN (w : World) (n : Nat) : Chg [] w (w.drewN n) := ⟨rfl, rfl, rfl, Nat.le_refl _, fun _ _ _ => rfl⟩
set_option maxHeartbeats 1000000 in
set_option maxRecDepth 100000 in
theorem box_r {T : TypeId} {w0 : World} (HL : Hid (Laid w0)) {b deep : Nat} (HB0 : Hid (w0.heap.size ≤ b)) {w : World} (HQ : Hid (Chg [] w0 w)) {bad : Bool} {out : Bytes} {v : Value} (HW : Hid (Wst T b deep bad out v w)) (x : Pr.Bx) (HI : Hid (Pr.I64 x.x ∧ Pr.I64 x.y ∧ Pr.I64 x.x2 ∧ Pr.I64 x.y2)) {R : Ending → World → Prop}
 (h : ∀ w', Wst T b deep (bad || !Pr.boxOk x) out v w' → Chg [b] w w' → R (.returned (.string ⟨(Pr.nums (Pr.boxN x)).toArray⟩)) w') :
 Calls Tryz.prog 62 #[.pointer (some ⟨b, 0, none⟩), .agg #[.int .i64 x.x, .int .i64 x.y, .int .i64 x.x2, .int .i64 x.y2]] w R := by
 have HR := hd h
 clear h
 go_enter Tryz.func62, Tryz.ntmps62
 go_upto_region 1 with (fail)
 obtain ⟨w1, hw⟩ : ∃ W, W = w.alloc (.cells #[.int .i64 x.x, .int .i64 x.y, .int .i64 x.x2, .int .i64 x.y2] 56) := ⟨_, rfl⟩
 rw [← hw]
 obtain ⟨M, hM⟩ : ∃ X, X = w.heap.size := ⟨_, rfl⟩
 rw [← hM]
 have HM : Hid (Blk w1 M [.int .i64 x.x, .int .i64 x.y, .int .i64 x.x2, .int .i64 x.y2] 56) := hd (by rw [hw, hM]; exact Blk.new w [.int .i64 x.x, .int .i64 x.y, .int .i64 x.x2, .int .i64 x.y2] _)
 have C1 : Hid (Chg [] w w1) := hd (by rw [hw]; exact (Chg.refl _ _).alloc _)
 have NM : M ≠ b := by have := HW.out.lt; omega
 clear hw hM
 refine wp_region_held_drew (S := fun W' => Chg [b] w1 W') (by kernel_rfl) (Chg.refl _ _).drew (fun hHeld => ?_)
 obtain ⟨wd, hwd⟩ : ∃ x, x = w1.drew := ⟨_, rfl⟩
 have CD : Hid (Chg [] w1 wd) := hd (by rw [hwd]; exact (Chg.refl _ _).drew)
 rw [← hwd] at hHeld ⊢
 clear hwd
 refine tk 0 ?va0 ?hya0 ?rsa0
 case hya0 => (intro w9 hSw; go_simp; try with_reducible rfl)
 try simp only [qq]
 refine tk 1 ?va1 ?hya1 ?rsa1
 case hya1 => (intro w9 hSw; go_simp; try with_reducible rfl)
 try simp only [qq]
 refine tk 2 ?va2 ?hya2 ?rsa2
 case hya2 => (intro w9 hSw; go_simp; try with_reducible rfl)
 try simp only [qq]
 refine tk 3 ?va3 ?hya3 ?rsa3
 case hya3 => (intro w9 hSw; go_simp; try with_reducible rfl)
 try simp only [qq]
 refine tk 4 ?va4 ?hya4 ?rsa4
 case hya4 => (intro w9 hSw; have e0 := cell_quiet hSw (HM.out.cell (i := 0) rfl) (by simp [NM]); go_simp; try with_reducible rfl)
 try simp only [qq]
 refine tk 5 ?va5 ?hya5 ?rsa5
 case hya5 => (intro w9 hSw; go_simp; try with_reducible rfl)
 try simp only [qq]
 refine tk 6 ?va6 ?hya6 ?rsa6
 case hya6 => (intro w9 hSw; have e1 := cell_quiet hSw (HM.out.cell (i := 1) rfl) (by simp [NM]); go_simp; try with_reducible rfl)
 try simp only [qq]
 refine tk 7 ?va7 ?hya7 ?rsa7
 case hya7 => (intro w9 hSw; go_simp; try with_reducible rfl)
 try simp only [qq]
 refine tk 8 ?va8 ?hya8 ?rsa8
 case hya8 => (intro w9 hSw; have e2 := cell_quiet hSw (HM.out.cell (i := 2) rfl) (by simp [NM]); go_simp; try with_reducible rfl)
 try simp only [qq]
 refine tk 9 ?va9 ?hya9 ?rsa9
 case hya9 => (intro w9 hSw; go_simp; try with_reducible rfl)
 try simp only [qq]
 refine tk 10 ?va10 ?hya10 ?rsa10
 case hya10 => (intro w9 hSw; have e3 := cell_quiet hSw (HM.out.cell (i := 3) rfl) (by simp [NM]); go_simp; try with_reducible rfl)
 try simp only [qq]
 refine rd1 11 (fun K hK => ?_)
 go_simp
 obtain ⟨w2, hw2⟩ : ∃ W, W = wd.alloc (.cells #[.int .i64 (x.x), .int .i64 (x.y), .int .i64 (x.x2), .int .i64 (x.y2)] 3) := ⟨_, rfl⟩
 rw [← hw2]
 obtain ⟨X, hX⟩ : ∃ X, X = wd.heap.size := ⟨_, rfl⟩
 rw [← hX]
 have HX : Hid (Blk w2 X [.int .i64 (x.x), .int .i64 (x.y), .int .i64 (x.x2), .int .i64 (x.y2)] 3) := hd (by rw [hw2, hX]; exact Blk.new wd [.int .i64 (x.x), .int .i64 (x.y), .int .i64 (x.x2), .int .i64 (x.y2)] _)
 have Cw2 : Hid (Chg [] wd w2) := hd (by rw [hw2]; exact (Chg.refl _ _).alloc _)
 have OX : Hid (wd.heap.size ≤ X) := hd (Nat.le_of_eq hX.symm)
 refine hK.out _ _ (hHeld.trans Cw2.out (by simp)) (fun hHeld => ?_)
 clear hK K hw2 hX
 try simp only [qq]
 have HW2 : Hid (Wst T b deep bad out v w2) := hd (HW.out.quiet ((C1.out.trans CD.out (by simp)).trans Cw2.out (by simp)))
 have HQ2 : Hid (Chg [] w0 w2) := hd (((HQ.out.trans C1.out (by simp)).trans CD.out (by simp)).trans Cw2.out (by simp))
 refine rd1 12 (fun K hK => ?_)
 go_simp
 refine numbers_r HL HB0 HQ2 HW2 (Pr.boxN x) 4 ⟨rfl, by decide⟩ (by have h := HI.out; intro k hk; simp only [Pr.boxN, List.mem_cons, List.not_mem_nil, or_false] at hk; rcases hk with rfl | rfl | rfl | rfl; exact h.1; exact h.2.1; exact h.2.2.1; exact h.2.2.2) HX.out (by have h1 := OX.out; have h2 := HW.out.lt; have h3 := C1.out.size; have h4 := CD.out.size; omega) (fun w3 h3 h4 => ?_)
 refine hK.out _ _ (hHeld.trans h4 (fun k hk => .inl hk)) (fun hHeld => ?_)
 clear hK K
 try simp only [qq]
 have H3 := hd h3
 have H4 : Hid (Chg [b] w w3) := hd ((((C1.out.trans CD.out (by simp)).trans Cw2.out (by simp)).mono (by simp)).trans h4 (fun k hk => .inl hk))
 clear h3 h4
 refine tk 13 ?va13 ?hya13 ?rsa13
 case hya13 => (intro w9 hSw; go_simp; try with_reducible rfl)
 try simp only [qq]
 refine wpAnyH_done (by kernel_rfl) ?_ _
 try simp only [qq]
 clear hHeld
 go_wp2_with fail
 exact HR.out w3 H3.out H4.out
end Go.Proofs.YtgbooiaedbpenaaGreatDoor
