/-
  The law PrinterMatchesReference, walked.
-/
import Derived.Test.YtgbooiaedbpenaaDoorPrHd
import Derived.Test.YtgbooiaedbpenaaDoorPrIn
import Derived.Test.YtgbooiaedbpenaaDoorPrTi
import Derived.Test.YtgbooiaedbpenaaDoorPrTq
namespace Go.Proofs.YtgbooiaedbpenaaDoor
set_option linter.unusedVariables false
set_option linter.unusedSimpArgs false
open Go Go.RowKit Go.Shelf
attribute [local irreducible] Go.wpStill

set_option maxHeartbeats 4000000 in
set_option maxRecDepth 100000 in
theorem printerMatchesReference_walk (w : World) (HL : Hid (Laid w)) (h : Pr.Hl) (ao : Option Addr) (cap n : Nat) (HH : Hid (InH w h ao cap n)) (l : List Pr.Itm) (bo : Option Addr) (bc m : Nat) (HI : Hid (InR w l bo bc m)) :
    Calls Tryd.prog 3 #[.agg #[.string ⟨h.name.toArray⟩, .int .i64 h.sx, .int .i64 h.sy, .slice ao n cap], .agg #[.slice bo m bc]] w fun e w' => e = .returned (.bool true) ∧ Chg [] w w' := by
  suffices H : ∀ {R : Ending → World → Prop}, (∀ w', Chg [] w w' → R (.returned (.bool true)) w') → Calls Tryd.prog 3 #[.agg #[.string ⟨h.name.toArray⟩, .int .i64 h.sx, .int .i64 h.sy, .slice ao n cap], .agg #[.slice bo m bc]] w R from H (fun w' hc => ⟨rfl, hc⟩)
  intro R hR
  have HRR := hd hR
  clear hR
  go_enter Tryd.func3, Tryd.ntmps3
  go_upto_region 1 with (fail)
  obtain ⟨wa, hwa⟩ : ∃ W, W = w.alloc (.cells #[.string ⟨h.name.toArray⟩, .int .i64 h.sx, .int .i64 h.sy, .slice ao n cap] 26) := ⟨_, rfl⟩
  rw [← hwa]
  obtain ⟨w1, hw1⟩ : ∃ W, W = wa.alloc (.cells #[.slice bo m bc] 29) := ⟨_, rfl⟩
  rw [← hw1]
  obtain ⟨B, hB⟩ : ∃ X, X = w.heap.size + 1 := ⟨_, rfl⟩
  rw [← hB]
  obtain ⟨G, hG⟩ : ∃ X, X = w.heap.size := ⟨_, rfl⟩
  rw [← hG]
  have HG : Hid (Blk w1 G [.string ⟨h.name.toArray⟩, .int .i64 h.sx, .int .i64 h.sy, .slice ao n cap] 26) := hd (by rw [hw1, hwa, hG]; exact (Blk.new w [.string ⟨h.name.toArray⟩, .int .i64 h.sx, .int .i64 h.sy, .slice ao n cap] _).alloc _)
  have HB : Hid (Blk w1 B [.slice bo m bc] 29) := hd (by
    have h9 := Blk.new wa [.slice bo m bc] 29
    rw [show wa.heap.size = B by rw [hwa, hB]; simp] at h9
    rw [hw1]
    exact h9)
  have C1 : Hid (Chg [] w w1) := hd (by rw [hw1, hwa]; exact ((Chg.refl _ _).alloc _).alloc _)
  clear hwa hw1 hB hG
  go_wp2_with fail
  refine head_r (hd (HL.out.quiet C1.out)) (fun w2 h2 => ?_)
  have C2 : Hid (Chg [] w1 w2) := hd h2
  clear h2
  have g0 := (C2.out.blk HG.out (by simp)).cell (i := 0) rfl
  have g1 := (C2.out.blk HG.out (by simp)).cell (i := 1) rfl
  have g2 := (C2.out.blk HG.out (by simp)).cell (i := 2) rfl
  have g3 := (C2.out.blk HG.out (by simp)).cell (i := 3) rfl
  have H2 := HH.out.keep (C1.out.trans C2.out (by simp))
  go_wp2_with fail
  refine few_r h ao cap n (hd H2.hn) (hd H2.hm) H2.hr (fun w3 q h3 hq => ?_)
  have C3 : Hid (Chg [] w1 w3) := hd (C2.out.trans h3 (by simp))
  have HQ1 := hd hq
  clear h3 hq g0 g1 g2 g3 H2 C2
  cases q with
  | false =>
    go_wp2_with fail
    exact HRR.out w3 (C1.out.trans C3.out (by simp))
  | true =>
    have b0 := (C3.out.blk HB.out (by simp)).cell (i := 0) rfl
    have I3 := HI.out.keep (C1.out.trans C3.out (by simp))
    go_wp2_with fail
    refine fewRules_r l bo bc m (hd I3.hn) (hd I3.hm) I3.hr (fun w4 q h4 hq => ?_)
    have C4 : Hid (Chg [] w1 w4) := hd (C3.out.trans h4 (by simp))
    have HQ2 := hd hq
    clear h4 hq b0 I3 C3
    cases q with
    | false =>
      go_wp2_with fail
      exact HRR.out w4 (C1.out.trans C4.out (by simp))
    | true =>
      obtain ⟨t1, t2, t3⟩ := HQ1.out (by simp)
      obtain ⟨t4, t5⟩ := HQ2.out (by simp)
      have HT3 := hd t3
      have HT5 := hd t5
      clear t3 t5 HQ1 HQ2
      have g0 := (C4.out.blk HG.out (by simp)).cell (i := 0) rfl
      have g1 := (C4.out.blk HG.out (by simp)).cell (i := 1) rfl
      have g2 := (C4.out.blk HG.out (by simp)).cell (i := 2) rfl
      have g3 := (C4.out.blk HG.out (by simp)).cell (i := 3) rfl
      have H4 := HH.out.keep (C1.out.trans C4.out (by simp))
      have HL4 := hd (HL.out.quiet (C1.out.trans C4.out (by simp)))
      go_wp2_with fail
      refine hall_r HL4 h ao cap n (hd H4.hn) (hd H4.hm) (hd H4.hi) (by omega) (by omega) HT3 (fun w5 h5 => ?_)
      have C5 : Hid (Chg [] w1 w5) := hd (C4.out.trans h5 (by simp))
      clear h5 g0 g1 g2 g3 H4 C4
      obtain ⟨sa, hsa⟩ : ∃ z : ByteArray, z = ⟨(Pr.hall h).1.toArray⟩ := ⟨_, rfl⟩
      obtain ⟨z1, hz1⟩ : ∃ z : Nat, z = (Pr.hall h).2 := ⟨_, rfl⟩
      rw [← hsa, ← hz1]
      have HSA := hd hsa
      have HZ1 := hd hz1
      clear hsa hz1
      have g0 := (C5.out.blk HG.out (by simp)).cell (i := 0) rfl
      have g1 := (C5.out.blk HG.out (by simp)).cell (i := 1) rfl
      have g2 := (C5.out.blk HG.out (by simp)).cell (i := 2) rfl
      have g3 := (C5.out.blk HG.out (by simp)).cell (i := 3) rfl
      have H5 := HH.out.keep (C1.out.trans C5.out (by simp))
      go_wp2_with fail
      refine refHall_r h ao cap n (hd H5.hm) (by omega) HT3 (fun w6 h6 => ?_)
      have C6 : Hid (Chg [] w1 w6) := hd (C5.out.trans h6 (by simp))
      clear h6 g0 g1 g2 g3 H5 C5
      rw [Pr.refHall_eq, ← HSA.out, ← HZ1.out]
      have b0 := (C6.out.blk HB.out (by simp)).cell (i := 0) rfl
      have I6 := HI.out.keep (C1.out.trans C6.out (by simp))
      have HL6 := hd (HL.out.quiet (C1.out.trans C6.out (by simp)))
      go_wp2_with fail
      refine rules_r HL6 l bo bc m (hd I6.hn) (hd I6.hm) (by omega) HT5 (fun w7 h7 => ?_)
      have C7 : Hid (Chg [] w1 w7) := hd (C6.out.trans h7 (by simp))
      clear h7 b0 I6 C6
      obtain ⟨sr, hsr⟩ : ∃ z : ByteArray, z = ⟨(Pr.rules l).1.toArray⟩ := ⟨_, rfl⟩
      obtain ⟨z2, hz2⟩ : ∃ z : Nat, z = (Pr.rules l).2 := ⟨_, rfl⟩
      rw [← hsr, ← hz2]
      have HSR := hd hsr
      have HZ2 := hd hz2
      clear hsr hz2
      have b0 := (C7.out.blk HB.out (by simp)).cell (i := 0) rfl
      have I7 := HI.out.keep (C1.out.trans C7.out (by simp))
      go_wp2_with fail
      refine refRules_r l bo bc m (hd I7.hm) HT5 (fun w8 h8 => ?_)
      have C8 : Hid (Chg [] w1 w8) := hd (C7.out.trans h8 (by simp))
      clear h8 b0 I7 C7
      rw [Pr.refRules_eq, ← HSR.out, ← HZ2.out]
      have e3 : ((z1 : Int) == (z1 : Int)) = true := beq_self_eq_true _
      have e4 : ((z2 : Int) == (z2 : Int)) = true := beq_self_eq_true _
      go_wp2_with fail
      exact HRR.out w8 (C1.out.trans C8.out (by simp))
end Go.Proofs.YtgbooiaedbpenaaDoor
