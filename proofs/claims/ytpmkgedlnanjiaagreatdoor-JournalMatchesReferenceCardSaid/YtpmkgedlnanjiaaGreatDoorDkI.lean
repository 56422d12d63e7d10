/-
  Contracts of the disk: Read.
-/
import Derived.Test.YtpmkgedlnanjiaaGreatDoorDkD
import Derived.Deep.DeepCutAuto
import Derived.Deep.LoopGhost
namespace Go.Proofs.YtpmkgedlnanjiaaGreatDoor
set_option linter.unusedVariables false
set_option maxRecDepth 100000
set_option linter.unusedSimpArgs false
open Go Go.RowKit

theorem read_nil (w : World) (s : Int) : Calls Tryz.prog 31 #[.pointer none, .int .i64 s] w fun e w' => e = .returned (.tuple #[.string ⟨#[]⟩, .int .i64 1]) ∧ Chg [] w w' := by
  go_enter Tryz.func31, Tryz.ntmps31
  go_wp2_with fail
  refine (at_nil w s).mono ?_
  rintro e w1 ⟨rfl, hc⟩
  go_wp2_with fail
  go_ret2
  exact ⟨rfl, hc.alloc _⟩
theorem read_off (w : World) (p : Nat) (s : Int) (hp : p < w.heap.size) (h3 : w.cell? ⟨p, 3, none⟩ = some (.bool true)) :
    Calls Tryz.prog 31 #[.pointer (some ⟨p, 0, none⟩), .int .i64 s] w fun e w' => e = .returned (.tuple #[.string ⟨#[]⟩, .int .i64 24]) ∧ Chg [] w w' := by
  go_enter Tryz.func31, Tryz.ntmps31
  go_wp2_with fail
  refine (at_off w p s hp h3).mono ?_
  rintro e w1 ⟨rfl, hc⟩
  go_wp2_with fail
  go_ret2
  exact ⟨rfl, hc.alloc _⟩
theorem read_bad (w : World) (p bs n : Nat) (s : Int) (hp : p < w.heap.size) (hn : n ≤ 4000) (h0 : w.cell? ⟨p, 0, none⟩ = some (.slice (some ⟨bs, 0, none⟩) (n*64) (n*64))) (h3 : w.cell? ⟨p, 3, none⟩ = some (.bool false)) (hs : s < 0 ∨ n ≤ s) :
    Calls Tryz.prog 31 #[.pointer (some ⟨p, 0, none⟩), .int .i64 s] w fun e w' => e = .returned (.tuple #[.string ⟨#[]⟩, .int .i64 1]) ∧ Chg [] w w' := by
  go_enter Tryz.func31, Tryz.ntmps31
  go_wp2_with fail
  refine (at_bad w p bs n s hp hn h0 h3 hs).mono ?_
  rintro e w1 ⟨rfl, hc⟩
  go_wp2_with fail
  go_ret2
  exact ⟨rfl, hc.alloc _⟩

theorem last_take (l : List (Nat × Bytes)) (s k : Nat) (d : Bytes) (x : Nat × Bytes) (hx : l[k]? = some x) : DK.last (l.take (k + 1)) s d = if x.1 = s then x.2 else DK.last (l.take k) s d := by
  rw [List.take_add_one, hx, Option.toList_some, DK.last, List.foldl_append]
  rfl

theorem read_row {w : World} {p bs be g cap m s : Nat} {av : Value} {D : DK} (H : Hid (DkR w p bs be (.slice (some ⟨g, 0, none⟩) m cap) av D)) (Hm : Hid (D.q.length = m)) (hoff : D.off = false) (hm : m ≤ 1000000) (hs : s < D.n) :
    Calls Tryz.prog 31 #[.pointer (some ⟨p, 0, none⟩), .int .i64 (s : Int)] w fun e w' => e = .returned (.tuple #[.string ⟨(D.cur s).toArray⟩, .int .i64 0]) ∧ Chg [] w w' := by
  have h0 := H.out.hp.cell (i := 0) rfl
  have h3 : w.cell? ⟨p, 3, none⟩ = some (.bool false) := by have := H.out.hp.cell (i := 3) rfl; rw [hoff] at this; exact this
  have hp := H.out.hp.lt
  have n2 := H.out.ok.n2
  clear hoff
  go_enter Tryz.func31, Tryz.ntmps31
  go_wp2_with fail
  refine (at_ok w p bs D.n s hp n2 h0 h3 (by omega) (by omega)).mono ?_
  rintro e w1 ⟨rfl, hc⟩
  go_upto_region 4 with fail
  obtain ⟨w2, hw2⟩ : ∃ w2, w2 = w1.alloc (.cells #[.int .i64 ((s : Int) * 64), .int .i64 (((s : Int) + 1) * 64)] 87) := ⟨_, rfl⟩
  rw [← hw2]
  have hc2 : Chg [] w w2 := by rw [hw2]; exact hc.alloc _
  have hb : Blk w2 w1.heap.size [.int .i64 ((s : Int) * 64), .int .i64 (((s : Int) + 1) * 64)] 87 := by rw [hw2]; exact Blk.new w1 [.int .i64 ((s : Int) * 64), .int .i64 (((s : Int) + 1) * 64)] _
  generalize w1.heap.size = tb at *
  have hD2 := H.out.kept hc2 (by simp)
  have k0 := hD2.hp.cell (i := 0) rfl
  have k2 := hD2.hp.cell (i := 2) rfl
  have b0 := hb.cell (i := 0) rfl
  have b1 := hb.cell (i := 1) rfl
  have HC2 := Lib.hid hc2
  have HD2 := Lib.hid hD2
  have HB := Lib.hid hb
  have Hcells : Hid (∀ j v, (qcells D.q)[j]? = some v → w2.cell? ⟨g, j, none⟩ = some v) := Lib.hid (fun j v hv => by
    have hr := HD2.out.hq
    rw [Hm.out] at hr
    exact (hr.cellAt j (by have := (List.getElem?_eq_some_iff.1 hv).1; rw [qcells_length, Hm.out] at this; exact this)).trans hv)
  clear hc2 hD2 hw2 hc h0 h3 hp hb n2
  clear w1
  go_wp2_with fail
  go_loopw [8] (fun i wr => ∃ k : Nat, k ≤ m ∧ i = .int .i64 ((k : Int) - 1) ∧ Chg [] w2 wr ∧ DK.last D.q s (D.st s) = DK.last (D.q.take k) s (D.st s)) (fun i _ => (intOf i + 1).toNat)
  case atStart => exact ⟨m, Nat.le_refl _, rfl, Chg.refl _ _, by rw [List.take_of_length_le (by rw [Hm.out]; omega)]⟩
  case round =>
    obtain ⟨k, hk, rfl, hcr, hlast⟩ := hrel
    have HL := Lib.hid hlast
    clear hlast b0 b1 k0 k2
    have hD3 := HD2.out.kept hcr (by simp)
    have k0 := hD3.hp.cell (i := 0) rfl
    have k2 := hD3.hp.cell (i := 2) rfl
    have hB3 := hcr.blk HB.out (by simp)
    have b0 := hB3.cell (i := 0) rfl
    have b1 := hB3.cell (i := 1) rfl
    have HD3 := Lib.hid hD3
    have HCr := Lib.hid hcr
    have hgl : g < w2.heap.size := HD2.out.lt g (by simp [dkOwn, Value.ownBlock])
    clear hD3 hB3 hcr
    by_cases hk0 : 0 < k
    · obtain ⟨j, rfl⟩ : ∃ j, k = j + 1 := ⟨k - 1, by omega⟩
      obtain ⟨x, hx⟩ : ∃ x, D.q[j]? = some x := ⟨D.q[j]'(by rw [Hm.out]; omega), by simp⟩
      obtain ⟨q0, q1, q2⟩ := qcells_at D.q j x hx
      have c0 := (World.cell?_of_block (HCr.out.block g hgl (by simp))).trans (Hcells.out _ _ q0)
      have c2 := (World.cell?_of_block (HCr.out.block g hgl (by simp))).trans (Hcells.out _ _ q2)
      have HX := Lib.hid hx
      clear q0 q1 q2 hx
      rw [show (((j + 1 : Nat) : Int) - 1) = (j : Int) by omega]
      have hjm : (j : Int) < m := by omega
      by_cases hxs : x.1 = s
      · have hbt : (((x.1 : Int) * 64) == ((s : Int) * 64)) = true := by rw [hxs]; simp
        have Hxs := Lib.hid hxs
        clear hxs
        go_wp2_with fail
        refine wp_region_reads (by kernel_rfl) (by kernel_rfl) (fun L hL => ?_)
        repeat still_step
        refine wpStill_nil (hL _ ?_)
        clear hL L
        go_wp2_with fail
        go_ret2
        refine ⟨?_, ((HC2.out.trans HCr.out (by simp)).drew)⟩
        have e := HL.out
        rw [last_take _ _ _ _ _ HX.out, if_pos Hxs.out] at e
        unfold DK.cur
        rw [e]
        rfl
      · have hbf : (((x.1 : Int) * 64) == ((s : Int) * 64)) = false := by rw [beq_eq_false_iff_ne]; omega
        have Hxs := Lib.hid hxs
        clear hxs
        go_wp2_with fail
        refine wp_region_reads (by kernel_rfl) (by kernel_rfl) (fun L hL => ?_)
        repeat still_step
        refine wpStill_nil (hL _ ?_)
        clear hL L
        go_wp2_with fail
        go_roundw
        case rel =>
          refine ⟨j, by omega, by go_num, HCr.out.drew, ?_⟩
          have e := HL.out
          rw [last_take _ _ _ _ _ HX.out, if_neg Hxs.out] at e
          exact e
        case measure => simp [intOf] <;> omega
    · obtain rfl : k = 0 := by omega
      have hS := HD3.out.hs
      obtain ⟨S, hSb, hSl, hSs⟩ := hS
      obtain ⟨lo, hlo⟩ : ∃ lo, lo = s * 64 := ⟨_, rfl⟩
      obtain ⟨N, hN⟩ : ∃ N, N = D.n * 64 := ⟨_, rfl⟩
      obtain ⟨hi, hhi⟩ : ∃ hi, hi = s * 64 + 64 := ⟨_, rfl⟩
      have e1 : ((s : Int) * 64) = (lo : Int) := by omega
      have e2 : (((s : Int) + 1) * 64) = (hi : Int) := by omega
      rw [← hN] at k0
      rw [e1] at b0
      rw [e2] at b1
      have q1 : (lo : Int) ≤ hi := by omega
      have q2 : (hi : Int) ≤ N := by omega
      have q3 : ¬ N = lo := by omega
      have hst : (D.st s).length = 64 := HD3.out.ok.st s hs
      have hrun : (Conv.bytesToString (.slice (some ⟨bs, lo, none⟩) (hi - lo) (N - lo))).run Tryz.prog wr = .ok (.string ⟨(D.st s).toArray⟩) wr := run_bytes_of (l := D.st s) hSb (by omega) (fun j hj => by
        rw [List.getElem?_map, List.getElem?_map, ← hSs s hs, List.getElem?_take, if_pos (by omega), List.getElem?_drop, hlo])
      have hcv : (convert 56 9 (.slice (some ⟨bs, lo, none⟩) (hi - lo) (N - lo))).run Tryz.prog wr.drew = .ok (.string ⟨(D.st s).toArray⟩) wr.drew := by
        have hrun' : (Conv.bytesToString (.slice (some ⟨bs, lo, none⟩) (hi - lo) (N - lo))).run Tryz.prog wr.drew = .ok (.string ⟨(D.st s).toArray⟩) wr.drew := run_bytes_of (w := wr.drew) (l := D.st s) hSb (by omega) (fun j hj => by
          rw [List.getElem?_map, List.getElem?_map, ← hSs s hs, List.getElem?_take, if_pos (by omega), List.getElem?_drop, hlo])
        rw [run_convert_bytes_string _ _ _ 5 _ _ _ Tryz.underlying56 Tryz.underlying5 Tryz.underlying9]
        exact hrun'
      clear hrun hSb hSl hSs e1 e2 hlo hN hhi hst
      go_wp2_with fail
      refine wp_region_tail 10 (by kernel_rfl) (by kernel_rfl) (fun L hL => ?_)
      simp only [List.take_succ_cons, List.take_zero, List.drop_succ_cons, List.drop_zero] at hL ⊢
      repeat still_step
      refine wpStill_nil (hL _ ?_)
      clear hL L
      go_wp2_with fail
      go_ret2
      refine ⟨?_, ((HC2.out.trans HCr.out (by simp)).drew)⟩
      have e := HL.out
      rw [List.take_zero] at e
      unfold DK.cur
      rw [e]
      rfl

theorem read_nilq {w : World} {p bs be s : Nat} {av : Value} {D : DK} (H : Hid (DkR w p bs be (.slice none 0 0) av D)) (Hq : Hid (D.q = [])) (hoff : D.off = false) (hs : s < D.n) :
    Calls Tryz.prog 31 #[.pointer (some ⟨p, 0, none⟩), .int .i64 (s : Int)] w fun e w' => e = .returned (.tuple #[.string ⟨(D.cur s).toArray⟩, .int .i64 0]) ∧ Chg [] w w' := by
  have h0 := H.out.hp.cell (i := 0) rfl
  have h3 : w.cell? ⟨p, 3, none⟩ = some (.bool false) := by have := H.out.hp.cell (i := 3) rfl; rw [hoff] at this; exact this
  have hp := H.out.hp.lt
  have n2 := H.out.ok.n2
  clear hoff
  go_enter Tryz.func31, Tryz.ntmps31
  go_wp2_with fail
  refine (at_ok w p bs D.n s hp n2 h0 h3 (by omega) (by omega)).mono ?_
  rintro e w1 ⟨rfl, hc⟩
  go_upto_region 4 with fail
  obtain ⟨w2, hw2⟩ : ∃ w2, w2 = w1.alloc (.cells #[.int .i64 ((s : Int) * 64), .int .i64 (((s : Int) + 1) * 64)] 87) := ⟨_, rfl⟩
  rw [← hw2]
  have hc2 : Chg [] w w2 := by rw [hw2]; exact hc.alloc _
  have hb : Blk w2 w1.heap.size [.int .i64 ((s : Int) * 64), .int .i64 (((s : Int) + 1) * 64)] 87 := by rw [hw2]; exact Blk.new w1 [.int .i64 ((s : Int) * 64), .int .i64 (((s : Int) + 1) * 64)] _
  generalize w1.heap.size = tb at *
  have hD2 := H.out.kept hc2 (by simp)
  have k0 := hD2.hp.cell (i := 0) rfl
  have k2 := hD2.hp.cell (i := 2) rfl
  have b0 := hb.cell (i := 0) rfl
  have b1 := hb.cell (i := 1) rfl
  have HC2 := Lib.hid hc2
  have HD3 := Lib.hid hD2
  clear hc2 hD2 hw2 hc h0 h3 hp hb n2
  clear w1
  go_wp2_with fail
  go_loopw [8] (fun i wr => i = .int .i64 (-1) ∧ wr = w2) (fun _ _ => 0)
  case atStart => exact ⟨rfl, rfl⟩
  case round =>
    obtain ⟨rfl, rfl⟩ := hrel
    have hS := HD3.out.hs
    obtain ⟨S, hSb, hSl, hSs⟩ := hS
    obtain ⟨lo, hlo⟩ : ∃ lo, lo = s * 64 := ⟨_, rfl⟩
    obtain ⟨N, hN⟩ : ∃ N, N = D.n * 64 := ⟨_, rfl⟩
    obtain ⟨hi, hhi⟩ : ∃ hi, hi = s * 64 + 64 := ⟨_, rfl⟩
    have e1 : ((s : Int) * 64) = (lo : Int) := by omega
    have e2 : (((s : Int) + 1) * 64) = (hi : Int) := by omega
    rw [← hN] at k0
    rw [e1] at b0
    rw [e2] at b1
    have q1 : (lo : Int) ≤ hi := by omega
    have q2 : (hi : Int) ≤ N := by omega
    have q3 : ¬ N = lo := by omega
    have hst : (D.st s).length = 64 := HD3.out.ok.st s hs
    have hrun : (Conv.bytesToString (.slice (some ⟨bs, lo, none⟩) (hi - lo) (N - lo))).run Tryz.prog wr = .ok (.string ⟨(D.st s).toArray⟩) wr := run_bytes_of (l := D.st s) hSb (by omega) (fun j hj => by
      rw [List.getElem?_map, List.getElem?_map, ← hSs s hs, List.getElem?_take, if_pos (by omega), List.getElem?_drop, hlo])
    have hcv : (convert 56 9 (.slice (some ⟨bs, lo, none⟩) (hi - lo) (N - lo))).run Tryz.prog wr.drew = .ok (.string ⟨(D.st s).toArray⟩) wr.drew := by
      have hrun' : (Conv.bytesToString (.slice (some ⟨bs, lo, none⟩) (hi - lo) (N - lo))).run Tryz.prog wr.drew = .ok (.string ⟨(D.st s).toArray⟩) wr.drew := run_bytes_of (w := wr.drew) (l := D.st s) hSb (by omega) (fun j hj => by
        rw [List.getElem?_map, List.getElem?_map, ← hSs s hs, List.getElem?_take, if_pos (by omega), List.getElem?_drop, hlo])
      rw [run_convert_bytes_string _ _ _ 5 _ _ _ Tryz.underlying56 Tryz.underlying5 Tryz.underlying9]
      exact hrun'
    clear hrun hSb hSl hSs e1 e2 hlo hN hhi hst
    go_wp2_with fail
    refine wp_region_tail 10 (by kernel_rfl) (by kernel_rfl) (fun L hL => ?_)
    simp only [List.take_succ_cons, List.take_zero, List.drop_succ_cons, List.drop_zero] at hL ⊢
    repeat still_step
    refine wpStill_nil (hL _ ?_)
    clear hL L
    go_wp2_with fail
    go_ret2
    refine ⟨?_, HC2.out.drew⟩
    unfold DK.cur
    rw [Hq.out]
    rfl

theorem read_spec {w : World} {own : List Nat} {p : Nat} {D : DK} (h : DkAt w own p D) (hq : D.q.length ≤ 1000000) (s : Int) :
    Calls Tryz.prog 31 #[.pointer (some ⟨p, 0, none⟩), .int .i64 s] w fun e w' => e = .returned (.tuple #[.string ⟨(D.read s).1.toArray⟩, .int .i64 (D.read s).2]) ∧ Chg [] w w' := by
  obtain ⟨bs, be, qv, av, h, rfl⟩ := h
  have h0 := h.hp.cell (i := 0) rfl
  have h3 := h.hp.cell (i := 3) rfl
  have hp := h.hp.lt
  have n2 := h.ok.n2
  by_cases hoff : D.off = true
  · rw [show D.read s = ([], 24) from by simp [DK.read, hoff]]
    exact read_off w p s hp (by rw [← hoff]; exact h3)
  · have hoff' : D.off = false := by simpa using hoff
    by_cases hv : D.valid s = true
    · have hv' := hv
      simp only [DK.valid, decide_eq_true_eq] at hv'
      obtain ⟨k, rfl⟩ := Int.eq_ofNat_of_zero_le hv'.1
      rw [show D.read (k : Int) = (D.cur k, 0) from by unfold DK.read; rw [if_neg hoff, if_neg (by rw [hv]; simp)]; rfl]
      rcases h.qcases with ⟨rfl, h0⟩ | ⟨g, cap, rfl⟩
      · exact read_nilq (Lib.hid h) (Lib.hid h0) hoff' (by omega)
      · exact read_row (Lib.hid h) (Lib.hid rfl) hoff' hq (by omega)
    · have hv' : D.valid s = false := by simpa using hv
      rw [show D.read s = ([], 1) from by simp [DK.read, hoff', hv']]
      refine read_bad w p bs D.n s hp n2 h0 (by rw [← hoff']; exact h3) ?_
      simp only [DK.valid, decide_eq_false_iff_not] at hv'
      omega
end Go.Proofs.YtpmkgedlnanjiaaGreatDoor
