/-
  The reference disk of layer 43: contracts of Fail, count, Sync.
-/
import Derived.Test.YtnlgblcldbdnlaaRfB
import Derived.Test.YtnlgblcldbdnlaaLwH
import Derived.Deep.RegionLaw
namespace Go.Proofs.Ytnlgblcldbdnlaa
set_option linter.unusedVariables false
set_option linter.unusedSimpArgs false
open Go Go.RowKit
attribute [local irreducible] Go.wpStill

theorem str_join (x z : Bytes) (b : Nat) : (⟨x.toArray⟩ : ByteArray).extract 0 b ++ (⟨z.toArray⟩ : ByteArray).extract b z.length = ⟨(x.take b ++ z.drop b).toArray⟩ := by
  apply ByteArray.ext
  apply Array.ext'
  simp
  exact List.take_of_length_le (by simp)
theorem RfR.qform {w : World} {p gs cs ge ce : Nat} {qv : Value} {A W B : Int} {D : DK} (h : RfR w p gs cs ge ce qv A W B D) : ∃ ao cap, qv = .slice ao D.q.length cap := by
  rcases h.qcases with ⟨h0, h1⟩ | ⟨g, c, h0⟩
  · exact ⟨none, 0, by rw [h0, h1]; rfl⟩
  · exact ⟨_, c, h0⟩
theorem RfR.qcell {w : World} {p gs cs ge ce m cap : Nat} {ao : Option Addr} {A W B : Int} {D : DK} (h : RfR w p gs cs ge ce (.slice ao m cap) A W B D) (i : Nat) (x : Nat × Bytes) (hx : D.q[i]? = some x) :
    ∃ g, ao = some ⟨g, 0, none⟩ ∧ w.cell? ⟨g, i * 2, none⟩ = some (.int .i64 (x.1 : Int)) ∧ w.cell? ⟨g, i * 2 + 1, none⟩ = some (.string ⟨x.2.toArray⟩) := by
  have hr := h.hq
  rcases h.qcases with ⟨h0, h1⟩ | ⟨g, c, h0⟩
  · rw [h1] at hx; simp at hx
  · rw [h0] at hr
    simp only [Value.slice.injEq] at h0
    exact ⟨g, h0.1, rq_cell hr i x hx⟩

theorem rfail_off (w : World) (p : Nat) (x y : Int) (k3 : w.cell? ⟨p, 3, none⟩ = some (.bool false)) :
    Calls Try.prog 34 #[.pointer (some ⟨p,0,none⟩), .int .i64 x, .int .i64 y] w fun e w' => e = .returned (.tuple #[]) ∧ Chg [] w w' := by
  go_enter Try.func34, Try.ntmps34
  go_wp2_with fail
  exact bodyPost_ret (results_none rfl _ _ _) rfl ⟨rfl, Chg.refl _ _⟩
theorem RfR.down {w : World} {p gs cs ge ce : Nat} {qv : Value} {A W B : Int} {D : DK} (h : RfR w p gs cs ge ce qv A W B D) :
    RfR (((w.setCell ⟨p, 2, none⟩ (.slice none 0 0)).setCell ⟨p, 3, none⟩ (.bool false)).setCell ⟨p, 4, none⟩ (.bool false)) p gs cs ge ce (.slice none 0 0) A W B { D with q := [], off := true, arm := none } := by
  have hc : Chg [p] w (((w.setCell ⟨p, 2, none⟩ (.slice none 0 0)).setCell ⟨p, 3, none⟩ (.bool false)).setCell ⟨p, 4, none⟩ (.bool false)) := ((((Chg.refl _ _).setCell _ _ (.inl (by simp))).setCell _ _ (.inl (by simp))).setCell _ _ (.inl (by simp)))
  obtain ⟨d1, d2, d3, d4⟩ := h.nd
  have hp' : Blk (((w.setCell ⟨p, 2, none⟩ (.slice none 0 0)).setCell ⟨p, 3, none⟩ (.bool false)).setCell ⟨p, 4, none⟩ (.bool false)) p (rfCells gs cs ge ce D.n (.slice none 0 0) true false A W B) 64 := ((h.hp.set 2 _).set 3 _).set 4 _
  exact ⟨hp', h.hs.kept hc (by simp [Value.ownBlock]; exact fun e => d1 e.symm), h.he.kept hc (by simp [Value.ownBlock]; exact fun e => d2 e.symm), World.ownsRow_nil _ _ _ _, (fun a ha => by simp at ha), ⟨d1, d2, d3, by simp [Value.ownBlock]⟩,
    ⟨h.ok.n1, h.ok.n2, h.ok.st, h.ok.el, by simp, by simp⟩⟩

set_option maxHeartbeats 1000000 in
theorem rfail_on {w : World} {p gs cs ge ce m cap : Nat} {ao : Option Addr} {A W B : Int} {D : DK} (H : Hid (RfR w p gs cs ge ce (.slice ao m cap) A W B D)) (Hm : Hid (D.q.length = m)) (hoff : D.off = false) (hq : m ≤ 1000000) (x y : Int) :
    Calls Try.prog 34 #[.pointer (some ⟨p,0,none⟩), .int .i64 x, .int .i64 y] w fun e w' => e = .returned (.tuple #[]) ∧ Chg [p, gs, ge] w w' ∧ RfR w' p gs cs ge ce (.slice none 0 0) A W B (D.down x y) := by
  have h2 := H.out.hp.cell (i := 2) rfl
  have h3 : w.cell? ⟨p, 3, none⟩ = some (.bool true) := by have := H.out.hp.cell (i := 3) rfl; rw [hoff] at this; exact this
  obtain ⟨n, hn⟩ : ∃ n, n = D.cut x := ⟨_, rfl⟩
  have hle : n ≤ m := by rw [hn, ← Hm.out]; exact DK.cut_le D x
  have Hcn : Hid ((n : Int) = min (max x 0) m) := Lib.hid (by rw [hn, ← Hm.out]; unfold DK.cut; omega)
  have Hn := Lib.hid hn
  have HS := Lib.hid (rsettle_spec H n (by rw [Hm.out]; exact hle) (by rw [Hm.out]; exact hq))
  clear hn hoff
  go_enter Try.func34, Try.ntmps34
  go_upto_region 1 with fail
  go_cut [6] (fun s6 wx => wx = w ∧ s6 = .int .i64 (n : Int))
  case first =>
    go_wp2_with fail
    all_goals
      go_meet
      have := Hcn.out
      refine ⟨rfl, vint ?_⟩
      rename_i hb
      split at hb <;> omega
  case rest =>
    obtain ⟨rfl, rfl⟩ := hcut
    go_wp2_with fail
    refine HS.out.mono ?_
    rintro e w1 ⟨rfl, hc1, hD1⟩
    have k2 := hD1.hp.cell (i := 2) rfl
    have k3 := hD1.hp.cell (i := 3) rfl
    have k4 := hD1.hp.cell (i := 4) rfl
    have kf2 := hD1.hp.free 2
    have kf3 := hD1.hp.free 3
    have kf4 := hD1.hp.free 4
    have Hc1 := Lib.hid hc1
    have HD1 := Lib.hid hD1
    clear hc1 hD1
    by_cases hnm : n < m
    · obtain ⟨e, he⟩ : ∃ e, D.q[n]? = some e := ⟨D.q[n]'(by rw [Hm.out]; exact hnm), by simp [Hm.out, hnm]⟩
      obtain ⟨g, rfl, c0, c1⟩ := HD1.out.qcell n e (by rw [DK.settle_q]; exact he)
      have He := Lib.hid he
      clear he
      obtain ⟨k, hk⟩ : ∃ k, k = DK.torn y := ⟨_, rfl⟩
      have Hck : Hid ((k : Int) = min (max y 0) 64) := Lib.hid (by rw [hk]; unfold DK.torn; omega)
      have Hk := Lib.hid hk
      have hk64 : k ≤ 64 := by rw [hk]; exact DK.torn_le y
      clear hk
      go_upto_region 5 with fail
      go_cut [7, 8] (fun s7 s8 wx => ∃ b : Nat, s7 = .pointer (some ⟨b, 0, none⟩) ∧ s8 = .int .i64 (k : Int) ∧ wc.heap.size ≤ b ∧ Blk wx b [.int .i64 (e.1 : Int), .string ⟨e.2.toArray⟩] 73 ∧
        RfR wx p gs cs ge ce (.slice (some ⟨g, 0, none⟩) m cap) A W B (D.settle (D.q.take n)) ∧ Chg [gs, ge] wc wx)
      case first =>
        go_wp2_with fail
        all_goals
          go_meet
          have := Hck.out
          refine ⟨_, rfl, vint ?_, Hc1.out.size, Blk.new w1 _ _, HD1.out.kept ((Chg.refl [] w1).alloc _) (by simp), Hc1.out.alloc _⟩
          rename_i hb
          split at hb <;> omega
      case rest =>
        clear c0 c1 k2 k3 k4 kf2 kf3 kf4
        obtain ⟨b, rfl, rfl, hbn, hB, hD2, hC2⟩ := hcut
        have hx := H.out.ok.q e (List.mem_of_getElem? He.out)
        have Hex : Hid (e.1 < D.n ∧ e.2.length = 64) := Lib.hid hx
        obtain ⟨S, hS⟩ : ∃ S, S = D.settle (D.q.take n) := ⟨_, rfl⟩
        rw [← hS] at hD2
        have hSn : S.n = D.n := by rw [hS]; exact DK.settle_n _ _
        have hes : e.1 < S.n := by rw [hSn]; exact Hex.out.1
        have hx64 : (S.st e.1).length = 64 := hD2.ok.st e.1 hes
        have he64 : e.2.length = 64 := Hex.out.2
        have n2 := hD2.ok.n2
        have k0 := hD2.hp.cell (i := 0) rfl
        have k2 := hD2.hp.cell (i := 2) rfl
        have k3 := hD2.hp.cell (i := 3) rfl
        have k4 := hD2.hp.cell (i := 4) rfl
        have kf2 := hD2.hp.free 2
        have kf3 := hD2.hp.free 3
        have kf4 := hD2.hp.free 4
        have s0 := hD2.hs.cellOf e.1 hes
        have b0 := hB.cell (i := 0) rfl
        have b1 := hB.cell (i := 1) rfl
        have HB := Lib.hid hB
        have HD2 := Lib.hid hD2
        have HC2 := Lib.hid hC2
        have HSS := Lib.hid hS
        have hd : D.q.drop n = e :: D.q.drop (n + 1) := by
          rw [List.drop_eq_getElem_cons (by rw [Hm.out]; exact hnm)]
          congr 1
          have := He.out
          rw [List.getElem?_eq_getElem (by rw [Hm.out]; exact hnm)] at this
          simpa using this
        have HDd := Lib.hid hd
        clear hB hD2 hC2 hx HD1 Hc1 HS hS hd
        by_cases hk0 : 0 < k
        · obtain ⟨z, hz⟩ : ∃ z, z = S.st e.1 := ⟨_, rfl⟩
          obtain ⟨e1, e2⟩ := e
          simp only at *
          rw [← hz] at s0 hx64
          have HZ := Lib.hid hz
          have hkz : k ≤ z.length := by omega
          have hke : k ≤ e2.length := by omega
          have HX64 := Lib.hid hx64
          have HE64 := Lib.hid he64
          have hzm : ¬ 9223372036854775807 < z.length := by omega
          have hkl2 : (k : Int) ≤ (⟨e2.toArray⟩ : ByteArray).size := by rw [Lib.size_eq]; simpa using hke
          have hkl3 : (k : Int) ≤ (⟨z.toArray⟩ : ByteArray).size := by rw [Lib.size_eq]; simpa using hkz
          have hesD : e1 < D.n := Hex.out.1
          have n2D : D.n ≤ 4000 := H.out.ok.n2
          clear hz hx64 he64
          go_wp2_with fail
          refine wp_region_tail 18 (by kernel_rfl) (by kernel_rfl) (fun L hL => ?_)
          simp only [List.take_succ_cons, List.take_zero, List.drop_succ_cons, List.drop_zero] at hL ⊢
          repeat still_step
          refine wpStill_nil (hL _ ?_)
          clear hL L
          go_wp2_with fail
          rw [str_join]
          refine (rset_spec (Lib.hid (HD2.out.kept ((Chg.refl [] _).drew) (by simp))) e1 hes (e2.take k ++ z.drop k) (Lib.hid (by rw [List.length_append, List.length_take, List.length_drop, HX64.out, HE64.out, Nat.min_eq_left hk64]; omega))).mono ?_
          rintro e2' w2 ⟨rfl, hc3, hD3⟩
          clear k0 k2 k3 k4 kf2 kf3 kf4 b0 b1 s0
          have k2 := hD3.hp.cell (i := 2) rfl
          have k3 := hD3.hp.cell (i := 3) rfl
          have k4 := hD3.hp.cell (i := 4) rfl
          have kf2 := hD3.hp.free 2
          have kf3 := hD3.hp.free 3
          have kf4 := hD3.hp.free 4
          have HC3 : Hid (Chg [p, gs, ge] _ w2) := Lib.hid ((HC2.out.mono (by simp)).drew.trans hc3 (by simp))
          have HD3 := Lib.hid hD3
          clear hc3 hD3
          go_wp2_with fail
          refine bodyPost_end (results_none rfl _ _ _) rfl ⟨rfl, ?_, ?_⟩
          · refine Chg.setCell (Chg.setCell (Chg.setCell HC3.out _ _ (.inl (by simp))) _ _ (.inl (by simp))) _ _ (.inl (by simp))
          · have := HD3.out.down
            unfold DK.down
            rw [← Hn.out, HDd.out, DK.tear, ← Hk.out, if_pos hk0, ← HSS.out, DK.put_lay, ← HZ.out]
            rw [show (List.take k e2).length = k from by rw [List.length_take, Nat.min_eq_left hke]]
            exact this
        · go_wp2_with fail
          refine bodyPost_end (results_none rfl _ _ _) rfl ⟨rfl, ?_, ?_⟩
          · refine Chg.setCell (Chg.setCell (Chg.setCell (HC2.out.mono (by simp)) _ _ (.inl (by simp))) _ _ (.inl (by simp))) _ _ (.inl (by simp))
          · have := HD2.out.down
            unfold DK.down
            rw [← Hn.out, HDd.out, DK.tear, ← Hk.out, if_neg hk0, ← HSS.out]
            exact this
    · go_wp2_with fail
      refine bodyPost_end (results_none rfl _ _ _) rfl ⟨rfl, ?_, ?_⟩
      · refine Chg.setCell (Chg.setCell (Chg.setCell (Hc1.out.mono (by simp)) _ _ (.inl (by simp))) _ _ (.inl (by simp))) _ _ (.inl (by simp))
      · have := HD1.out.down
        unfold DK.down
        rw [← Hn.out, List.drop_of_length_le (by rw [Hm.out]; omega)]
        exact this
theorem rfail_spec {w : World} {own : List Nat} {p : Nat} {D : DK} (h : RfAt w own p D) (hq : D.q.length ≤ 1000000) (x y : Int) :
    Calls Try.prog 34 #[.pointer (some ⟨p,0,none⟩), .int .i64 x, .int .i64 y] w fun e w' => e = .returned (.tuple #[]) ∧ RfTo w own p (D.fail x y) w' := by
  have hA := h
  obtain ⟨gs, cs, ge, ce, qv, A, W, B, h, rfl⟩ := h
  by_cases hoff : D.off = true
  · refine (rfail_off w p x y (by have := h.hp.cell (i := 3) rfl; rw [hoff] at this; exact this)).mono ?_
    rintro e w' ⟨rfl, hc⟩
    rw [show D.fail x y = D from by unfold DK.fail; rw [if_pos hoff]]
    exact ⟨rfl, hA.to hc⟩
  · obtain ⟨ao, cap, rfl⟩ := h.qform
    refine (rfail_on (Lib.hid h) (Lib.hid rfl) (by simpa using hoff) hq x y).mono ?_
    rintro e w' ⟨rfl, hc, hD⟩
    rw [show D.fail x y = D.down x y from by unfold DK.fail; rw [if_neg hoff]]
    exact ⟨rfl, hD.to (hc.mono (fun k hk => by simp at hk; exact mem_rfOwn.2 (by rcases hk with h | h | h <;> simp [h]))) (by simp [Value.ownBlock])⟩

theorem rcount_none (w : World) (p : Nat) (k4 : w.cell? ⟨p, 4, none⟩ = some (.bool false)) : Calls Try.prog 44 #[.pointer (some ⟨p,0,none⟩)] w fun e w' => e = .returned (.int .i64 0) ∧ Chg [] w w' := by
  go_enter Try.func44, Try.ntmps44
  go_wp2_with fail
  go_ret
  exact ⟨rfl, Chg.refl _ _⟩
theorem rcount_pos (w : World) (p : Nat) (n : Int) (hn : 0 < n) (hn2 : n ≤ 9223372036854775807) (k4 : w.cell? ⟨p, 4, none⟩ = some (.bool true)) (k5 : w.cell? ⟨p, 5, none⟩ = some (.int .i64 n)) (f5 : w.frozen? ⟨p, 5, none⟩ = false) :
    Calls Try.prog 44 #[.pointer (some ⟨p,0,none⟩)] w fun e w' => e = .returned (.int .i64 0) ∧ w' = w.setCell ⟨p, 5, none⟩ (.int .i64 (n-1)) := by
  have hb : (n == 0) = false := by rw [beq_eq_false_iff_ne]; omega
  go_enter Try.func44, Try.ntmps44
  go_wp2_with fail
  go_ret
  exact ⟨rfl, rfl⟩
theorem rcount_zero {w : World} {own : List Nat} {p : Nat} {D : DK} {x y : Int} (H : Hid (RfAt w own p D)) (hq : D.q.length ≤ 1000000) (k4 : w.cell? ⟨p, 4, none⟩ = some (.bool true)) (k5 : w.cell? ⟨p, 5, none⟩ = some (.int .i64 0))
    (k6 : w.cell? ⟨p, 6, none⟩ = some (.int .i64 x)) (k7 : w.cell? ⟨p, 7, none⟩ = some (.int .i64 y)) :
    Calls Try.prog 44 #[.pointer (some ⟨p,0,none⟩)] w fun e w' => e = .returned (.int .i64 24) ∧ RfTo w own p (D.fail x y) w' := by
  go_enter Try.func44, Try.ntmps44
  go_wp2_with fail
  refine wp_region_tail 9 (by kernel_rfl) (by kernel_rfl) (fun L hL => ?_)
  simp only [List.take_succ_cons, List.take_zero, List.drop_succ_cons, List.drop_zero] at hL ⊢
  repeat still_step
  refine wpStill_nil (hL _ ?_)
  clear hL L
  go_wp2_with fail
  refine (rfail_spec (H.out.kept (Chg.refl [] w).drew (by simp)) hq x y).mono ?_
  rintro e w' ⟨rfl, hT⟩
  have HT : Hid _ := Lib.hid (RfTo.trans (Chg.refl own w).drew (fun k hk => .inl hk) hT)
  clear hT
  go_wp2_with fail
  go_ret
  exact ⟨rfl, HT.out⟩
theorem rcount_spec {w : World} {own : List Nat} {p : Nat} {D : DK} (h : RfAt w own p D) (hq : D.q.length ≤ 1000000) :
    Calls Try.prog 44 #[.pointer (some ⟨p,0,none⟩)] w fun e w' => e = .returned (.int .i64 D.count.1) ∧ RfTo w own p D.count.2 w' := by
  have hA := Lib.hid h
  obtain ⟨gs, cs, ge, ce, qv, A, W, B, h, rfl⟩ := h
  have k4 := h.hp.cell (i := 4) rfl
  cases ha : D.arm with
  | none =>
    rw [ha] at k4
    refine (rcount_none w p k4).mono ?_
    rintro e w' ⟨rfl, hc⟩
    rw [show D.count = (0, D) from by simp [DK.count, ha]]
    exact ⟨rfl, hA.out.to hc⟩
  | some t =>
    obtain ⟨a, x, y⟩ := t
    have hav := h.ha _ ha
    simp only [Prod.mk.injEq] at hav
    obtain ⟨rfl, rfl, rfl⟩ := hav
    rw [ha] at k4
    have hr := h.ok.arm a x y ha
    by_cases h0 : 0 < a
    · refine (rcount_pos w p a h0 hr.2 k4 (h.hp.cell (i := 5) rfl) (h.hp.free 5)).mono ?_
      rintro e w' ⟨rfl, rfl⟩
      rw [show D.count = (0, { D with arm := some (a - 1, x, y) }) from by simp [DK.count, ha, h0]]
      refine ⟨rfl, ?_⟩
      have hc : Chg [p] w (w.setCell ⟨p, 5, none⟩ (.int .i64 (a - 1))) := (Chg.refl _ _).setCell _ _ (.inl (by simp))
      obtain ⟨d1, d2, d3, d4⟩ := h.nd
      have hp' : Blk (w.setCell ⟨p, 5, none⟩ (.int .i64 (a - 1))) p (rfCells gs cs ge ce D.n qv D.off true (a - 1) x y) 64 := by
        have := h.hp.set 5 (.int .i64 (a - 1))
        rw [ha] at this
        exact this
      exact RfR.to (qv := qv) (A := a - 1) (W := x) (B := y) (D := { D with arm := some (a - 1, x, y) }) ⟨hp', h.hs.kept hc (by simp [Value.ownBlock]; exact fun e => d1 e.symm), h.he.kept hc (by simp [Value.ownBlock]; exact fun e => d2 e.symm), row_kept h.hq hc (fun k hk => by simpa using (d4 k hk).1), (fun a' ha' => by simp at ha'; exact ha'.symm), h.nd, ⟨h.ok.n1, h.ok.n2, h.ok.st, h.ok.el, h.ok.q, fun a' w' b' h' => by simp at h'; omega⟩⟩
        (hc.mono (fun k hk => by simp at hk; subst hk; exact mem_rfOwn.2 (.inl rfl))) (fun k hk => .inl hk)
    · have h0' : a = 0 := by omega
      subst h0'
      simp only [DK.count, ha, if_neg h0]
      exact rcount_zero hA hq k4 (h.hp.cell (i := 5) rfl) (h.hp.cell (i := 6) rfl) (h.hp.cell (i := 7) rfl)

theorem rsync_off (w : World) (p : Nat) (k3 : w.cell? ⟨p, 3, none⟩ = some (.bool false)) : Calls Try.prog 33 #[.pointer (some ⟨p, 0, none⟩)] w fun e w' => e = .returned (.int .i64 24) ∧ Chg [] w w' := by
  go_enter Try.func33, Try.ntmps33
  go_wp2_with fail
  go_ret
  exact ⟨rfl, Chg.refl _ _⟩
theorem count_code (D : DK) : D.count.1 = 0 ∨ D.count.1 = 24 := by
  unfold DK.count
  split
  · exact .inl rfl
  · split
    · exact .inl rfl
    · exact .inr rfl
theorem rsync_err {w : World} {own : List Nat} {p : Nat} {D : DK} (H : Hid (RfAt w own p D)) (k3 : w.cell? ⟨p, 3, none⟩ = some (.bool true)) (hq : D.q.length ≤ 1000000) (Hc : Hid (D.count.1 = 24)) :
    Calls Try.prog 33 #[.pointer (some ⟨p, 0, none⟩)] w fun e w' => e = .returned (.int .i64 24) ∧ RfTo w own p D.count.2 w' := by
  go_enter Try.func33, Try.ntmps33
  go_wp2_with fail
  refine (rcount_spec H.out hq).mono ?_
  rintro e w1 ⟨rfl, hT⟩
  rw [Hc.out]
  have HT := Lib.hid hT
  clear hT
  go_wp2_with fail
  go_ret
  exact ⟨rfl, HT.out⟩
theorem RfR.flushed {w : World} {p gs cs ge ce : Nat} {qv : Value} {A W B : Int} {D : DK} (h : RfR w p gs cs ge ce qv A W B D) :
    RfR (w.setCell ⟨p, 2, none⟩ (.slice none 0 0)) p gs cs ge ce (.slice none 0 0) A W B { D with q := [] } := by
  have hc : Chg [p] w (w.setCell ⟨p, 2, none⟩ (.slice none 0 0)) := (Chg.refl _ _).setCell _ _ (.inl (by simp))
  obtain ⟨d1, d2, d3, d4⟩ := h.nd
  have hp' : Blk (w.setCell ⟨p, 2, none⟩ (.slice none 0 0)) p (rfCells gs cs ge ce D.n (.slice none 0 0) D.off D.arm.isSome A W B) 64 := h.hp.set 2 _
  exact ⟨hp', h.hs.kept hc (by simp [Value.ownBlock]; exact fun e => d1 e.symm), h.he.kept hc (by simp [Value.ownBlock]; exact fun e => d2 e.symm), World.ownsRow_nil _ _ _ _, h.ha, ⟨d1, d2, d3, by simp [Value.ownBlock]⟩,
    ⟨h.ok.n1, h.ok.n2, h.ok.st, h.ok.el, by simp, h.ok.arm⟩⟩
theorem rsync_fine {w : World} {own : List Nat} {p : Nat} {D : DK} (H : Hid (RfAt w own p D)) (k3 : w.cell? ⟨p, 3, none⟩ = some (.bool true)) (hq : D.q.length ≤ 1000000) (Hc : Hid (D.count.1 = 0)) :
    Calls Try.prog 33 #[.pointer (some ⟨p, 0, none⟩)] w fun e w' => e = .returned (.int .i64 0) ∧ RfTo w own p D.count.2.flush w' := by
  have hql : D.count.2.q.length ≤ 1000000 := Nat.le_trans (DK.count_q D) hq
  go_enter Try.func33, Try.ntmps33
  go_wp2_with fail
  refine (rcount_spec H.out hq).mono ?_
  rintro e w1 ⟨rfl, hT⟩
  rw [Hc.out]
  obtain ⟨own1, hA1, hc1, hn1⟩ := hT
  obtain ⟨gs, cs, ge, ce, qv, A, W, B, h, rfl⟩ := hA1
  obtain ⟨E, hE⟩ : ∃ E, E = D.count.2 := ⟨_, rfl⟩
  rw [← hE] at h hql
  have HE := Lib.hid hE
  clear hE
  obtain ⟨ao, cap, rfl⟩ := h.qform
  have k2 := h.hp.cell (i := 2) rfl
  have HA1 := Lib.hid h
  have HC1 := Lib.hid hc1
  have HN1 := Lib.hid hn1
  clear h hc1 hn1
  go_wp2_with fail
  refine (rsettle_spec HA1 E.q.length (Nat.le_refl _) hql).mono ?_
  rintro e w2 ⟨rfl, hc2, hD2⟩
  rw [List.take_length] at hD2
  clear k2
  have k2 := hD2.hp.cell (i := 2) rfl
  have f2 := hD2.hp.free 2
  have HD2 := Lib.hid hD2
  have HC2 := Lib.hid hc2
  clear hD2 hc2
  go_wp2_with fail
  go_ret
  rw [← HE.out]
  refine ⟨rfl, RfTo.trans HC1.out HN1.out (RfR.to (D := E.flush) HD2.out.flushed ?_ (by simp [Value.ownBlock]))⟩
  refine (HC2.out.mono (fun k hk => ?_)).setCell _ _ (.inl (mem_rfOwn.2 (.inl rfl)))
  simp at hk
  exact mem_rfOwn.2 (by rcases hk with h | h <;> simp [h])
theorem rsync_spec {w : World} {own : List Nat} {p : Nat} {D : DK} (h : RfAt w own p D) (hq : D.q.length ≤ 1000000) :
    Calls Try.prog 33 #[.pointer (some ⟨p, 0, none⟩)] w fun e w' => e = .returned (.int .i64 D.sync.1) ∧ RfTo w own p D.sync.2 w' := by
  have hA := h
  obtain ⟨gs, cs, ge, ce, qv, A, W, B, h, rfl⟩ := h
  have k3 := h.hp.cell (i := 3) rfl
  by_cases hoff : D.off = true
  · rw [show D.sync = (24, D) from by unfold DK.sync; rw [if_pos hoff]]
    refine (rsync_off w p (by rw [hoff] at k3; exact k3)).mono ?_
    rintro e w' ⟨rfl, hc⟩
    exact ⟨rfl, hA.to hc⟩
  · have hoff' : D.off = false := by simpa using hoff
    rw [hoff'] at k3
    rcases count_code D with hc | hc
    · rw [show D.sync = (0, D.count.2.flush) from by unfold DK.sync; rw [if_neg hoff, if_neg (by rw [hc]; simp)]]
      exact rsync_fine (Lib.hid hA) k3 hq (Lib.hid hc)
    · rw [show D.sync = D.count from by unfold DK.sync; rw [if_neg hoff, if_pos (by rw [hc]; simp)]]
      rw [hc]
      exact rsync_err (Lib.hid hA) k3 hq (Lib.hid hc)
end Go.Proofs.Ytnlgblcldbdnlaa
