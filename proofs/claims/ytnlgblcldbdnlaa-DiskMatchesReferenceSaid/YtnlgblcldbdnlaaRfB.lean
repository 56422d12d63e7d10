/-
  The reference disk of layer 43: contracts of settle, Start, Arm, Fail, count.
-/
import Derived.Test.YtnlgblcldbdnlaaRfA
import Derived.Test.YtnlgblcldbdnlaaDkC
namespace Go.Proofs.Ytnlgblcldbdnlaa
set_option linter.unusedVariables false
set_option linter.unusedSimpArgs false
open Go Go.RowKit
attribute [local irreducible] Go.wpStill

theorem rq_cell {w : World} {g c : Nat} {l : List (Nat × Bytes)} (h : w.ownsRow 0 73 2 (.slice (some ⟨g, 0, none⟩) l.length c) l.length (rcells l)) (i : Nat) (x : Nat × Bytes) (hx : l[i]? = some x) :
    w.cell? ⟨g, i * 2, none⟩ = some (.int .i64 (x.1 : Int)) ∧ w.cell? ⟨g, i * 2 + 1, none⟩ = some (.string ⟨x.2.toArray⟩) := by
  obtain ⟨q0, q1⟩ := rcells_at l i x hx
  have hl := rcells_length l
  have hi := (List.getElem?_eq_some_iff.1 hx).1
  exact ⟨(h.cellAt (i * 2) (by omega)).trans q0, (h.cellAt (i * 2 + 1) (by omega)).trans q1⟩
theorem RfR.qcases {w : World} {p gs cs ge ce : Nat} {qv : Value} {A W B : Int} {D : DK} (h : RfR w p gs cs ge ce qv A W B D) : (qv = .slice none 0 0 ∧ D.q = []) ∨ ∃ g cap, qv = .slice (some ⟨g, 0, none⟩) D.q.length cap := by
  rcases h.hq.2 with ⟨h0, h1⟩ | ⟨g, c, cur, he, _⟩
  · exact .inl ⟨h0, List.eq_nil_of_length_eq_zero h1⟩
  · exact .inr ⟨g, c, he⟩

theorem rsettle_spec {w : World} {p gs cs ge ce : Nat} {qv : Value} {A W B : Int} {D : DK} (H : Hid (RfR w p gs cs ge ce qv A W B D)) (n : Nat) (hn : n ≤ D.q.length) (hq : D.q.length ≤ 1000000) :
    Calls Try.prog 45 #[.pointer (some ⟨p, 0, none⟩), .int .i64 (n : Int)] w fun e w' => e = .returned (.tuple #[]) ∧ Chg [gs, ge] w w' ∧ RfR w' p gs cs ge ce qv A W B (D.settle (D.q.take n)) := by
  go_enter Try.func45, Try.ntmps45
  go_wp2_with fail
  go_loopw [4] (fun i wr => ∃ k : Nat, k ≤ n ∧ i = .int .i64 k ∧ RfR wr p gs cs ge ce qv A W B (D.settle (D.q.take k)) ∧ Chg [gs, ge] w wr) (fun i _ => n - (intOf i).toNat)
  case atStart => exact ⟨0, Nat.zero_le _, rfl, by simpa [DK.settle] using H.out, Chg.refl _ _⟩
  case round =>
    obtain ⟨k, hk, rfl, hD, hC⟩ := hrel
    have HD := Lib.hid hD
    have HC := Lib.hid hC
    clear hD hC
    by_cases hlt : k < n
    · obtain ⟨x, hx⟩ : ∃ x, D.q[k]? = some x := ⟨D.q[k]'(by omega), by simp⟩
      have hqq : (D.settle (D.q.take k)).q = D.q := DK.settle_q _ _
      have hnn : (D.settle (D.q.take k)).n = D.n := DK.settle_n _ _
      obtain ⟨hx1, hx2⟩ := H.out.ok.q x (List.mem_of_getElem? hx)
      have Hst : Hid (((D.settle (D.q.take k)).st x.1).length = 64) := Lib.hid (HD.out.ok.st x.1 (by rw [hnn]; exact hx1))
      have Hs : Hid (D.settle (D.q.take (k + 1)) = (D.settle (D.q.take k)).put x.1 x.2) := Lib.hid (by
        rw [List.take_add_one, hx, Option.toList_some, DK.settle_snoc])
      rcases HD.out.qcases with ⟨hq0, hq1⟩ | ⟨g, cap, hq0⟩
      · rw [hqq] at hq1
        rw [hq1] at hx
        simp at hx
      · rw [hqq] at hq0
        subst hq0
        have hrow := HD.out.hq
        rw [hqq] at hrow
        obtain ⟨c0, c1⟩ := rq_cell hrow k x hx
        have p2 := HD.out.hp.cell (i := 2) rfl
        have Hx1 := Lib.hid hx1
        have Hx2 := Lib.hid hx2
        have Hnn := Lib.hid hnn
        have hkq : (k : Int) < (D.q.length : Int) := by omega
        clear hrow hx hqq hx1 hx2 hnn
        go_wp2_with fail
        refine wp_region_tail 17 (by kernel_rfl) (by kernel_rfl) (fun L hL => ?_)
        simp only [List.take_succ_cons, List.take_zero, List.drop_succ_cons, List.drop_zero] at hL ⊢
        repeat still_step
        refine wpStill_nil (hL _ ?_)
        clear hL L
        go_wp2_with fail
        refine (rset_spec (Lib.hid (HD.out.kept ((Chg.refl [] wr).drew) (by simp))) x.1 (by rw [Hnn.out]; exact Hx1.out) x.2 Hx2).mono ?_
        rintro e w1 ⟨rfl, hc1, hD1⟩
        rw [← DK.put_full _ _ _ Hst.out Hx2.out] at hD1
        have HD1 := Lib.hid hD1
        have HC1 : Hid (Chg [gs, ge] wr w1) := Lib.hid ((Chg.refl [gs, ge] wr).drew.trans hc1 (fun k hk => .inl hk))
        clear hD1 hc1
        go_wp2_with fail
        go_roundw
        case rel => exact ⟨k + 1, by omega, by go_num, by rw [Hs.out]; exact HD1.out, HC.out.trans HC1.out (fun k hk => .inl hk)⟩
        case measure => simp [intOf]; omega
    · have hkl : k = n := by omega
      have HK := Lib.hid hkl
      clear hkl
      go_wp2_with fail
      go_end0
      have := HD.out
      rw [HK.out] at this
      exact ⟨rfl, HC.out, this⟩

theorem rstart_calls (w : World) (p : Nat) (b c : Bool) (k3 : w.cell? ⟨p, 3, none⟩ = some (.bool b)) (k4 : w.cell? ⟨p, 4, none⟩ = some (.bool c)) (f3 : w.frozen? ⟨p, 3, none⟩ = false) (f4 : w.frozen? ⟨p, 4, none⟩ = false) :
    Calls Try.prog 35 #[.pointer (some ⟨p, 0, none⟩)] w fun e w' => e = .returned (.tuple #[]) ∧ w' = (w.setCell ⟨p, 3, none⟩ (.bool true)).setCell ⟨p, 4, none⟩ (.bool false) := by
  go_enter Try.func35, Try.ntmps35
  go_wp2_with fail
  exact bodyPost_end (results_none rfl _ _ _) rfl ⟨rfl, rfl⟩
theorem rstart_spec {w : World} {own : List Nat} {p : Nat} {D : DK} (h : RfAt w own p D) :
    Calls Try.prog 35 #[.pointer (some ⟨p, 0, none⟩)] w fun e w' => e = .returned (.tuple #[]) ∧ RfTo w own p D.start w' := by
  obtain ⟨gs, cs, ge, ce, qv, A, W, B, h, rfl⟩ := h
  refine (rstart_calls w p _ _ (h.hp.cell (i := 3) rfl) (h.hp.cell (i := 4) rfl) (h.hp.free 3) (h.hp.free 4)).mono ?_
  rintro e w' ⟨rfl, rfl⟩
  refine ⟨rfl, ?_⟩
  have hc : Chg [p] w ((w.setCell ⟨p, 3, none⟩ (.bool true)).setCell ⟨p, 4, none⟩ (.bool false)) := (((Chg.refl _ _).setCell _ _ (.inl (by simp))).setCell _ _ (.inl (by simp)))
  obtain ⟨d1, d2, d3, d4⟩ := h.nd
  have hp' : Blk ((w.setCell ⟨p, 3, none⟩ (.bool true)).setCell ⟨p, 4, none⟩ (.bool false)) p (rfCells gs cs ge ce D.n qv false false A W B) 64 := (h.hp.set 3 _).set 4 _
  exact RfR.to (qv := qv) (D := D.start) ⟨hp', h.hs.kept hc (by simp [Value.ownBlock]; exact fun e => d1 e.symm), h.he.kept hc (by simp [Value.ownBlock]; exact fun e => d2 e.symm), row_kept h.hq hc (fun k hk => by simpa using (d4 k hk).1), (fun a ha => by simp [DK.start] at ha), h.nd, DK.start_ok h.ok⟩
    (hc.mono (fun k hk => by simp at hk; subst hk; exact mem_rfOwn.2 (.inl rfl))) (fun k hk => .inl hk)

theorem rarm_off {w : World} {p : Nat} (a x y : Int) (k3 : w.cell? ⟨p, 3, none⟩ = some (.bool false)) :
    Calls Try.prog 36 #[.pointer (some ⟨p, 0, none⟩), .int .i64 a, .int .i64 x, .int .i64 y] w fun e w' => e = .returned (.tuple #[]) ∧ Chg [] w w' := by
  go_enter Try.func36, Try.ntmps36
  go_wp2_with fail
  exact bodyPost_ret (results_none rfl _ _ _) rfl ⟨rfl, Chg.refl _ _⟩
set_option maxHeartbeats 1000000 in
theorem rarm_on {w : World} {p gs cs ge ce : Nat} {qv : Value} {A W B : Int} {D : DK} (H : Hid (RfR w p gs cs ge ce qv A W B D)) (hoff : D.off = false) (a x y : Int) (hr : a ≤ 9223372036854775807) :
    Calls Try.prog 36 #[.pointer (some ⟨p, 0, none⟩), .int .i64 a, .int .i64 x, .int .i64 y] w fun e w' => e = .returned (.tuple #[]) ∧ RfTo w (rfOwn p gs ge qv) p (D.setArm a x y) w' := by
  have k3 : w.cell? ⟨p, 3, none⟩ = some (.bool true) := by have := H.out.hp.cell (i := 3) rfl; rw [hoff] at this; exact this
  have k4 := H.out.hp.cell (i := 4) rfl
  have k5 := H.out.hp.cell (i := 5) rfl
  have k6 := H.out.hp.cell (i := 6) rfl
  have k7 := H.out.hp.cell (i := 7) rfl
  have f4 := H.out.hp.free 4
  have f5 := H.out.hp.free 5
  have f6 := H.out.hp.free 6
  have f7 := H.out.hp.free 7
  have Hoff := Lib.hid hoff
  clear hoff
  by_cases ha : 0 ≤ a
  · have hD : Hid (D.setArm a x y = { D with arm := some (a, x, y) }) := Lib.hid (by unfold DK.setArm; rw [if_neg (by rw [Hoff.out]; simp), if_pos ha])
    have hok : Hid ((D.setArm a x y).Ok) := Lib.hid (DK.setArm_ok H.out.ok a x y hr)
    go_enter Try.func36, Try.ntmps36
    go_wp2_with fail
    go_end0
    refine ⟨rfl, ?_⟩
    obtain ⟨d1, d2, d3, d4⟩ := H.out.nd
    have hok := hok.out
    rw [hD.out] at hok ⊢
    have hc : Chg [p] w ((((w.setCell ⟨p, 4, none⟩ (.bool true)).setCell ⟨p, 5, none⟩ (.int .i64 a)).setCell ⟨p, 6, none⟩ (.int .i64 x)).setCell ⟨p, 7, none⟩ (.int .i64 y)) := (((((Chg.refl _ _).setCell _ _ (.inl (by simp))).setCell _ _ (.inl (by simp))).setCell _ _ (.inl (by simp))).setCell _ _ (.inl (by simp)))
    have hp' : Blk ((((w.setCell ⟨p, 4, none⟩ (.bool true)).setCell ⟨p, 5, none⟩ (.int .i64 a)).setCell ⟨p, 6, none⟩ (.int .i64 x)).setCell ⟨p, 7, none⟩ (.int .i64 y)) p (rfCells gs cs ge ce D.n qv D.off true a x y) 64 := (((H.out.hp.set 4 _).set 5 _).set 6 _).set 7 _
    exact RfR.to (qv := qv) (A := a) (W := x) (B := y) ⟨hp', H.out.hs.kept hc (by simp [Value.ownBlock]; exact fun e => d1 e.symm), H.out.he.kept hc (by simp [Value.ownBlock]; exact fun e => d2 e.symm), row_kept H.out.hq hc (fun k hk => by simpa using (d4 k hk).1), (fun a' ha' => by simp at ha'; exact ha'.symm), H.out.nd, hok⟩
      (hc.mono (fun k hk => by simp at hk; subst hk; exact mem_rfOwn.2 (.inl rfl))) (fun k hk => .inl hk)
  · have ha' : a < 0 := by omega
    have hD : Hid (D.setArm a x y = { D with arm := none }) := Lib.hid (by unfold DK.setArm; rw [if_neg (by rw [Hoff.out]; simp), if_neg ha])
    have hok : Hid ((D.setArm a x y).Ok) := Lib.hid (DK.setArm_ok H.out.ok a x y hr)
    have hd : decide (0 ≤ a) = false := decide_eq_false ha
    clear ha
    go_enter Try.func36, Try.ntmps36
    go_wp2_with fail
    go_end0
    refine ⟨rfl, ?_⟩
    obtain ⟨d1, d2, d3, d4⟩ := H.out.nd
    have hok := hok.out
    rw [hD.out] at hok ⊢
    have hc : Chg [p] w ((((w.setCell ⟨p, 4, none⟩ (.bool false)).setCell ⟨p, 5, none⟩ (.int .i64 a)).setCell ⟨p, 6, none⟩ (.int .i64 x)).setCell ⟨p, 7, none⟩ (.int .i64 y)) := (((((Chg.refl _ _).setCell _ _ (.inl (by simp))).setCell _ _ (.inl (by simp))).setCell _ _ (.inl (by simp))).setCell _ _ (.inl (by simp)))
    have hp' : Blk ((((w.setCell ⟨p, 4, none⟩ (.bool false)).setCell ⟨p, 5, none⟩ (.int .i64 a)).setCell ⟨p, 6, none⟩ (.int .i64 x)).setCell ⟨p, 7, none⟩ (.int .i64 y)) p (rfCells gs cs ge ce D.n qv D.off false a x y) 64 := (((H.out.hp.set 4 _).set 5 _).set 6 _).set 7 _
    exact RfR.to (qv := qv) (A := a) (W := x) (B := y) ⟨hp', H.out.hs.kept hc (by simp [Value.ownBlock]; exact fun e => d1 e.symm), H.out.he.kept hc (by simp [Value.ownBlock]; exact fun e => d2 e.symm), row_kept H.out.hq hc (fun k hk => by simpa using (d4 k hk).1), (fun a' ha' => by simp at ha'), H.out.nd, hok⟩
      (hc.mono (fun k hk => by simp at hk; subst hk; exact mem_rfOwn.2 (.inl rfl))) (fun k hk => .inl hk)
theorem rarm_spec {w : World} {own : List Nat} {p : Nat} {D : DK} (h : RfAt w own p D) (a x y : Int) (hr : a ≤ 9223372036854775807) :
    Calls Try.prog 36 #[.pointer (some ⟨p, 0, none⟩), .int .i64 a, .int .i64 x, .int .i64 y] w fun e w' => e = .returned (.tuple #[]) ∧ RfTo w own p (D.setArm a x y) w' := by
  have hA := h
  obtain ⟨gs, cs, ge, ce, qv, A, W, B, h, rfl⟩ := h
  by_cases hoff : D.off = true
  · refine (rarm_off a x y (by have := h.hp.cell (i := 3) rfl; rw [hoff] at this; exact this)).mono ?_
    rintro e w' ⟨rfl, hc⟩
    rw [show D.setArm a x y = D from by unfold DK.setArm; rw [if_pos hoff]]
    exact ⟨rfl, hA.to hc⟩
  · exact rarm_on (Lib.hid h) (by simpa using hoff) a x y hr
end Go.Proofs.Ytnlgblcldbdnlaa
