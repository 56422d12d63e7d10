/-
  Contracts of the disk: Start, Arm, Sync.
-/
import Derived.Test.YtpmkgedlnanjiaaGreatDoorDkD
namespace Go.Proofs.YtpmkgedlnanjiaaGreatDoor
set_option linter.unusedVariables false
set_option maxRecDepth 100000
set_option linter.unusedSimpArgs false
open Go Go.RowKit

theorem start_nil (w : World) : Calls Tryz.prog 22 #[.pointer none] w fun e w' => e = .returned (.tuple #[]) ∧ w = w' := by
  go_enter Tryz.func22, Tryz.ntmps22
  go_wp2_with fail
  refine bodyPost_end (results_none rfl _ _ _) rfl ⟨rfl, rfl⟩
theorem start_calls (w : World) (p : Nat) (b : Bool) (av : Value) (h3 : w.cell? ⟨p, 3, none⟩ = some (.bool b)) (h4 : w.cell? ⟨p, 4, none⟩ = some av) (hf : ∀ i, w.frozen? ⟨p, i, none⟩ = false) :
    Calls Tryz.prog 22 #[.pointer (some ⟨p, 0, none⟩)] w fun e w' => e = .returned (.tuple #[]) ∧ w' = (w.setCell ⟨p, 3, none⟩ (.bool false)).setCell ⟨p, 4, none⟩ (.pointer none) := by
  go_enter Tryz.func22, Tryz.ntmps22
  go_wp2_with fail
  refine bodyPost_end (results_none rfl _ _ _) rfl ⟨rfl, rfl⟩

/-- The own blocks of a disk without its alarm. -/
theorem own_noarm {p bs be : Nat} {qv av : Value} : ∀ k ∈ dkOwn p bs be qv (.pointer none), k ∈ dkOwn p bs be qv av := by
  intro k hk
  rcases mem_dkOwn.1 hk with h | h | h | h | h
  · exact mem_dkOwn.2 (.inl h)
  · exact mem_dkOwn.2 (.inr (.inl h))
  · exact mem_dkOwn.2 (.inr (.inr (.inl h)))
  · exact mem_dkOwn.2 (.inr (.inr (.inr (.inl h))))
  · simp [avBlk] at h
theorem nodup_noarm {p bs be : Nat} {qv av : Value} (h : (dkOwn p bs be qv av).Nodup) : (dkOwn p bs be qv (.pointer none)).Nodup := by
  have h2 : dkOwn p bs be qv (.pointer none) = [p, bs, be] ++ qv.ownBlock.toList := by simp [dkOwn, avBlk]
  rw [h2]
  unfold dkOwn at h
  exact (List.nodup_append.1 h).1

theorem start_spec {w : World} {own : List Nat} {p : Nat} {D : DK} (h : DkAt w own p D) :
    Calls Tryz.prog 22 #[.pointer (some ⟨p, 0, none⟩)] w fun e w' => e = .returned (.tuple #[]) ∧ DkTo w own p D.start w' := by
  obtain ⟨bs, be, qv, av, h, rfl⟩ := h
  refine (start_calls w p D.off av (h.hp.cell (i := 3) rfl) (h.hp.cell (i := 4) rfl) h.hp.free).mono ?_
  rintro e w' ⟨rfl, rfl⟩
  obtain ⟨d1, d2, d3, d4, d5, d6⟩ := h.nds
  have hc : Chg [p] w ((w.setCell ⟨p, 3, none⟩ (.bool false)).setCell ⟨p, 4, none⟩ (.pointer none)) := ((Chg.refl _ _).setCell _ _ (.inl (by simp))).setCell _ _ (.inl (by simp))
  exact ⟨rfl, dkOwn p bs be qv (.pointer none), ⟨bs, be, qv, _, ⟨(h.hp.set 3 _).set 4 _, h.hs.kept hc (by simp; omega), h.he.kept hc (by simp; omega), row_kept h.hq hc (fun k hk => by have := d4 k hk; simp; omega), rfl, nodup_noarm h.nd, DK.start_ok h.ok⟩, rfl⟩,
    hc.mono (fun k hk => by simp at hk; exact mem_dkOwn.2 (.inl hk)), fun k hk => .inl (own_noarm k hk)⟩

theorem arm_nil (w : World) (a x y : Int) : Calls Tryz.prog 24 #[.pointer none, .int .i64 a, .int .i64 x, .int .i64 y] w fun e w' => e = .returned (.tuple #[]) ∧ w = w' := by
  go_enter Tryz.func24, Tryz.ntmps24
  go_wp2_with fail
  refine bodyPost_ret (results_none rfl _ _ _) rfl ⟨rfl, rfl⟩
theorem arm_off (w : World) (p : Nat) (a x y : Int) (h3 : w.cell? ⟨p, 3, none⟩ = some (.bool true)) : Calls Tryz.prog 24 #[.pointer (some ⟨p, 0, none⟩), .int .i64 a, .int .i64 x, .int .i64 y] w fun e w' => e = .returned (.tuple #[]) ∧ w = w' := by
  go_enter Tryz.func24, Tryz.ntmps24
  go_wp2_with fail
  refine bodyPost_ret (results_none rfl _ _ _) rfl ⟨rfl, rfl⟩
theorem arm_neg (w : World) (p : Nat) (av : Value) (a x y : Int) (h3 : w.cell? ⟨p, 3, none⟩ = some (.bool false)) (h4 : w.cell? ⟨p, 4, none⟩ = some av) (hf : ∀ i, w.frozen? ⟨p, i, none⟩ = false) (ha : a < 0) :
    Calls Tryz.prog 24 #[.pointer (some ⟨p, 0, none⟩), .int .i64 a, .int .i64 x, .int .i64 y] w fun e w' => e = .returned (.tuple #[]) ∧ w' = w.setCell ⟨p, 4, none⟩ (.pointer none) := by
  go_enter Tryz.func24, Tryz.ntmps24
  go_wp2_with fail
  refine bodyPost_end (results_none rfl _ _ _) rfl ⟨rfl, rfl⟩
theorem arm_pos (w : World) (p : Nat) (av : Value) (a x y : Int) (hp : p < w.heap.size) (h3 : w.cell? ⟨p, 3, none⟩ = some (.bool false)) (h4 : w.cell? ⟨p, 4, none⟩ = some av) (hf : ∀ i, w.frozen? ⟨p, i, none⟩ = false) (ha : 0 ≤ a) :
    Calls Tryz.prog 24 #[.pointer (some ⟨p, 0, none⟩), .int .i64 a, .int .i64 x, .int .i64 y] w fun e w' => e = .returned (.tuple #[]) ∧
      w' = ((w.setCell ⟨p, 4, none⟩ (.pointer none)).setCell ⟨p, 4, none⟩ (.pointer (some ⟨w.heap.size, 0, none⟩))).alloc (.cells #[.int .i64 a, .int .i64 x, .int .i64 y] 95) := by
  go_enter Tryz.func24, Tryz.ntmps24
  go_wp2_with fail
  refine bodyPost_end (results_none rfl _ _ _) rfl ⟨rfl, rfl⟩

theorem arm_spec {w : World} {own : List Nat} {p : Nat} {D : DK} (h : DkAt w own p D) (a x y : Int) (hr : a ≤ 9223372036854775807) :
    Calls Tryz.prog 24 #[.pointer (some ⟨p, 0, none⟩), .int .i64 a, .int .i64 x, .int .i64 y] w fun e w' => e = .returned (.tuple #[]) ∧ DkTo w own p (D.setArm a x y) w' := by
  obtain ⟨bs, be, qv, av, h, rfl⟩ := h
  have h3 := h.hp.cell (i := 3) rfl
  have h4 := h.hp.cell (i := 4) rfl
  obtain ⟨d1, d2, d3, d4, d5, d6⟩ := h.nds
  have ok := DK.setArm_ok h.ok a x y hr
  by_cases hoff : D.off = true
  · rw [show D.setArm a x y = D from by simp [DK.setArm, hoff]]
    refine (arm_off w p a x y (by rw [← hoff]; exact h3)).mono ?_
    rintro e w' ⟨rfl, rfl⟩
    exact ⟨rfl, h.to (Chg.refl _ _)⟩
  · have hoff' : D.off = false := by simpa using hoff
    by_cases ha : a < 0
    · have e1 : D.setArm a x y = { D with arm := none } := by unfold DK.setArm; rw [if_neg hoff, if_neg (by omega)]
      rw [e1] at ok ⊢
      refine (arm_neg w p av a x y (by rw [← hoff']; exact h3) h4 h.hp.free ha).mono ?_
      rintro e w' ⟨rfl, rfl⟩
      have hc : Chg [p] w (w.setCell ⟨p, 4, none⟩ (.pointer none)) := (Chg.refl _ _).setCell _ _ (.inl (by simp))
      exact ⟨rfl, dkOwn p bs be qv (.pointer none), ⟨bs, be, qv, _, ⟨h.hp.set 4 _, h.hs.kept hc (by simp; omega), h.he.kept hc (by simp; omega), row_kept h.hq hc (fun k hk => by have := d4 k hk; simp; omega), rfl, nodup_noarm h.nd, ok⟩, rfl⟩,
        hc.mono (fun k hk => by simp at hk; exact mem_dkOwn.2 (.inl hk)), fun k hk => .inl (own_noarm k hk)⟩
    · have e1 : D.setArm a x y = { D with arm := some (a, x, y) } := by unfold DK.setArm; rw [if_neg hoff, if_pos (by omega)]
      rw [e1] at ok ⊢
      refine (arm_pos w p av a x y h.hp.lt (by rw [← hoff']; exact h3) h4 h.hp.free (by omega)).mono ?_
      rintro e w' ⟨rfl, rfl⟩
      have hc : Chg [p] w (((w.setCell ⟨p, 4, none⟩ (.pointer none)).setCell ⟨p, 4, none⟩ (.pointer (some ⟨w.heap.size, 0, none⟩))).alloc (.cells #[.int .i64 a, .int .i64 x, .int .i64 y] 95)) :=
        ((((Chg.refl _ _).setCell _ _ (.inl (by simp))).setCell _ _ (.inl (by simp)))).alloc _
      have hb : Blk (((w.setCell ⟨p, 4, none⟩ (.pointer none)).setCell ⟨p, 4, none⟩ (.pointer (some ⟨w.heap.size, 0, none⟩))).alloc (.cells #[.int .i64 a, .int .i64 x, .int .i64 y] 95)) w.heap.size [.int .i64 a, .int .i64 x, .int .i64 y] 95 := by
        have := Blk.new ((w.setCell ⟨p, 4, none⟩ (.pointer none)).setCell ⟨p, 4, none⟩ (.pointer (some ⟨w.heap.size, 0, none⟩))) [.int .i64 a, .int .i64 x, .int .i64 y] 95
        simpa using this
      have hlt : ∀ k ∈ dkOwn p bs be qv (.pointer none), k < w.heap.size := fun k hk => h.lt k (own_noarm k hk)
      have eo : dkOwn p bs be qv (.pointer (some ⟨w.heap.size, 0, none⟩)) = dkOwn p bs be qv (.pointer none) ++ [w.heap.size] := by simp [dkOwn, avBlk]
      refine ⟨rfl, dkOwn p bs be qv (.pointer (some ⟨w.heap.size, 0, none⟩)), ⟨bs, be, qv, _, ⟨((h.hp.set 4 (.pointer none)).set 4 (.pointer (some ⟨w.heap.size, 0, none⟩))).alloc _, h.hs.kept hc (by simp; omega), h.he.kept hc (by simp; omega), row_kept h.hq hc (fun k hk => by have := d4 k hk; simp; omega), ⟨_, rfl, hb⟩, ?_, ok⟩, rfl⟩,
        hc.mono (fun k hk => by simp at hk; exact mem_dkOwn.2 (.inl hk)), fun k hk => ?_⟩
      · rw [eo]
        refine List.nodup_append.2 ⟨nodup_noarm h.nd, by simp, ?_⟩
        intro k hk b hb e
        simp at hb
        have := hlt k hk
        omega
      · rw [eo] at hk
        rcases List.mem_append.1 hk with hk | hk
        · exact .inl (own_noarm k hk)
        · simp at hk; exact .inr (by omega)

theorem sync_nil (w : World) : Calls Tryz.prog 77 #[.pointer none] w fun e w' => e = .returned (.int .i64 1) ∧ w = w' := by
  go_enter Tryz.func77, Tryz.ntmps77
  go_wp2_with fail
  go_ret
  exact ⟨rfl, rfl⟩
theorem sync_off (w : World) (p : Nat) (h3 : w.cell? ⟨p, 3, none⟩ = some (.bool true)) : Calls Tryz.prog 77 #[.pointer (some ⟨p, 0, none⟩)] w fun e w' => e = .returned (.int .i64 24) ∧ w = w' := by
  go_enter Tryz.func77, Tryz.ntmps77
  go_wp2_with fail
  go_ret
  exact ⟨rfl, rfl⟩
theorem sync_err {w : World} {own : List Nat} {p : Nat} {D : DK} {c : Int} (H : Hid (DkAt w own p D)) (h3 : w.cell? ⟨p, 3, none⟩ = some (.bool false)) (hq : D.q.length ≤ 1000000) (Hc : Hid (D.count.1 = c)) (hc : (c == 0) = false) :
    Calls Tryz.prog 77 #[.pointer (some ⟨p, 0, none⟩)] w fun e w' => e = .returned (.int .i64 c) ∧ DkTo w own p D.count.2 w' := by
  go_enter Tryz.func77, Tryz.ntmps77
  go_wp2_with fail
  refine (count_spec H.out hq).mono ?_
  rintro e w1 ⟨rfl, hT⟩
  have HT := Lib.hid hT
  clear hT
  rw [Hc.out]
  go_wp2_with fail
  go_ret
  exact ⟨rfl, HT.out⟩
theorem count_flush {D : DK} (h : D.count.1 = 0) : D.count.2.off = D.off ∧ D.count.2.q = D.q := by
  unfold DK.count at h ⊢
  split
  · exact ⟨rfl, rfl⟩
  · rename_i a w b ha
    rw [ha] at h
    simp only at h
    split at h
    · rename_i h0
      rw [if_pos h0]
      exact ⟨rfl, rfl⟩
    · simp at h
theorem DkR.flushed {w : World} {p bs be : Nat} {qv av : Value} {D : DK} (h : DkR w p bs be qv av D) :
    DkR (w.setCell ⟨p, 2, none⟩ (.slice none 0 0)) p bs be (.slice none 0 0) av { D with q := [] } := by
  obtain ⟨d1, d2, d3, d4, d5, d6⟩ := h.nds
  have hc : Chg [p] w (w.setCell ⟨p, 2, none⟩ (.slice none 0 0)) := (Chg.refl _ _).setCell _ _ (.inl (by simp))
  refine ⟨h.hp.set 2 _, h.hs.kept hc (by simpa using fun e => d1 e.symm), h.he.kept hc (by simpa using fun e => d2 e.symm), World.ownsRow_nil _ _ _ _, h.ha.kept hc (fun k hk => by have := d5 k hk; simp; omega), ?_,
    ⟨h.ok.n1, h.ok.n2, h.ok.st, h.ok.el, fun p hp => by simp at hp, h.ok.arm⟩⟩
  have := h.nd
  simp only [dkOwn, List.nodup_append] at this
  simp only [dkOwn, Value.ownBlock, Option.toList_none, List.append_nil, List.nodup_append]
  exact ⟨this.1.1, this.2.1, fun a ha b hb => this.2.2 a (by simp at ha ⊢; exact ha.elim .inl (fun h => .inr (h.elim .inl (fun h => .inr (.inl h))))) b hb⟩
theorem sync_fine {w : World} {own : List Nat} {p : Nat} {D : DK} (H : Hid (DkAt w own p D)) (h3 : w.cell? ⟨p, 3, none⟩ = some (.bool false)) (hq : D.q.length ≤ 1000000) (Hc : Hid (D.count.1 = 0)) :
    Calls Tryz.prog 77 #[.pointer (some ⟨p, 0, none⟩)] w fun e w' => e = .returned (.int .i64 0) ∧ DkTo w own p D.count.2.flush w' := by
  go_enter Tryz.func77, Tryz.ntmps77
  go_wp2_with fail
  refine (count_spec H.out hq).mono ?_
  rintro e w1 ⟨rfl, own1, ⟨bs, be, qv, av, h1, rfl⟩, hC, hN⟩
  rw [Hc.out]
  have k2 := h1.hp.cell (i := 2) rfl
  have Hq : Hid (D.count.2.q.length ≤ 1000000) := Lib.hid (by rw [(count_flush Hc.out).2]; exact hq)
  have HC := Lib.hid hC
  have HN := Lib.hid hN
  have H1 := Lib.hid h1
  have hcs := h1.qcases
  generalize hE : D.count.2 = E at *
  have HE := Lib.hid hE
  clear hE
  have fin : ∀ w2, Chg [bs, be] w1 w2 → DkR w2 p bs be qv av (E.settle E.q) → DkTo w own p D.count.2.flush (w2.setCell ⟨p, 2, none⟩ (.slice none 0 0)) := by
    intro w2 hc2 h2
    rw [HE.out]
    refine DkTo.trans HC.out HN.out ⟨dkOwn p bs be (.slice none 0 0) av, ⟨bs, be, _, av, h2.flushed, rfl⟩, ?_, ?_⟩
    · exact (hc2.mono (fun k hk => mem_dkOwn.2 (by simp at hk; rcases hk with rfl | rfl <;> simp))).setCell _ _ (.inl (mem_dkOwn.2 (.inl rfl)))
    · intro k hk
      refine .inl (mem_dkOwn.2 ?_)
      have := mem_dkOwn.1 hk
      simp [Value.ownBlock] at this
      rcases this with h | h | h | h <;> simp [h]
  have Fin := Lib.hid fin
  clear hC hN h1 fin
  rcases hcs with ⟨rfl, hq0⟩ | ⟨g, cap, rfl⟩
  · have Hq0 := Lib.hid hq0
    clear hq0
    go_wp2_with fail
    refine (settle_nil w1 p none 0).mono ?_
    rintro e w2 ⟨rfl, rfl⟩
    have kf := H1.out.hp.free
    go_wp2_with fail
    go_ret
    refine ⟨rfl, Fin.out w1 (Chg.refl _ _) ?_⟩
    rw [Hq0.out]
    exact H1.out
  · have Hset := Lib.hid (settle_spec H1.out E.q g cap H1.out.ok.q (by simp [Value.ownBlock]) (fun j v hv => (H1.out.hq.cellAt j (by
      have := (List.getElem?_eq_some_iff.1 hv).1; rw [qcells_length] at this; exact this)).trans hv) Hq.out)
    go_wp2_with fail
    refine Hset.out.mono ?_
    rintro e w2 ⟨rfl, hc2, h2⟩
    clear k2
    have k2 := h2.hp.cell (i := 2) rfl
    have kf := h2.hp.free
    have Hc2 := Lib.hid hc2
    have H2 := Lib.hid h2
    clear hc2 h2
    go_wp2_with fail
    go_ret
    exact ⟨rfl, Fin.out w2 Hc2.out H2.out⟩

theorem sync_spec {w : World} {own : List Nat} {p : Nat} {D : DK} (h : DkAt w own p D) (hq : D.q.length ≤ 1000000) :
    Calls Tryz.prog 77 #[.pointer (some ⟨p, 0, none⟩)] w fun e w' => e = .returned (.int .i64 D.sync.1) ∧ DkTo w own p D.sync.2 w' := by
  have H := Lib.hid h
  obtain ⟨bs, be, qv, av, h, rfl⟩ := h
  have h3 := h.hp.cell (i := 3) rfl
  by_cases hoff : D.off = true
  · rw [show D.sync = (24, D) from by simp [DK.sync, hoff]]
    refine (sync_off w p (by rw [← hoff]; exact h3)).mono ?_
    rintro e w' ⟨rfl, rfl⟩
    exact ⟨rfl, h.to (Chg.refl _ _)⟩
  · have hoff' : D.off = false := by simpa using hoff
    by_cases h0 : D.count.1 = 0
    · rw [show D.sync = (0, D.count.2.flush) from by simp [DK.sync, hoff', h0]]
      exact sync_fine H (by rw [← hoff']; exact h3) hq (Lib.hid h0)
    · rw [show D.sync = D.count from by simp [DK.sync, hoff', h0]]
      exact sync_err H (by rw [← hoff']; exact h3) hq (Lib.hid rfl) (by simpa using h0)
end Go.Proofs.YtpmkgedlnanjiaaGreatDoor
