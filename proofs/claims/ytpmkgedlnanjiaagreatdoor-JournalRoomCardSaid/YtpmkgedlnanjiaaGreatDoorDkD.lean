/-
  Contracts of the disk: Fail and count, over the disk in memory.
-/
import Derived.Test.YtpmkgedlnanjiaaGreatDoorDkC
namespace Go.Proofs.YtpmkgedlnanjiaaGreatDoor
set_option linter.unusedVariables false
set_option maxRecDepth 100000
set_option linter.unusedSimpArgs false
open Go Go.RowKit

theorem fail_nilq {w : World} {p bs be : Nat} {av : Value} {D : DK} (h : DkR w p bs be (.slice none 0 0) av D) (hoff : D.off = false) (hq : D.q = []) (x y : Int) :
    Calls Tryz.prog 20 #[.pointer (some ⟨p,0,none⟩), .int .i64 x, .int .i64 y] w fun e w' => e = .returned (.tuple #[]) ∧ Chg [p, bs, be] w w' ∧ DkR w' p bs be (.slice none 0 0) (.pointer none) (D.down x y) := by
  have h2 := h.hp.cell (i := 2) rfl
  have h3 : w.cell? ⟨p, 3, none⟩ = some (.bool false) := by have := h.hp.cell (i := 3) rfl; rw [hoff] at this; exact this
  have h4 := h.hp.cell (i := 4) rfl
  have hf := h.hp.free
  have hpl := h.hp.lt
  have H := Lib.hid h
  have Hq := Lib.hid hq
  clear h hoff hq
  go_enter Tryz.func20, Tryz.ntmps20
  go_upto_region 1 with fail
  go_cut [6] (fun s6 wx => wx = w ∧ s6 = .int .i64 0)
  case first =>
    go_wp2_with fail
    all_goals
      go_meet
      refine ⟨rfl, vint ?_⟩
      (try simp only [ite_max0] at *) <;> omega
  case rest =>
    obtain ⟨rfl, rfl⟩ := hcut
    go_wp2_with fail
    refine (settle_nil _ p none 0).mono ?_
    rintro e w1 ⟨rfl, rfl⟩
    go_wp2_with fail
    refine bodyPost_end (results_none rfl _ _ _) rfl ⟨rfl, ?_, ?_⟩
    · refine Chg.setCell (Chg.setCell (Chg.setCell (Chg.refl _ _) _ _ (.inl (by simp))) _ _ (.inl (by simp))) _ _ (.inl (by simp))
    · have := H.out.down
      unfold DK.down
      rw [Hq.out]
      simp only [List.take_nil, List.drop_nil]
      exact this

theorem fail_spec {w : World} {own : List Nat} {p : Nat} {D : DK} (h : DkAt w own p D) (hq : D.q.length ≤ 1000000) (x y : Int) :
    Calls Tryz.prog 20 #[.pointer (some ⟨p,0,none⟩), .int .i64 x, .int .i64 y] w fun e w' => e = .returned (.tuple #[]) ∧ DkTo w own p (D.fail x y) w' := by
  obtain ⟨bs, be, qv, av, h, rfl⟩ := h
  by_cases hoff : D.off = true
  · have h3 : w.cell? ⟨p, 3, none⟩ = some (.bool true) := by have := h.hp.cell (i := 3) rfl; rw [hoff] at this; exact this
    refine (fail_off w p x y h3).mono ?_
    rintro e w' ⟨rfl, rfl⟩
    rw [DK.fail, if_pos hoff]
    exact ⟨rfl, h.to (Chg.refl _ _)⟩
  · have hoff' : D.off = false := by simpa using hoff
    rw [DK.fail, if_neg hoff]
    have key : ∀ e w', (e = Ending.returned (.tuple #[]) ∧ Chg [p, bs, be] w w' ∧ DkR w' p bs be (.slice none 0 0) (.pointer none) (D.down x y)) → e = Ending.returned (.tuple #[]) ∧ DkTo w (dkOwn p bs be qv av) p (D.down x y) w' := by
      rintro e w' ⟨rfl, hc, hD⟩
      exact ⟨rfl, _, ⟨bs, be, _, _, hD, rfl⟩, hc.mono (fun k hk => mem_dkOwn.2 (by simp at hk; rcases hk with rfl | rfl | rfl <;> simp)), fun k hk => by
        rcases mem_dkOwn.1 hk with rfl | rfl | rfl | hk | hk
        · exact .inl (mem_dkOwn.2 (by simp))
        · exact .inl (mem_dkOwn.2 (by simp))
        · exact .inl (mem_dkOwn.2 (by simp))
        · simp [Value.ownBlock] at hk
        · simp [avBlk] at hk⟩
    rcases h.qcases with ⟨rfl, h0⟩ | ⟨g, cap, rfl⟩
    · exact (fail_nilq h hoff' h0 x y).mono key
    · exact (fail_row (Lib.hid h) (Lib.hid rfl) hoff' hq x y).mono key

theorem count_none (w : World) (p : Nat) (h : w.cell? ⟨p, 4, none⟩ = some (.pointer none)) : Calls Tryz.prog 99 #[.pointer (some ⟨p,0,none⟩)] w fun e w' => e = .returned (.int .i64 0) ∧ w = w' := by
  go_enter Tryz.func99, Tryz.ntmps99
  go_wp2
  go_ret
  exact ⟨rfl, rfl⟩
theorem count_pos (w : World) (p ba : Nat) (n : Int) (hn : 0 < n) (hn2 : n ≤ 9223372036854775807) (h : w.cell? ⟨p, 4, none⟩ = some (.pointer (some ⟨ba, 0, none⟩)))
    (h2 : w.cell? ⟨ba, 0, none⟩ = some (.int .i64 n)) (h3 : w.frozen? ⟨ba, 0, none⟩ = false) : Calls Tryz.prog 99 #[.pointer (some ⟨p,0,none⟩)] w fun e w' => e = .returned (.int .i64 0) ∧ w' = w.setCell ⟨ba, 0, none⟩ (.int .i64 (n-1)) := by
  go_enter Tryz.func99, Tryz.ntmps99
  go_wp2
  go_ret
  exact ⟨rfl, rfl⟩
theorem count_zero {w : World} {own : List Nat} {p ba : Nat} {D : DK} {x y : Int} (H : Hid (DkAt w own p D)) (hq : D.q.length ≤ 1000000) (h : w.cell? ⟨p, 4, none⟩ = some (.pointer (some ⟨ba, 0, none⟩)))
    (h0 : w.cell? ⟨ba, 0, none⟩ = some (.int .i64 0)) (h1 : w.cell? ⟨ba, 1, none⟩ = some (.int .i64 x)) (h2 : w.cell? ⟨ba, 2, none⟩ = some (.int .i64 y)) :
    Calls Tryz.prog 99 #[.pointer (some ⟨p,0,none⟩)] w fun e w' => e = .returned (.int .i64 24) ∧ DkTo w own p (D.fail x y) w' := by
  go_enter Tryz.func99, Tryz.ntmps99
  go_wp2_with fail
  refine wp_region_tail 15 (by kernel_rfl) (by kernel_rfl) (fun L hL => ?_)
  simp only [List.take_succ_cons, List.take_zero, List.drop_succ_cons, List.drop_zero] at hL ⊢
  repeat still_step
  refine wpStill_nil (hL _ ?_)
  clear hL L
  go_wp2_with fail
  refine (fail_spec (H.out.kept (Chg.refl [] w).drew (by simp)) hq x y).mono ?_
  rintro e w' ⟨rfl, hT⟩
  have HT : Hid _ := Lib.hid (DkTo.trans (Chg.refl own w).drew (fun k hk => .inl hk) hT)
  clear hT
  go_wp2_with fail
  go_ret
  exact ⟨rfl, HT.out⟩

theorem count_spec {w : World} {own : List Nat} {p : Nat} {D : DK} (h : DkAt w own p D) (hq : D.q.length ≤ 1000000) :
    Calls Tryz.prog 99 #[.pointer (some ⟨p,0,none⟩)] w fun e w' => e = .returned (.int .i64 D.count.1) ∧ DkTo w own p D.count.2 w' := by
  have hA := Lib.hid h
  obtain ⟨bs, be, qv, av, h, rfl⟩ := h
  have h4 := h.hp.cell (i := 4) rfl
  cases ha : D.arm with
  | none =>
    have hav : av = .pointer none := by have := h.ha; rw [ha] at this; exact this
    subst hav
    refine (count_none w p h4).mono ?_
    rintro e w' ⟨rfl, rfl⟩
    rw [show D.count = (0, D) from by simp [DK.count, ha]]
    exact ⟨rfl, h.to (Chg.refl _ _)⟩
  | some t =>
    obtain ⟨a, x, y⟩ := t
    have hav := h.ha
    rw [ha] at hav
    obtain ⟨ba, rfl, hb⟩ := hav
    have hr := h.ok.arm a x y ha
    by_cases h0 : 0 < a
    · refine (count_pos w p ba a h0 hr.2 h4 (hb.cell (i := 0) rfl) (hb.free 0)).mono ?_
      rintro e w' ⟨rfl, rfl⟩
      rw [show D.count = (0, { D with arm := some (a - 1, x, y) }) from by simp [DK.count, ha, h0]]
      refine ⟨rfl, ?_⟩
      have d5 := h.nds.2.2.2.2.1 ba (by simp [avBlk])
      have d6 := h.nds.2.2.2.2.2
      have hc : Chg [ba] w (w.setCell ⟨ba, 0, none⟩ (.int .i64 (a - 1))) := (Chg.refl _ _).setCell _ _ (.inl (by simp))
      refine DkR.to (D := { D with arm := some (a - 1, x, y) }) ⟨hc.blk h.hp (by simp; omega), h.hs.kept hc (by simp; omega), h.he.kept hc (by simp; omega), row_kept h.hq hc (fun k hk => by
        have := d6 k hk; simpa [avBlk] using this), ⟨ba, rfl, hb.set 0 _⟩, h.nd, ⟨h.ok.n1, h.ok.n2, h.ok.st, h.ok.el, h.ok.q, fun a' w' b' h' => by simp at h'; omega⟩⟩ (hc.mono (fun k hk => by simp at hk; subst hk; exact mem_dkOwn.2 (by simp [avBlk])))
    · have h0' : a = 0 := by omega
      subst h0'
      simp only [DK.count, ha, if_neg h0]
      exact count_zero hA hq h4 (hb.cell (i := 0) rfl) (hb.cell (i := 1) rfl) (hb.cell (i := 2) rfl)
end Go.Proofs.YtpmkgedlnanjiaaGreatDoor
