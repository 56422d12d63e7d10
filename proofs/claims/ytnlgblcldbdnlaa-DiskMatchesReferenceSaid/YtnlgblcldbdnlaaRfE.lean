/-
  The reference disk of layer 43: contracts of Read, Rot, Stale.
-/
import Derived.Test.YtnlgblcldbdnlaaRfD
import Derived.Deep.RegionLaw
namespace Go.Proofs.Ytnlgblcldbdnlaa
set_option linter.unusedVariables false
set_option linter.unusedSimpArgs false
open Go Go.RowKit
attribute [local irreducible] Go.wpStill

theorem rread_off (w : World) (p : Nat) (s : Int) (k3 : w.cell? ⟨p, 3, none⟩ = some (.bool false)) :
    Calls Try.prog 18 #[.pointer (some ⟨p, 0, none⟩), .int .i64 s] w fun e w' => e = .returned (.tuple #[.string ⟨#[]⟩, .int .i64 24]) ∧ Chg [] w w' := by
  go_enter Try.func18, Try.ntmps18
  go_wp2_with fail
  go_ret2
  exact ⟨rfl, Chg.refl _ _⟩
theorem rread_neg (w : World) (p : Nat) (s : Int) (k3 : w.cell? ⟨p, 3, none⟩ = some (.bool true)) (hs : s < 0) :
    Calls Try.prog 18 #[.pointer (some ⟨p, 0, none⟩), .int .i64 s] w fun e w' => e = .returned (.tuple #[.string ⟨#[]⟩, .int .i64 1]) ∧ Chg [] w w' := by
  go_enter Try.func18, Try.ntmps18
  go_wp2_with fail
  go_ret2
  exact ⟨rfl, Chg.refl _ _⟩
theorem rread_big (w : World) (p n c : Nat) (ao : Option Addr) (s : Int) (k3 : w.cell? ⟨p, 3, none⟩ = some (.bool true)) (k0 : w.cell? ⟨p, 0, none⟩ = some (.slice ao n c)) (h0 : 0 ≤ s) (hs : (n : Int) ≤ s) :
    Calls Try.prog 18 #[.pointer (some ⟨p, 0, none⟩), .int .i64 s] w fun e w' => e = .returned (.tuple #[.string ⟨#[]⟩, .int .i64 1]) ∧ Chg [] w w' := by
  go_enter Try.func18, Try.ntmps18
  go_wp2_with fail
  go_ret2
  exact ⟨rfl, Chg.refl _ _⟩
set_option maxHeartbeats 1000000 in
theorem rread_on {w : World} {p gs cs ge ce m cap : Nat} {ao : Option Addr} {A W B : Int} {D : DK} (H : Hid (RfR w p gs cs ge ce (.slice ao m cap) A W B D)) (Hm : Hid (D.q.length = m)) (hoff : D.off = false) (hq : m ≤ 1000000) (s : Nat) (hs : s < D.n) :
    Calls Try.prog 18 #[.pointer (some ⟨p, 0, none⟩), .int .i64 (s : Int)] w fun e w' => e = .returned (.tuple #[.string ⟨(D.cur s).toArray⟩, .int .i64 0]) ∧ Chg [] w w' := by
  have k0 := H.out.hp.cell (i := 0) rfl
  have k2 := H.out.hp.cell (i := 2) rfl
  have k3 : w.cell? ⟨p, 3, none⟩ = some (.bool true) := by have := H.out.hp.cell (i := 3) rfl; rw [hoff] at this; exact this
  have s0 := H.out.hs.cellOf s hs
  have n2 := H.out.ok.n2
  clear hoff
  go_enter Try.func18, Try.ntmps18
  go_wp2_with fail
  go_loopw [6, 7] (fun t i wr => ∃ (k : Nat) (z : Bytes), k ≤ m ∧ i = .int .i64 k ∧ t = .string ⟨z.toArray⟩ ∧ z = DK.last (D.q.take k) s (D.st s) ∧ Chg [] w wr) (fun _ i _ => m - (intOf i).toNat)
  case atStart => exact ⟨0, D.st s, Nat.zero_le _, rfl, rfl, by simp [DK.last], Chg.refl _ _⟩
  case round =>
    obtain ⟨k, z, hk, rfl, rfl, hz, hC⟩ := hrel
    have HZ := Lib.hid hz
    have HR := Lib.hid (H.out.kept hC (by simp))
    have HC := Lib.hid hC
    clear hz hC k0 k2 k3 s0
    have k2 := HR.out.hp.cell (i := 2) rfl
    by_cases hlt : k < m
    · obtain ⟨x, hx⟩ : ∃ x, D.q[k]? = some x := ⟨D.q[k]'(by rw [Hm.out]; exact hlt), by simp [Hm.out, hlt]⟩
      obtain ⟨g, rfl, c0, c1⟩ := HR.out.qcell k x hx
      have HX := Lib.hid hx
      clear hx
      by_cases hxs : x.1 = s
      · have hb : ((x.1 : Int) == (s : Int)) = true := by rw [hxs]; simp
        have Hxs := Lib.hid hxs
        clear hxs
        go_wp2_with fail
        go_roundw
        case rel => exact ⟨k + 1, x.2, by omega, by go_num, rfl, by rw [last_take _ _ _ _ _ HX.out, if_pos Hxs.out], HC.out⟩
        case measure => simp [intOf]; omega
      · have hb : ((x.1 : Int) == (s : Int)) = false := by rw [beq_eq_false_iff_ne]; omega
        have Hxs := Lib.hid hxs
        clear hxs
        go_wp2_with fail
        go_roundw
        case rel => exact ⟨k + 1, z, by omega, by go_num, rfl, by rw [last_take _ _ _ _ _ HX.out, if_neg Hxs.out]; exact HZ.out, HC.out⟩
        case measure => simp [intOf]; omega
    · have hkm : k = m := by omega
      have HK := Lib.hid hkm
      clear hkm
      go_wp2_with fail
      go_ret2
      refine ⟨?_, HC.out⟩
      have := HZ.out
      rw [HK.out, List.take_of_length_le (by rw [Hm.out]; exact Nat.le_refl _)] at this
      rw [this]
      rfl
theorem rread_spec {w : World} {own : List Nat} {p : Nat} {D : DK} (h : RfAt w own p D) (hq : D.q.length ≤ 1000000) (s : Int) :
    Calls Try.prog 18 #[.pointer (some ⟨p, 0, none⟩), .int .i64 s] w fun e w' => e = .returned (.tuple #[.string ⟨(D.read s).1.toArray⟩, .int .i64 (D.read s).2]) ∧ Chg [] w w' := by
  obtain ⟨gs, cs, ge, ce, qv, A, W, B, h, rfl⟩ := h
  have k0 := h.hp.cell (i := 0) rfl
  have k3 := h.hp.cell (i := 3) rfl
  by_cases hoff : D.off = true
  · rw [show D.read s = ([], 24) from by simp [DK.read, hoff]]
    exact rread_off w p s (by rw [hoff] at k3; exact k3)
  · have hoff' : D.off = false := by simpa using hoff
    have k3' : w.cell? ⟨p, 3, none⟩ = some (.bool true) := by rw [hoff'] at k3; exact k3
    by_cases hv : D.valid s = true
    · have hv' := hv
      simp only [DK.valid, decide_eq_true_eq] at hv'
      obtain ⟨k, rfl⟩ := Int.eq_ofNat_of_zero_le hv'.1
      rw [show D.read (k : Int) = (D.cur k, 0) from by unfold DK.read; rw [if_neg hoff, if_neg (by rw [hv]; simp)]; simp]
      obtain ⟨ao, cap, rfl⟩ := h.qform
      exact rread_on (Lib.hid h) (Lib.hid rfl) hoff' hq k (by omega)
    · have hv' : D.valid s = false := by simpa using hv
      rw [show D.read s = ([], 1) from by simp [DK.read, hoff', hv']]
      simp only [DK.valid, decide_eq_false_iff_not] at hv'
      by_cases h0 : 0 ≤ s
      · exact rread_big w p D.n cs _ s k3' k0 h0 (by omega)
      · exact rread_neg w p s k3' (by omega)

theorem rstale_bad (w : World) (p n c : Nat) (ao : Option Addr) (s : Int) (k0 : w.cell? ⟨p, 0, none⟩ = some (.slice ao n c)) (hs : ¬ (0 ≤ s ∧ s < (n : Int))) :
    Calls Try.prog 38 #[.pointer (some ⟨p, 0, none⟩), .int .i64 s] w fun e w' => e = .returned (.tuple #[]) ∧ Chg [] w w' := by
  by_cases h0 : 0 ≤ s
  · have h1 : (n : Int) ≤ s := by omega
    clear hs
    go_enter Try.func38, Try.ntmps38
    go_wp2_with fail
    exact bodyPost_end (results_none rfl _ _ _) rfl ⟨rfl, Chg.refl _ _⟩
  · have h1 : s < 0 := by omega
    clear hs h0
    go_enter Try.func38, Try.ntmps38
    go_wp2_with fail
    exact bodyPost_end (results_none rfl _ _ _) rfl ⟨rfl, Chg.refl _ _⟩
theorem rstale_fine (w : World) (p gs cs ge ce n s : Nat) (t u : Bytes) (hn : n ≤ 4000) (hs : s < n) (k0 : w.cell? ⟨p, 0, none⟩ = some (.slice (some ⟨gs, 0, none⟩) n cs)) (k1 : w.cell? ⟨p, 1, none⟩ = some (.slice (some ⟨ge, 0, none⟩) n ce))
    (e0 : w.cell? ⟨ge, s, none⟩ = some (.string ⟨t.toArray⟩)) (s0 : w.cell? ⟨gs, s, none⟩ = some (.string ⟨u.toArray⟩)) (f0 : w.frozen? ⟨gs, s, none⟩ = false) :
    Calls Try.prog 38 #[.pointer (some ⟨p, 0, none⟩), .int .i64 (s : Int)] w fun e w' => e = .returned (.tuple #[]) ∧ w' = w.drew.setCell ⟨gs, s, none⟩ (vstr t) := by
  go_enter Try.func38, Try.ntmps38
  go_wp2_with fail
  refine wp_region_tail 12 (by kernel_rfl) (by kernel_rfl) (fun L hL => ?_)
  simp only [List.take_succ_cons, List.take_zero, List.drop_succ_cons, List.drop_zero] at hL ⊢
  repeat still_step
  refine wpStill_nil (hL _ ?_)
  clear hL L
  go_wp2_with fail
  exact bodyPost_end (results_none rfl _ _ _) rfl ⟨rfl, rfl⟩
/-- The stable text of a sector is replaced. -/
theorem RfR.stored {w : World} {p gs cs ge ce : Nat} {qv : Value} {A W B : Int} {D : DK} (h : RfR w p gs cs ge ce qv A W B D) (s : Nat) (t : Bytes) (hs : s < D.n) (ht : t.length = 64) :
    RfR (w.setCell ⟨gs, s, none⟩ (vstr t)) p gs cs ge ce qv A W B { D with st := fun i => if i = s then t else D.st i } := by
  obtain ⟨d1, d2, d3, d4⟩ := h.nd
  have hc : Chg [gs] w (w.setCell ⟨gs, s, none⟩ (vstr t)) := (Chg.refl _ _).setCell _ _ (.inl (by simp))
  refine ⟨hc.blk h.hp (by simpa using d1), ?_, h.he.kept hc (by simp [Value.ownBlock]; exact fun e => d3 e.symm), row_kept h.hq hc (fun k hk => by simpa using (d4 k hk).2.1), h.ha, h.nd, ⟨h.ok.n1, h.ok.n2, fun i hi => ?_, h.ok.el, h.ok.q, h.ok.arm⟩⟩
  · show StrRow _ _ (secs D.n (fun i => if i = s then t else D.st i))
    rw [← secs_set]
    exact h.hs.set s t
  · show (if i = s then t else D.st i).length = 64
    split
    · exact ht
    · exact h.ok.st i hi
theorem rstale_spec {w : World} {own : List Nat} {p : Nat} {D : DK} (h : RfAt w own p D) (s : Int) :
    Calls Try.prog 38 #[.pointer (some ⟨p, 0, none⟩), .int .i64 s] w fun e w' => e = .returned (.tuple #[]) ∧ RfTo w own p (D.stale s) w' := by
  have hA := h
  obtain ⟨gs, cs, ge, ce, qv, A, W, B, h, rfl⟩ := h
  have k0 := h.hp.cell (i := 0) rfl
  have k1 := h.hp.cell (i := 1) rfl
  by_cases hv : D.valid s = true
  · have hv' := hv
    simp only [DK.valid, decide_eq_true_eq] at hv'
    obtain ⟨k, rfl⟩ := Int.eq_ofNat_of_zero_le hv'.1
    have hk : k < D.n := by omega
    refine (rstale_fine w p gs cs ge ce D.n k _ _ h.ok.n2 hk k0 k1 (h.he.cellOf k hk) (h.hs.cellOf k hk) (h.hs.freeOf k hk)).mono ?_
    rintro e w' ⟨rfl, rfl⟩
    refine ⟨rfl, ?_⟩
    have hD : D.stale (k : Int) = { D with st := fun i => if i = k then D.el k else D.st i } := by
      unfold DK.stale
      rw [if_pos hv]
      congr 1
      funext i
      by_cases hi : i = k
      · rw [if_pos (by simpa using hi), if_pos hi, hi]
      · rw [if_neg (by simpa using hi), if_neg hi]
    rw [hD]
    have hd := (h.kept ((Chg.refl [] w).drew) (by simp)).stored k (D.el k) hk (h.ok.el k hk)
    exact hd.to (((Chg.refl _ w).drew).setCell _ _ (.inl (mem_rfOwn.2 (.inr (.inl rfl))))) (fun k hk => .inl hk)
  · have hv' : D.valid s = false := by simpa using hv
    rw [show D.stale s = D from by unfold DK.stale; rw [if_neg hv]]
    simp only [DK.valid, decide_eq_false_iff_not] at hv'
    refine (rstale_bad w p D.n cs _ s k0 hv').mono ?_
    rintro e w' ⟨rfl, hc⟩
    exact ⟨rfl, hA.to hc⟩
end Go.Proofs.Ytnlgblcldbdnlaa
