/-
  Contracts of the disk: Stale, Read.
-/
import Derived.Test.YtpmkgedlnanjiaaGreatDoorDkD
import Derived.Deep.DeepCutAuto
namespace Go.Proofs.YtpmkgedlnanjiaaGreatDoor
set_option linter.unusedVariables false
set_option maxRecDepth 100000
set_option linter.unusedSimpArgs false
open Go Go.RowKit

theorem stale_nil (w : World) (s : Int) : Calls Tryz.prog 28 #[.pointer none, .int .i64 s] w fun e w' => e = .returned (.tuple #[]) ∧ Chg [] w w' := by
  go_enter Tryz.func28, Tryz.ntmps28
  go_wp2_with fail
  refine (place_nil w s).mono ?_
  rintro e w1 ⟨rfl, hc⟩
  go_wp2_with fail
  refine bodyPost_end (results_none rfl _ _ _) rfl ⟨rfl, hc.alloc _⟩
theorem stale_bad (w : World) (p bs n : Nat) (s : Int) (hp : p < w.heap.size) (hn : n ≤ 4000) (h0 : w.cell? ⟨p, 0, none⟩ = some (.slice (some ⟨bs, 0, none⟩) (n*64) (n*64))) (hs : s < 0 ∨ n ≤ s) :
    Calls Tryz.prog 28 #[.pointer (some ⟨p, 0, none⟩), .int .i64 s] w fun e w' => e = .returned (.tuple #[]) ∧ Chg [] w w' := by
  go_enter Tryz.func28, Tryz.ntmps28
  go_wp2_with fail
  refine (place_bad w p bs n s hp hn h0 hs).mono ?_
  rintro e w1 ⟨rfl, hc⟩
  go_wp2_with fail
  refine bodyPost_end (results_none rfl _ _ _) rfl ⟨rfl, hc.alloc _⟩
theorem stale_calls (w : World) (p bs be n s : Nat) (S E : Bytes) (hp : p < w.heap.size) (H0 : Hid (w.cell? ⟨p, 0, none⟩ = some (.slice (some ⟨bs, 0, none⟩) (n*64) (n*64))))
    (H1 : Hid (w.cell? ⟨p, 1, none⟩ = some (.slice (some ⟨be, 0, none⟩) (n*64) (n*64)))) (hn : n ≤ 4000) (hpb : p ≠ bs) (hbe : bs ≠ be)
    (hS : Blk w bs (S.map B8) 5) (hE : Blk w be (E.map B8) 5) (hSl : S.length = n * 64) (hEl : E.length = n * 64) (hs : s < n) :
    Calls Tryz.prog 28 #[.pointer (some ⟨p,0,none⟩), .int .i64 s] w fun e w' => e = .returned (.tuple #[]) ∧ Chg [bs] w w' ∧
      Blk w' bs ((splice S (s * 64) ((E.drop (s * 64)).take 64)).map B8) 5 := by
  go_enter Tryz.func28, Tryz.ntmps28
  go_wp2_with fail
  refine (place_ok w p bs n s hp hn H0.out (by omega) (by omega)).mono ?_
  rintro e w1 ⟨rfl, hc⟩
  go_upto_region 2 with fail
  obtain ⟨w2, hw2⟩ : ∃ w2, w2 = w1.alloc (.cells #[.int .i64 ((s : Int) * 64), .int .i64 (((s : Int) + 1) * 64)] 87) := ⟨_, rfl⟩
  rw [← hw2]
  have hc2 : Chg [] w w2 := by rw [hw2]; exact hc.alloc _
  have hb : Blk w2 w1.heap.size [.int .i64 ((s : Int) * 64), .int .i64 (((s : Int) + 1) * 64)] 87 := by rw [hw2]; exact Blk.new w1 [.int .i64 ((s : Int) * 64), .int .i64 (((s : Int) + 1) * 64)] _
  generalize w1.heap.size = tb at *
  have k0 := (World.cell?_of_block (hc2.block p hp (by simp))).trans H0.out
  have k1 := (World.cell?_of_block (hc2.block p hp (by simp))).trans H1.out
  have hS2 := hc2.blk hS (by simp)
  have hE2 := hc2.blk hE (by simp)
  have b0 := hb.cell (i := 0) rfl
  have b1 := hb.cell (i := 1) rfl
  have HC2 := Lib.hid hc2
  have HS2 := Lib.hid hS2
  have HE2 := Lib.hid hE2
  clear hc2 hw2 hc hp hb H0 H1 hS hE hS2 hE2
  clear w1
  obtain ⟨lo, hlo⟩ : ∃ lo, lo = s * 64 := ⟨_, rfl⟩
  obtain ⟨N, hN⟩ : ∃ N, N = n * 64 := ⟨_, rfl⟩
  obtain ⟨hi, hhi⟩ : ∃ hi, hi = s * 64 + 64 := ⟨_, rfl⟩
  have e1 : ((s : Int) * 64) = (lo : Int) := by omega
  have e2 : (((s : Int) + 1) * 64) = (hi : Int) := by omega
  rw [← hN] at k0 k1
  rw [e1] at b0
  rw [e2] at b1
  have HHi : Hid (hi = lo + 64) := Lib.hid (by omega)
  have HLo := Lib.hid hlo
  have q1 : (lo : Int) ≤ hi := by omega
  have q2 : (hi : Int) ≤ N := by omega
  have q3 : ¬ N = lo := by omega
  have q4 : hi ≤ N := by omega
  have HSl : Hid (S.length = N) := Lib.hid (by omega)
  have HEl : Hid (E.length = N) := Lib.hid (by omega)
  clear e1 e2 hlo hN hhi hSl hEl
  refine wp_region_tail 18 (by kernel_rfl) (by kernel_rfl) (fun L hL => ?_)
  simp only [List.take_succ_cons, List.take_zero, List.drop_succ_cons, List.drop_zero] at hL ⊢
  repeat still_step
  refine wpStill_nil (hL _ ?_)
  clear hL L
  refine wpList_copy_blk rfl (.tmp 21) (.tmp 30) 56 56 rfl 5 Tryz.underlying56 info_u8 bs lo (hi - lo) (N - lo) ⟨be, lo, none⟩ (hi - lo) (N - lo) rfl rfl
    (w := w2.drew) HS2.out (((E.drop lo).take (hi - lo)).map B8) ?_ ?_ ?_ (B8_one _) ?_
  · simp [HEl.out]; omega
  · intro j v hj
    have : w2.cell? ⟨be, lo + j, none⟩ = some v := HE2.out.cell (by
      rw [List.getElem?_map, List.getElem?_take] at hj
      split at hj
      · rw [List.getElem?_drop] at hj; rw [List.getElem?_map]; exact hj
      · simp at hj)
    rw [addr_add]; exact this
  · simp [HSl.out, HEl.out]; omega
  intro w3 hS3 hc3
  have HS3 := Lib.hid hS3
  have HC3 : Hid (Chg [bs] w w3) := Lib.hid ((HC2.out.mono (by simp)).drew.trans hc3 (by simp))
  clear hS3 hc3
  go_wp2_with fail
  refine bodyPost_end (results_none rfl _ _ _) rfl ⟨rfl, HC3.out, ?_⟩
  have := HS3.out
  rw [HHi.out, Nat.add_sub_cancel_left, HLo.out] at this
  simpa [splice] using this

theorem stale_spec {w : World} {own : List Nat} {p : Nat} {D : DK} (h : DkAt w own p D) (s : Int) :
    Calls Tryz.prog 28 #[.pointer (some ⟨p, 0, none⟩), .int .i64 s] w fun e w' => e = .returned (.tuple #[]) ∧ DkTo w own p (D.stale s) w' := by
  have hA := h
  obtain ⟨bs, be, qv, av, h, rfl⟩ := h
  have h0 := h.hp.cell (i := 0) rfl
  have h1 := h.hp.cell (i := 1) rfl
  have hp := h.hp.lt
  have n2 := h.ok.n2
  by_cases hv : D.valid s = true
  · have hv' := hv
    simp only [DK.valid, decide_eq_true_eq] at hv'
    have ok := DK.stale_ok h.ok s
    obtain ⟨k, rfl⟩ := Int.eq_ofNat_of_zero_le hv'.1
    have er : D.stale (k : Int) = { D with st := fun i => if i = k then D.el i else D.st i } := by
      unfold DK.stale
      rw [if_pos hv]
      rfl
    rw [er] at ok ⊢
    obtain ⟨S, hS, hSl, hSs⟩ := h.hs
    obtain ⟨E, hE, hEl, hEs⟩ := h.he
    obtain ⟨d1, d2, d3, d4, d5, d6⟩ := h.nds
    refine (stale_calls w p bs be D.n k S E hp (Lib.hid h0) (Lib.hid h1) n2 d1 d3 hS hE hSl hEl (by omega)).mono ?_
    rintro e w' ⟨rfl, hc, hS'⟩
    have hel : ((E.drop (k * 64)).take 64).length = 64 := by simp; omega
    refine ⟨rfl, _, ⟨bs, be, qv, av, ⟨hc.blk h.hp (by simpa using d1), ⟨_, hS', ?_, ?_⟩, h.he.kept hc (by simpa using fun e => d3 e.symm), row_kept h.hq hc (fun k hk => by have := d4 k hk; simp; omega),
      h.ha.kept hc (fun k hk => by have := d5 k hk; simp; omega), h.nd, ok⟩, rfl⟩, hc.mono (fun x hx => by simp at hx; subst hx; exact mem_dkOwn.2 (by simp)), fun x hx => .inl hx⟩
    · rw [length_splice _ _ _ (by omega)]; exact hSl
    · intro i hi
      rw [sec_splice S _ D.n k i hSl (by omega) hi (by omega), hEs k (by omega)]
      show _ = (if i = k then D.el i else D.st i)
      by_cases hik : i = k
      · subst hik
        rw [if_pos rfl, if_pos rfl, List.drop_of_length_le (by have := h.ok.el i hi; simp; omega), List.append_nil]
      · rw [if_neg hik, if_neg hik]
        exact hSs i hi
  · have hv' : D.valid s = false := by simpa using hv
    rw [show D.stale s = D from by simp [DK.stale, hv']]
    refine (stale_bad w p bs D.n s hp n2 h0 ?_).mono ?_
    · simp only [DK.valid, decide_eq_false_iff_not] at hv'
      omega
    · rintro e w' ⟨rfl, hc⟩
      exact ⟨rfl, hA.to hc⟩
end Go.Proofs.YtpmkgedlnanjiaaGreatDoor
