/-
  Contracts of the disk: Write.
-/
import Derived.Test.YtpmkgedlnanjiaaGreatDoorDkD
import Derived.Deep.RegionLaw
import Derived.Deep.AppendLies
import Derived.Deep.DeepCutAuto
namespace Go.Proofs.YtpmkgedlnanjiaaGreatDoor
set_option linter.unusedVariables false
set_option maxRecDepth 100000
set_option linter.unusedSimpArgs false
open Go Go.RowKit

theorem info_pend : (Tryz.prog.info? 89).map (fun i => (i.zero, i.size, i.bytes)) = some (some (.agg #[.int .i64 0, .int .i64 0, .string ⟨#[]⟩]), 3, 32) := by kernel_rfl

/-- The queue with one more write, in a new row or in the old one. -/
theorem DkR.pushed {w w1 w' : World} {p bs be g cap : Nat} {qv av : Value} {D : DK} (h : DkR w p bs be qv av D) (s : Nat) (t : Bytes) (hs : s < D.n) (ht : t.length = 64)
    (hw1 : Chg [] w w1) (hg : w1.grownBy w' qv.ownBlock) (hrow : w'.ownsRow 0 89 3 (.slice (some ⟨g, 0, none⟩) (D.q.length + 1) cap) (D.q.length + 1) (qcells D.q ++ qcells [(s, t)]))
    (hat : qv.ownBlock = some g ∨ g = w1.heap.size) (hlt : g < w'.heap.size) :
    DkTo w (dkOwn p bs be qv av) p (D.push s t) (w'.setCell ⟨p, 2, none⟩ (.slice (some ⟨g, 0, none⟩) (D.q.length + 1) cap)) := by
  have hc0 : Chg qv.ownBlock.toList w w' := (hw1.mono (by simp)).grown hg (fun k hk => .inl (by rw [hk]; simp))
  have hc : Chg (p :: qv.ownBlock.toList) w (w'.setCell ⟨p, 2, none⟩ (.slice (some ⟨g, 0, none⟩) (D.q.length + 1) cap)) := (hc0.mono (fun k hk => by simp [hk])).setCell _ _ (.inl (by simp))
  obtain ⟨d1, d2, d3, d4, d5, d6⟩ := h.nds
  have hgo : g ∈ qv.ownBlock.toList ∨ w.heap.size ≤ g := by
    rcases hat with e | e
    · exact .inl (by rw [e]; simp)
    · exact .inr (by rw [e]; exact hw1.size)
  have hgn : g ≠ p ∧ g ≠ bs ∧ g ≠ be ∧ g ∉ avBlk av := by
    rcases hgo with e | e
    · exact ⟨(d4 g e).1, (d4 g e).2.1, (d4 g e).2.2, d6 g e⟩
    · have l1 := h.hp.lt
      have l2 := h.hs.lt
      have l3 := h.he.lt
      exact ⟨by omega, by omega, by omega, fun hm => by have := h.ha.lt g hm; omega⟩
  have nq : ∀ k, k = p ∨ k = bs ∨ k = be ∨ k ∈ avBlk av → k ∉ qv.ownBlock.toList := by
    intro k hk hm
    have h4 := d4 k hm
    rcases hk with rfl | rfl | rfl | hk
    · exact h4.1 rfl
    · exact h4.2.1 rfl
    · exact h4.2.2 rfl
    · exact d6 k hm hk
  have np : ∀ k, k = bs ∨ k = be ∨ k ∈ avBlk av → k ∉ p :: qv.ownBlock.toList := by
    intro k hk
    simp only [List.mem_cons, not_or]
    refine ⟨?_, nq k (.inr (by rcases hk with h | h | h <;> simp [h]))⟩
    rcases hk with rfl | rfl | hk
    · exact fun e => d1 e.symm
    · exact fun e => d2 e.symm
    · exact (d5 k hk).1
  refine ⟨dkOwn p bs be (.slice (some ⟨g, 0, none⟩) (D.q.length + 1) cap) av, ⟨bs, be, _, av, ⟨?_, h.hs.kept hc (np bs (.inl rfl)), h.he.kept hc (np be (.inr (.inl rfl))), ?_, h.ha.kept hc (fun k hk => np k (.inr (.inr hk))), ?_, ?_⟩, rfl⟩, hc.mono ?_, ?_⟩
  · exact (hc0.blk h.hp (nq p (.inl rfl))).set 2 _
  · have := row_kept hrow (Chg.setCell (Chg.refl [p] w') ⟨p, 2, none⟩ (.slice (some ⟨g, 0, none⟩) (D.q.length + 1) cap) (.inl (by simp))) (by simp [Value.ownBlock]; exact hgn.1)
    simpa [DK.push, qcells_append] using this
  · have := h.nd
    simp only [dkOwn, List.cons_append, List.nil_append, List.nodup_cons, List.mem_cons, List.mem_append, List.nodup_append, not_or, Value.ownBlock, Option.toList_some, List.mem_singleton, List.not_mem_nil, not_false_eq_true, List.nodup_nil, true_and, and_true] at this ⊢
    obtain ⟨⟨h1, h2, h3, h4⟩, ⟨h5, h6, h7⟩, ⟨h8, h9⟩, h10, h11, h12⟩ := this
    exact ⟨⟨h1, h2, fun e => hgn.1 e.symm, h4⟩, ⟨h5, fun e => hgn.2.1 e.symm, h7⟩, ⟨fun e => hgn.2.2.1 e.symm, h9⟩, hgn.2.2.2, h11⟩
  · exact DK.push_ok h.ok s t (by simp only [DK.valid, decide_eq_true_eq]; omega) ht
  · intro k hk
    simp only [List.mem_cons] at hk
    rcases hk with rfl | hk
    · exact mem_dkOwn.2 (.inl rfl)
    · exact mem_dkOwn.2 (by simp [hk])
  · intro k hk
    rcases mem_dkOwn.1 hk with rfl | rfl | rfl | hk | hk
    · exact .inl (mem_dkOwn.2 (by simp))
    · exact .inl (mem_dkOwn.2 (by simp))
    · exact .inl (mem_dkOwn.2 (by simp))
    · simp only [Value.ownBlock, Option.toList_some, List.mem_singleton] at hk
      subst hk
      rcases hgo with e | e
      · exact .inl (mem_dkOwn.2 (by simp [e]))
      · exact .inr e
    · exact .inl (mem_dkOwn.2 (by simp [hk]))

theorem write_nil (w : World) (s : Int) (t : ByteArray) :
    Calls Tryz.prog 76 #[.pointer none, .int .i64 s, .string t] w fun e w' => e = .returned (.int .i64 1) ∧ Chg [] w w' := by
  go_enter Tryz.func76, Tryz.ntmps76
  go_wp2_with fail
  refine (at_nil w s).mono ?_
  rintro e w1 ⟨rfl, hc⟩
  go_wp2_with fail
  go_ret
  exact ⟨rfl, hc.alloc _⟩
theorem write_off (w : World) (p : Nat) (s : Int) (t : ByteArray) (hp : p < w.heap.size) (h3 : w.cell? ⟨p, 3, none⟩ = some (.bool true)) :
    Calls Tryz.prog 76 #[.pointer (some ⟨p, 0, none⟩), .int .i64 s, .string t] w fun e w' => e = .returned (.int .i64 24) ∧ Chg [] w w' := by
  go_enter Tryz.func76, Tryz.ntmps76
  go_wp2_with fail
  refine (at_off w p s hp h3).mono ?_
  rintro e w1 ⟨rfl, hc⟩
  go_wp2_with fail
  go_ret
  exact ⟨rfl, hc.alloc _⟩
theorem write_bad (w : World) (p bs n : Nat) (s : Int) (t : ByteArray) (hp : p < w.heap.size) (hn : n ≤ 4000) (h0 : w.cell? ⟨p, 0, none⟩ = some (.slice (some ⟨bs, 0, none⟩) (n*64) (n*64))) (h3 : w.cell? ⟨p, 3, none⟩ = some (.bool false)) (hs : s < 0 ∨ n ≤ s) :
    Calls Tryz.prog 76 #[.pointer (some ⟨p, 0, none⟩), .int .i64 s, .string t] w fun e w' => e = .returned (.int .i64 1) ∧ Chg [] w w' := by
  go_enter Tryz.func76, Tryz.ntmps76
  go_wp2_with fail
  refine (at_bad w p bs n s hp hn h0 h3 hs).mono ?_
  rintro e w1 ⟨rfl, hc⟩
  go_wp2_with fail
  go_ret
  exact ⟨rfl, hc.alloc _⟩
theorem write_len (w : World) (p bs n : Nat) (s : Int) (t : ByteArray) (hp : p < w.heap.size) (hn : n ≤ 4000) (h0 : w.cell? ⟨p, 0, none⟩ = some (.slice (some ⟨bs, 0, none⟩) (n*64) (n*64))) (h3 : w.cell? ⟨p, 3, none⟩ = some (.bool false)) (hs0 : 0 ≤ s) (hs1 : s < n)
    (ht : ((t.size : Int) == 64) = false) :
    Calls Tryz.prog 76 #[.pointer (some ⟨p, 0, none⟩), .int .i64 s, .string t] w fun e w' => e = .returned (.int .i64 1) ∧ Chg [] w w' := by
  go_enter Tryz.func76, Tryz.ntmps76
  go_wp2_with fail
  refine (at_ok w p bs n s hp hn h0 h3 hs0 hs1).mono ?_
  rintro e w1 ⟨rfl, hc⟩
  go_wp2_with fail
  go_ret
  exact ⟨rfl, hc.alloc _⟩

set_option maxHeartbeats 1000000 in
theorem write_push {w : World} {p bs be : Nat} {qv av : Value} {D : DK} (H : Hid (DkR w p bs be qv av D)) (hoff : D.off = false) (hq : D.q.length ≤ 900000) (s : Nat) (hs : s < D.n) (t : ByteArray) (Ht : Hid (t.data.toList.length = 64)) (ht : ((t.size : Int) == 64) = true) :
    Calls Tryz.prog 76 #[.pointer (some ⟨p, 0, none⟩), .int .i64 s, .string t] w fun e w' => e = .returned (.int .i64 (D.push s t.data.toList).count.1) ∧ DkTo w (dkOwn p bs be qv av) p (D.push s t.data.toList).count.2 w' := by
  have h0 := H.out.hp.cell (i := 0) rfl
  have h3 : w.cell? ⟨p, 3, none⟩ = some (.bool false) := by have := H.out.hp.cell (i := 3) rfl; rw [hoff] at this; exact this
  have hp := H.out.hp.lt
  have n2 := H.out.ok.n2
  obtain ⟨i0, hi, hz0, hz1, hz2⟩ := info_parts info_pend
  clear hoff
  go_enter Tryz.func76, Tryz.ntmps76
  go_wp2_with fail
  refine (at_ok w p bs D.n s hp n2 h0 h3 (by omega) (by omega)).mono ?_
  rintro e w1 ⟨rfl, hc⟩
  go_upto_region 6 with fail
  obtain ⟨w2, hw2⟩ : ∃ w2, w2 = w1.alloc (.cells #[.int .i64 ((s : Int) * 64), .int .i64 (((s : Int) + 1) * 64)] 87) := ⟨_, rfl⟩
  rw [← hw2]
  have hc2 : Chg [] w w2 := by rw [hw2]; exact hc.alloc _
  have hb : Blk w2 w1.heap.size [.int .i64 ((s : Int) * 64), .int .i64 (((s : Int) + 1) * 64)] 87 := by rw [hw2]; exact Blk.new w1 [.int .i64 ((s : Int) * 64), .int .i64 (((s : Int) + 1) * 64)] _
  have hD2 := H.out.kept hc2 (by simp)
  have hbne : w1.heap.size ≠ p := by have := hc.size; omega
  generalize w1.heap.size = tb at *
  have k2 := hD2.hp.cell (i := 2) rfl
  have kf := hD2.hp.free 2
  have hpl := hD2.hp.lt
  have hbl := hb.lt
  have b0 := hb.cell (i := 0) rfl
  have b1 := hb.cell (i := 1) rfl
  have HC2 := Lib.hid hc2
  have HR := Lib.hid hD2.hq
  have HD2 := Lib.hid hD2
  have hqp : qv.ownBlock ≠ some p := fun e => (hD2.nds.2.2.2.1 p (by rw [e]; simp)).1 rfl
  clear hc2 hD2 hw2 hc h0 h3 hp hb
  clear w1
  have hHR := HR.out
  go_cut [6] (fun s6 wx => s6 = .int .i64 0 ∧ DkTo w (dkOwn p bs be qv av) p (D.push s t.data.toList) wx)
  case first =>
    go_region_law ((refine step_append_lies (w2.alloc (.cells #[.int .i64 ((s : Int) * 64), .int .i64 (((s : Int) + 1) * 64), .string t] 89)).drew rfl (.tmp 25) (.tmp 29) 70 rfl 0 89 i0 (.agg #[.int .i64 0, .int .i64 0, .string ⟨#[]⟩]) 3 32 Tryz.underlying70 hi hz0 hz1 hz2 rfl (by decide) qv D.q.length (qcells D.q) rfl (by exact HR.out.alloc _) ⟨w2.heap.size, 0, none⟩ 1 1 [.int .i64 ((s : Int) * 64), .int .i64 (((s : Int) + 1) * 64), .string t] rfl rfl (by exact fun j u hj => (by rw [addr_add, Nat.zero_add]; exact (Blk.new w2 [.int .i64 ((s : Int) * 64), .int .i64 (((s : Int) + 1) * 64), .string t] _).cell hj)) (by intro v hv; simp at hv; rcases hv with rfl | rfl | rfl <;> rfl) (by decide) (by unfold maxLen; omega) (by omega) (by exact Nat.zero_le _) _ rfl (fun g cap w' hown hgrow hat hlt => ?_)); (have e2 : w'.cell? ⟨p, 2, none⟩ = some qv := (hgrow.cell_far ⟨p, 2, none⟩ (by simp; omega) (fun e => hqp e.symm)).trans ((World.cell?_alloc_past _ p 2 hpl).trans k2)); (have ef : w'.frozen? ⟨p, 2, none⟩ = false := (hgrow.frozen_far ⟨p, 2, none⟩ (by simp; omega) (fun e => hqp e.symm)).trans ((World.frozen?_alloc_past _ p 2 hpl).trans kf)))
    all_goals
      go_wp2_with fail
      go_meet
      exact ⟨rfl, H.out.pushed s t.data.toList hs Ht.out ((HC2.out.alloc _).drew) hgrow (by simpa [qcells] using hown) hat hlt⟩
  case rest =>
    obtain ⟨rfl, own', hD, hC, hN⟩ := hcut
    have HD := Lib.hid hD
    have HC := Lib.hid hC
    have HN := Lib.hid hN
    clear hD hC hN hHR
    go_wp2_with fail
    refine (count_spec HD.out (by simp only [DK.push, List.length_append, List.length_cons, List.length_nil]; omega)).mono ?_
    rintro e w3 ⟨rfl, hT⟩
    have HT := Lib.hid (DkTo.trans HC.out HN.out hT)
    clear hT
    go_wp2_with fail
    go_ret
    exact ⟨rfl, HT.out⟩

theorem write_spec {w : World} {own : List Nat} {p : Nat} {D : DK} (h : DkAt w own p D) (hq : D.q.length ≤ 900000) (s : Int) (t : ByteArray) :
    Calls Tryz.prog 76 #[.pointer (some ⟨p, 0, none⟩), .int .i64 s, .string t] w fun e w' => e = .returned (.int .i64 (D.write s t.data.toList).1) ∧ DkTo w own p (D.write s t.data.toList).2 w' := by
  obtain ⟨bs, be, qv, av, h, rfl⟩ := h
  have h0 := h.hp.cell (i := 0) rfl
  have h3 := h.hp.cell (i := 3) rfl
  have hp := h.hp.lt
  have n2 := h.ok.n2
  have key : ∀ x : Int, ∀ e w', (e = Ending.returned (.int .i64 x) ∧ Chg [] w w') → e = Ending.returned (.int .i64 x) ∧ DkTo w (dkOwn p bs be qv av) p D w' := by
    rintro x e w' ⟨rfl, hc⟩
    exact ⟨rfl, DkAt.to ⟨bs, be, qv, av, h, rfl⟩ hc⟩
  by_cases hoff : D.off = true
  · rw [show D.write s t.data.toList = (24, D) from by simp [DK.write, hoff]]
    exact (write_off w p s t hp (by rw [← hoff]; exact h3)).mono (key 24)
  · have hoff' : D.off = false := by simpa using hoff
    by_cases hv : D.valid s = true
    · have hv' := hv
      simp only [DK.valid, decide_eq_true_eq] at hv'
      by_cases ht : t.data.toList.length = 64
      · have ht' : ((t.size : Int) == 64) = true := by rw [Lib.size_eq, ht]; rfl
        rw [show D.write s t.data.toList = (D.push s t.data.toList).count from by unfold DK.write; rw [if_neg hoff, if_neg (by rw [hv]; simp), if_neg (by rw [ht]; simp)]]
        obtain ⟨k, rfl⟩ := Int.eq_ofNat_of_zero_le hv'.1
        exact write_push (Lib.hid h) hoff' (by omega) k (by omega) t (Lib.hid ht) ht'
      · have ht' : ((t.size : Int) == 64) = false := by rw [Lib.size_eq, beq_eq_false_iff_ne]; omega
        rw [show D.write s t.data.toList = (1, D) from by unfold DK.write; rw [if_neg hoff, if_neg (by rw [hv]; simp), if_pos ht]]
        exact (write_len w p bs D.n s t hp n2 h0 (by rw [← hoff']; exact h3) hv'.1 hv'.2 ht').mono (key 1)
    · have hv' : D.valid s = false := by simpa using hv
      rw [show D.write s t.data.toList = (1, D) from by simp [DK.write, hoff', hv']]
      refine (write_bad w p bs D.n s t hp n2 h0 (by rw [← hoff']; exact h3) ?_).mono (key 1)
      simp only [DK.valid, decide_eq_false_iff_not] at hv'
      omega
end Go.Proofs.YtpmkgedlnanjiaaGreatDoor
