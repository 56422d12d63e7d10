/-
  The reference disk of layer 43: contracts of Write and Read.
-/
import Derived.Test.YtnlgblcldbdnlaaRfC
import Derived.Test.YtnlgblcldbdnlaaDkI
namespace Go.Proofs.Ytnlgblcldbdnlaa
set_option linter.unusedVariables false
set_option linter.unusedSimpArgs false
open Go Go.RowKit
attribute [local irreducible] Go.wpStill

theorem info_rpend : (Try.prog.info? 73).map (fun i => (i.zero, i.size, i.bytes)) = some (some (.agg #[.int .i64 0, .string ⟨#[]⟩]), 2, 24) := by kernel_rfl

theorem RfR.pushed {w w1 w' : World} {p gs cs ge ce g cap : Nat} {qv : Value} {A W B : Int} {D : DK} (h : RfR w p gs cs ge ce qv A W B D) (s : Nat) (t : Bytes) (hs : s < D.n) (ht : t.length = 64)
    (hw1 : Chg [] w w1) (hg : w1.grownBy w' qv.ownBlock) (hrow : w'.ownsRow 0 73 2 (.slice (some ⟨g, 0, none⟩) (D.q.length + 1) cap) (D.q.length + 1) (rcells D.q ++ rcells [(s, t)]))
    (hat : qv.ownBlock = some g ∨ g = w1.heap.size) (hlt : g < w'.heap.size) :
    RfTo w (rfOwn p gs ge qv) p (D.push s t) (w'.setCell ⟨p, 2, none⟩ (.slice (some ⟨g, 0, none⟩) (D.q.length + 1) cap)) := by
  have hc0 : Chg qv.ownBlock.toList w w' := (hw1.mono (by simp)).grown hg (fun k hk => .inl (by rw [hk]; simp))
  have hc : Chg (p :: qv.ownBlock.toList) w (w'.setCell ⟨p, 2, none⟩ (.slice (some ⟨g, 0, none⟩) (D.q.length + 1) cap)) := (hc0.mono (fun k hk => by simp [hk])).setCell _ _ (.inl (by simp))
  obtain ⟨d1, d2, d3, d4⟩ := h.nd
  have hgo : g ∈ qv.ownBlock.toList ∨ w.heap.size ≤ g := by
    rcases hat with e | e
    · exact .inl (by rw [e]; simp)
    · exact .inr (by rw [e]; exact hw1.size)
  have l1 := h.hp.lt
  have l2 := h.gsl
  have l3 := h.gel
  have hgn : g ≠ p ∧ g ≠ gs ∧ g ≠ ge := by
    rcases hgo with e | e
    · exact d4 g e
    · exact ⟨by omega, by omega, by omega⟩
  have np : p ∉ qv.ownBlock.toList := fun hm => (d4 p hm).1 rfl
  have ngs : gs ∉ qv.ownBlock.toList := fun hm => (d4 gs hm).2.1 rfl
  have nge : ge ∉ qv.ownBlock.toList := fun hm => (d4 ge hm).2.2 rfl
  have hp' : Blk (w'.setCell ⟨p, 2, none⟩ (.slice (some ⟨g, 0, none⟩) (D.q.length + 1) cap)) p (rfCells gs cs ge ce D.n (.slice (some ⟨g, 0, none⟩) (D.q.length + 1) cap) D.off D.arm.isSome A W B) 64 := (hc0.blk h.hp np).set 2 _
  have hr' := row_kept hrow (Chg.setCell (Chg.refl [p] w') ⟨p, 2, none⟩ (.slice (some ⟨g, 0, none⟩) (D.q.length + 1) cap) (.inl (by simp))) (by simp [Value.ownBlock]; exact hgn.1)
  have hok := DK.push_ok h.ok s t (by simp only [DK.valid, decide_eq_true_eq]; omega) ht
  have hql : (D.push (s : Int) t).q = D.q ++ [(s, t)] := rfl
  refine RfR.to (qv := qv) (D := D.push s t) ⟨hp', h.hs.kept hc (fun k hk => ?_), h.he.kept hc (fun k hk => ?_), ?_, h.ha, ⟨d1, d2, d3, ?_⟩, hok⟩ (hc.mono (fun k hk => ?_)) (fun k hk => ?_)
  · simp [Value.ownBlock] at hk; subst hk; simp only [List.mem_cons, not_or]; exact ⟨fun e => d1 e.symm, ngs⟩
  · simp [Value.ownBlock] at hk; subst hk; simp only [List.mem_cons, not_or]; exact ⟨fun e => d2 e.symm, nge⟩
  · rw [hql, rcells_append, List.length_append]
    exact hr'
  · intro k hk; simp [Value.ownBlock] at hk; subst hk; exact hgn
  · rcases List.mem_cons.1 hk with rfl | hk
    · exact mem_rfOwn.2 (.inl rfl)
    · exact mem_rfOwn.2 (.inr (.inr (.inr hk)))
  · simp [Value.ownBlock] at hk; subst hk; exact hgo

theorem rwrite_off (w : World) (p : Nat) (s : Int) (t : ByteArray) (k3 : w.cell? ⟨p, 3, none⟩ = some (.bool false)) :
    Calls Try.prog 32 #[.pointer (some ⟨p, 0, none⟩), .int .i64 s, .string t] w fun e w' => e = .returned (.int .i64 24) ∧ Chg [] w w' := by
  go_enter Try.func32, Try.ntmps32
  go_wp2_with fail
  go_ret
  exact ⟨rfl, Chg.refl _ _⟩
theorem rwrite_neg (w : World) (p : Nat) (s : Int) (t : ByteArray) (k3 : w.cell? ⟨p, 3, none⟩ = some (.bool true)) (hs : s < 0) :
    Calls Try.prog 32 #[.pointer (some ⟨p, 0, none⟩), .int .i64 s, .string t] w fun e w' => e = .returned (.int .i64 1) ∧ Chg [] w w' := by
  go_enter Try.func32, Try.ntmps32
  go_wp2_with fail
  go_ret
  exact ⟨rfl, Chg.refl _ _⟩
theorem rwrite_big (w : World) (p n c : Nat) (ao : Option Addr) (s : Int) (t : ByteArray) (k3 : w.cell? ⟨p, 3, none⟩ = some (.bool true)) (k0 : w.cell? ⟨p, 0, none⟩ = some (.slice ao n c)) (h0 : 0 ≤ s) (hs : (n : Int) ≤ s) :
    Calls Try.prog 32 #[.pointer (some ⟨p, 0, none⟩), .int .i64 s, .string t] w fun e w' => e = .returned (.int .i64 1) ∧ Chg [] w w' := by
  go_enter Try.func32, Try.ntmps32
  go_wp2_with fail
  go_ret
  exact ⟨rfl, Chg.refl _ _⟩
theorem rwrite_len (w : World) (p n c : Nat) (ao : Option Addr) (s : Int) (t : ByteArray) (k3 : w.cell? ⟨p, 3, none⟩ = some (.bool true)) (k0 : w.cell? ⟨p, 0, none⟩ = some (.slice ao n c)) (h0 : 0 ≤ s) (hs : s < (n : Int)) (ht : ((t.size : Int) != 64) = true) :
    Calls Try.prog 32 #[.pointer (some ⟨p, 0, none⟩), .int .i64 s, .string t] w fun e w' => e = .returned (.int .i64 1) ∧ Chg [] w w' := by
  go_enter Try.func32, Try.ntmps32
  go_wp2_with fail
  go_ret
  exact ⟨rfl, Chg.refl _ _⟩

set_option maxHeartbeats 1000000 in
theorem rwrite_push {w : World} {p gs cs ge ce : Nat} {qv : Value} {A W B : Int} {D : DK} (H : Hid (RfR w p gs cs ge ce qv A W B D)) (hoff : D.off = false) (hq : D.q.length ≤ 900000) (s : Nat) (hs : s < D.n) (t : ByteArray) (Ht : Hid (t.data.toList.length = 64)) (ht : ((t.size : Int) != 64) = false) :
    Calls Try.prog 32 #[.pointer (some ⟨p, 0, none⟩), .int .i64 s, .string t] w fun e w' => e = .returned (.int .i64 (D.push s t.data.toList).count.1) ∧ RfTo w (rfOwn p gs ge qv) p (D.push s t.data.toList).count.2 w' := by
  have k0 := H.out.hp.cell (i := 0) rfl
  have k2 := H.out.hp.cell (i := 2) rfl
  have k3 : w.cell? ⟨p, 3, none⟩ = some (.bool true) := by have := H.out.hp.cell (i := 3) rfl; rw [hoff] at this; exact this
  have f2 := H.out.hp.free 2
  have hpl := H.out.hp.lt
  have n2 := H.out.ok.n2
  have hqp : qv.ownBlock ≠ some p := fun e => (H.out.nd.2.2.2 p (by rw [e]; simp)).1 rfl
  obtain ⟨i0, hi, hz0, hz1, hz2⟩ := info_parts info_rpend
  clear hoff
  go_enter Try.func32, Try.ntmps32
  go_wp2_with (at_builtin; refine wpList_append_lies _ rfl (.tmp 32) (.tmp 36) 62 rfl 0 73 i0 (.agg #[.int .i64 0, .string ⟨#[]⟩]) 2 24 Try.underlying62 hi hz0 hz1 hz2 rfl (by decide) qv D.q.length (rcells D.q) rfl (by exact H.out.hq.alloc _) ⟨w.heap.size, 0, none⟩ 1 1 [.int .i64 (s : Int), .string t] rfl rfl ?c1 ?c2 (by decide) (by unfold maxLen; omega) (by omega) (Nat.zero_le _) _ rfl ?kk)
  case c1 =>
    intro j u hj
    rw [addr_add, Nat.zero_add]
    exact (Blk.new w [.int .i64 (s : Int), .string t] _).cell hj
  case c2 => intro v hv; simp at hv; rcases hv with rfl | rfl <;> rfl
  case kk =>
    intro g cap w' hown hgrow hat hlt
    have e2 : w'.cell? ⟨p, 2, none⟩ = some qv := (hgrow.cell_far ⟨p, 2, none⟩ (by simp; omega) (fun e => hqp e.symm)).trans ((World.cell?_alloc_past _ p 2 hpl).trans k2)
    have ef : w'.frozen? ⟨p, 2, none⟩ = false := (hgrow.frozen_far ⟨p, 2, none⟩ (by simp; omega) (fun e => hqp e.symm)).trans ((World.frozen?_alloc_past _ p 2 hpl).trans f2)
    have hT := H.out.pushed s t.data.toList hs Ht.out ((Chg.refl [] w).alloc _) hgrow (by simpa [rcells] using hown) (by simpa using hat) hlt
    have HT := Lib.hid hT
    clear hT hown hgrow hat hlt k0 k2 k3 f2
    go_wp2_with fail
    obtain ⟨own', hD, hC, hN⟩ := HT.out
    refine (rcount_spec hD (by simp only [DK.push, List.length_append, List.length_cons, List.length_nil]; omega)).mono ?_
    rintro e w3 ⟨rfl, hT2⟩
    have HT2 := Lib.hid (RfTo.trans hC hN hT2)
    clear hD hC hN hT2
    go_wp2_with fail
    go_ret
    exact ⟨rfl, HT2.out⟩

theorem rwrite_spec {w : World} {own : List Nat} {p : Nat} {D : DK} (h : RfAt w own p D) (hq : D.q.length ≤ 900000) (s : Int) (t : ByteArray) :
    Calls Try.prog 32 #[.pointer (some ⟨p, 0, none⟩), .int .i64 s, .string t] w fun e w' => e = .returned (.int .i64 (D.write s t.data.toList).1) ∧ RfTo w own p (D.write s t.data.toList).2 w' := by
  have hA := h
  obtain ⟨gs, cs, ge, ce, qv, A, W, B, h, rfl⟩ := h
  have k0 := h.hp.cell (i := 0) rfl
  have k3 := h.hp.cell (i := 3) rfl
  have key : ∀ x : Int, ∀ e w', (e = Ending.returned (.int .i64 x) ∧ Chg [] w w') → e = Ending.returned (.int .i64 x) ∧ RfTo w (rfOwn p gs ge qv) p D w' := by
    rintro x e w' ⟨rfl, hc⟩
    exact ⟨rfl, hA.to hc⟩
  by_cases hoff : D.off = true
  · rw [show D.write s t.data.toList = (24, D) from by simp [DK.write, hoff]]
    exact (rwrite_off w p s t (by rw [hoff] at k3; exact k3)).mono (key 24)
  · have hoff' : D.off = false := by simpa using hoff
    have k3' : w.cell? ⟨p, 3, none⟩ = some (.bool true) := by rw [hoff'] at k3; exact k3
    by_cases hv : D.valid s = true
    · have hv' := hv
      simp only [DK.valid, decide_eq_true_eq] at hv'
      by_cases ht : t.data.toList.length = 64
      · have ht' : ((t.size : Int) != 64) = false := by rw [Lib.size_eq, ht]; rfl
        rw [show D.write s t.data.toList = (D.push s t.data.toList).count from by unfold DK.write; rw [if_neg hoff, if_neg (by rw [hv]; simp), if_neg (by rw [ht]; simp)]]
        obtain ⟨k, rfl⟩ := Int.eq_ofNat_of_zero_le hv'.1
        exact rwrite_push (Lib.hid h) hoff' (by omega) k (by omega) t (Lib.hid ht) ht'
      · have ht' : ((t.size : Int) != 64) = true := by rw [Lib.size_eq, bne_iff_ne]; omega
        rw [show D.write s t.data.toList = (1, D) from by unfold DK.write; rw [if_neg hoff, if_neg (by rw [hv]; simp), if_pos ht]]
        exact (rwrite_len w p D.n cs _ s t k3' k0 hv'.1 hv'.2 ht').mono (key 1)
    · have hv' : D.valid s = false := by simpa using hv
      rw [show D.write s t.data.toList = (1, D) from by simp [DK.write, hoff', hv']]
      simp only [DK.valid, decide_eq_false_iff_not] at hv'
      by_cases h0 : 0 ≤ s
      · exact (rwrite_big w p D.n cs _ s t k3' k0 h0 (by omega)).mono (key 1)
      · exact (rwrite_neg w p s t k3' (by omega)).mono (key 1)
end Go.Proofs.Ytnlgblcldbdnlaa
