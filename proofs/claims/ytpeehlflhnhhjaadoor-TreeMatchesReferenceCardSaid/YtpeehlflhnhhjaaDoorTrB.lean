/-
  Layer 4: the chunks of two of a slice: the library's iterator.
-/
import Derived.Test.YtpeehlflhnhhjaaDoorTrA
import Derived.RangeFuncNested
import Derived.RangeFuncBound
import Derived.RangeFuncCalls
import Derived.RangeFuncLeaves
import Derived.Shelf.Abstract
import Derived.Shelf.RegionOpen
import Derived.OwnWalkIn
import Derived.TacticsInMore
import Derived.LoopNIn
import Derived.LoopIn
namespace Go.Proofs.YtpeehlflhnhhjaaDoor
set_option linter.unusedVariables false
set_option linter.unusedSimpArgs false
open Go Go.RowKit Go.Shelf
attribute [local go_sem] Oper.semAt_some

/-- What round k of the chunks hands over: a part of the slice. -/
def chunk (g off n cap k : Nat) : Value := .slice (some ⟨g, off + 2 * k, none⟩) (min 2 (n - 2 * k)) (min 2 (n - 2 * k))
set_option maxRecDepth 100000 in
set_option maxHeartbeats 2000000 in
theorem chunk1_in (n : Nat) (hn : 1 ≤ n) (l Bs Bn g off len cap : Nat) (hlen : len ≤ 1000000) (hcap : len ≤ cap) (J Jx : List Nat → World → Prop) (hJd : ∀ pre W, J pre W → J pre W.drew)
    (hY : ∀ pre k W, J pre W → 2 * k < len → pre.length < len → YieldAt Fence.wide (n - 1) Tryd.prog l #[chunk g off len cap k] W fun e W' =>
      (e = .returned (.bool true) ∧ J (pre ++ [k]) W' ∧ (W'.heap[Bs]? = W.heap[Bs]? ∧ W'.heap[Bn]? = W.heap[Bn]?)) ∨ (e = .returned (.bool false) ∧ Jx (pre ++ [k]) W'))
    (W : World) (hBs : W.cell? ⟨Bs, 0, none⟩ = some (.slice (some ⟨g, off, none⟩) len cap)) (hBn : W.cell? ⟨Bn, 0, none⟩ = some (.int .i64 2)) (h0 : J [] W) :
    CallsIn Fence.wide n Tryd.prog 43 #[.func (.yield l) #[] #[], .pointer (some ⟨Bs, 0, none⟩), .pointer (some ⟨Bn, 0, none⟩)] W fun e W' => (∃ v, e = .returned v) ∧
      ((∃ ys, ys = List.range ((len + 1) / 2) ∧ J ys W') ∨ (∃ pre, True ∧ Jx pre W')) := by
  refine callsIn_of_wp Tryd.func43 rfl trivial ?_ rfl
  simp only [Tryd.ntmps43, List.size_toArray, List.length_cons, List.length_nil, Nat.reduceAdd, Nat.reduceSub, Array.replicate_succ, Array.replicate_zero, List.push_toArray, List.append_toArray, List.nil_append, List.cons_append]
  gi_wp2
  gi_loopw [4] (fun i wr => ∃ k : Nat, k ≤ (len + 1) / 2 ∧ i = .int .i64 ((2 * k : Nat) : Int) ∧ J (List.range k) wr ∧ wr.heap[Bs]? = W.heap[Bs]? ∧ wr.heap[Bn]? = W.heap[Bn]?)
    (fun i _ => 2 * len - (intOf i).toNat)
  case atStart => exact ⟨0, Nat.zero_le _, rfl, h0, rfl, rfl⟩
  case round =>
    obtain ⟨k, hk, rfl, hJs, hh1, hh2⟩ := hrel
    have c1 := (World.cell?_of_block (a := ⟨Bs, 0, none⟩) hh1).trans hBs
    have c2 := (World.cell?_of_block (a := ⟨Bn, 0, none⟩) hh2).trans hBn
    by_cases hlt : 2 * k < len
    · have HK := Lib.hid hlt
      obtain ⟨m, hm⟩ : ∃ m, m = min 2 (len - 2 * k) := ⟨_, rfl⟩
      have hm1 : m ≤ 2 := by omega
      have HM := Lib.hid hm
      obtain ⟨fn, tmps, assign, body, hy, hR⟩ := hY _ k wr.drew (hJd _ _ hJs) hlt (by rw [List.length_range]; omega)
      unfold chunk at hy
      rw [← hm] at hy
      generalize hj : 2 * k = j at *
      have HJ2 := Lib.hid hj
      have q1 : j ≤ len := by omega
      have q2 : j ≤ cap := by omega
      have q3 : ¬ cap = j := by omega
      have q4 : (j : Int) ≤ (len : Int) := by omega
      have q5 : (j : Int) ≤ (cap : Int) := by omega
      have q6 : min (2 : Int) ((len - j : Nat) : Int) = (m : Int) := by omega
      have q7 : j + m ≤ cap := by omega
      have q8 : ¬ m = 0 := by omega
      have q9 : (j : Int) + m ≤ (cap : Int) := by omega
      clear hm hj
      gi_wp2
      refine wpIn_wide.2 ?_
      refine wp_region_reads (by kernel_rfl) (by kernel_rfl) (fun L hL => ?_)
      repeat still_step
      refine wpStill_nil (hL _ ?_)
      clear hL L
      gi_wp2
      refine hR.mono ?_
      rintro e W3 (⟨rfl, hJ3, hh3, hh4⟩ | ⟨rfl, hJx3⟩)
      · have e2 : W3.cell? ⟨Bn, 0, none⟩ = some (.int .i64 2) := (World.cell?_of_block (a := ⟨Bn, 0, none⟩) (hh4.trans hh2)).trans hBn
        have HH3 := Lib.hid (hh3.trans hh1)
        have HH4 := Lib.hid (hh4.trans hh2)
        have HJ3 := Lib.hid hJ3
        clear hh3 hh4 hJ3 hy hR c1 c2
        gi_wp2
        go_roundw
        case rel => exact ⟨k + 1, by have := HK.out; have := HJ2.out; omega, vint (by have := HJ2.out; omega), by rw [List.range_succ]; exact HJ3.out, HH3.out, HH4.out⟩
        case measure => simp [intOf]; omega
      · gi_wp2
        refine bodyPost_ret (results_none rfl _ _ _) rfl ?_
        exact ⟨⟨_, rfl⟩, .inr ⟨_, trivial, hJx3⟩⟩
    · have hkk : k = (len + 1) / 2 := by omega
      have HKK := Lib.hid hkk
      generalize hj : 2 * k = j at *
      clear hkk hj
      gi_wp2
      go_end0
      exact ⟨⟨_, rfl⟩, .inl ⟨_, rfl, by rw [← HKK.out]; exact hJs⟩⟩
end Go.Proofs.YtpeehlflhnhhjaaDoor
