/-
  The walk of DiskAll, and the plain law behind it.
-/
import Derived.Test.YtnlgblcldbdnlaaLwH
import Derived.Test.YtnlgblcldbdnlaaLwG
namespace Go.Proofs.Ytnlgblcldbdnlaa
set_option linter.unusedVariables false
set_option linter.unusedSimpArgs false
open Go Go.RowKit

theorem all_law (D : DK) (hq : D.q.length ≤ 60) (b m : Int) : (((D.start.fail 60 b).fail m b).start).start.all = ((D.start.flush).fail 0 b).start.all := by
  have hoff : D.start.off = false := rfl
  have hq' : D.start.q.length ≤ 60 := hq
  have hcut : D.start.cut 60 = D.start.q.length := by unfold DK.cut; omega
  have e1 : D.start.fail 60 b = { D.start.settle D.start.q with q := [], off := true, arm := none } := by
    unfold DK.fail DK.down
    rw [if_neg (by rw [hoff]; simp), hcut, List.take_length, List.drop_length]
    rfl
  have e2 : (D.start.fail 60 b).fail m b = D.start.fail 60 b := by
    rw [e1]; unfold DK.fail; rw [if_pos rfl]
  have hoff2 : D.start.flush.off = false := DK.settle_off _ _
  have e3 : D.start.flush.fail 0 b = { D.start.settle D.start.q with q := [], off := true, arm := none } := by
    unfold DK.fail DK.down
    rw [if_neg (by rw [hoff2]; simp)]
    rfl
  rw [e2, e1, e3]
  rfl

theorem run_new_q (n : Nat) (l : List ActD) (h : l.length ≤ 60) : ((DK.new n).run l).q.length ≤ 60 := by
  have := DK.run_q l (DK.new n)
  have h0 : (DK.new n).q.length = 0 := rfl
  omega

set_option maxHeartbeats 2000000 in
set_option maxRecDepth 100000 in
theorem diskAll_walk (w : World) (raw : Nat) (hraw : raw < 256) (ao : Option Addr) (n cap : Nat) (l : List ActD) (H : Hid (ActsAt w (.slice ao n cap) l)) (hn : n ≤ 9223372036854775807) (Ha : Hid (∀ x ∈ l, x.after ≤ 9223372036854775807)) (b : Int) (_ : -9223372036854775808 ≤ b ∧ b ≤ 9223372036854775807) (m : Int) (_ : -9223372036854775808 ≤ m ∧ m ≤ 9223372036854775807) :
    Calls Try.prog 7 #[.int .u8 raw, .slice ao n cap, .int .i64 b, .int .i64 m] w fun e w' => e = .returned (.bool true) ∧ Chg [] w w' := by
  by_cases hok : okL l = true
  · have hok' := hok
    unfold okL at hok'
    rw [Bool.and_eq_true, List.all_eq_true, decide_eq_true_eq] at hok'
    have Htx : Hid (∀ x ∈ l, x.text.length ≤ 100) := Lib.hid (fun x hx => by simpa using hok'.1 x hx)
    have Hl60 : Hid (l.length ≤ 60) := Lib.hid hok'.2
    have Hok := Lib.hid hok
    clear hok' hok
    obtain ⟨N, hN⟩ : ∃ N, N = 1 + raw % 12 := ⟨_, rfl⟩
    have hN1 : 1 ≤ N := by omega
    have hN2 : N ≤ 12 := by omega
    have HN := Lib.hid hN
    clear hN
    go_enter Try.func7, Try.ntmps7
    go_wp2_with fail
    refine (head_spec w).mono ?_
    rintro e w1 ⟨rfl, hc⟩
    have HC1 := Lib.hid hc
    clear hc
    go_wp2_with fail
    refine (ok_spec w1 ao n cap l (Lib.hid (H.out.quiet HC1.out)) hn).mono ?_
    rintro e w2 ⟨rfl, rfl⟩
    rw [Hok.out]
    go_wp2_with fail
    refine (size_spec w1 raw hraw).mono ?_
    rintro e w2 ⟨rfl, rfl⟩
    rw [← HN.out]
    go_wp2_with fail
    refine (At.new w1 N hN1 (by omega)).mono ?_
    rintro e w2 ⟨p, rfl, hA⟩
    have HA := Lib.hid (hA.rebase HC1.out)
    clear hA HC1
    go_wp2_with fail
    refine (At.new w2 N hN1 (by omega)).mono ?_
    rintro e w3 ⟨q, rfl, hB⟩
    have HB := Lib.hid (HA.out.two hB)
    clear hB HA
    go_wp2_with fail
    go_loopw [13] (fun s wr => ∃ k : Nat, k ≤ n ∧ s = .int .i64 k ∧ At2 w wr p ((DK.new N).run (l.take k)) q ((DK.new N).run (l.take k))) (fun s _ => n - (intOf s).toNat)
    case atStart => exact ⟨0, Nat.zero_le _, rfl, by simpa [DK.run] using HB.out⟩
    case round =>
      obtain ⟨k, hk, rfl, hD⟩ := hrel
      have HD := Lib.hid hD
      have Hn := Lib.hid H.out.len
      clear hD HB
      have HQ : Hid (((DK.new N).run (l.take k)).q.length ≤ 60) := Lib.hid (run_new_q N _ (by rw [List.length_take]; have := Hl60.out; omega))
      by_cases hlt : k < n
      · obtain ⟨x, hx⟩ : ∃ x, l[k]? = some x := ⟨l[k]'(by rw [← Hn.out]; exact hlt), by simp⟩
        have hmem := List.mem_of_getElem? hx
        have hxt := Htx.out x hmem
        have hxa := Ha.out x hmem
        have Hrun := Lib.hid (DK.run_snoc (DK.new N) l k x hx)
        have HX := Lib.hid hx
        clear hmem hx
        obtain ⟨ab, off, rfl, hbl, c0, c1, c2, c3, c4, c5⟩ := (H.out.quiet HD.out.chg).elem k x HX.out
        go_wp2_with fail
        refine (HD.out.fst (fun oth hA => hA.act (by have := HQ.out; omega) x hxt hxa)).mono ?_
        rintro e w5 ⟨rfl, h⟩
        have HD1 := Lib.hid h
        clear h c0 c1 c2 c3 c4 c5
        obtain ⟨ab', off', hao, hbl', c0, c1, c2, c3, c4, c5⟩ := (H.out.quiet HD1.out.chg).elem k x HX.out
        simp only [Option.some.injEq, Addr.mk.injEq] at hao
        obtain ⟨rfl, rfl, _⟩ := hao
        go_wp2_with fail
        refine (HD1.out.snd (fun oth hA => hA.act (by have := HQ.out; omega) x hxt hxa)).mono ?_
        rintro e w6 ⟨rfl, h⟩
        have HD2 := Lib.hid h
        clear h c0 c1 c2 c3 c4 c5
        go_wp2_with fail
        go_roundw
        case rel => exact ⟨k + 1, by omega, by go_num, by rw [Hrun.out]; exact HD2.out⟩
        case measure => simp [intOf]; omega
      · have hkn : k = n := by omega
        have HE : Hid (((DK.new N).run (l.take k)).n = N) := Lib.hid (DK.run_n _ _)
        generalize ((DK.new N).run (l.take k)) = D at *
        go_wp2_with fail
        refine (HD.out.fst (fun oth hA => hA.start)).mono ?_
        rintro e w5 ⟨rfl, h⟩
        have HD1 := Lib.hid h
        clear h HD
        go_wp2_with fail
        refine (HD1.out.snd (fun oth hA => hA.start)).mono ?_
        rintro e w6 ⟨rfl, h⟩
        have HD2 := Lib.hid h
        clear h HD1
        go_wp2_with fail
        refine (HD2.out.fst (fun oth hA => hA.fail (by have := HQ.out; exact Nat.le_trans this (by omega)) 60 b)).mono ?_
        rintro e w7 ⟨rfl, h⟩
        have HD3 := Lib.hid h
        clear h HD2
        go_wp2_with fail
        refine (HD3.out.fst (fun oth hA => hA.fail (Nat.le_trans (DK.fail_q _ _ _) (Nat.le_trans HQ.out (by omega))) m b)).mono ?_
        rintro e w8 ⟨rfl, h⟩
        have HD4 := Lib.hid h
        clear h HD3
        go_wp2_with fail
        refine (HD4.out.snd (fun oth hA => hA.sync (Nat.le_trans HQ.out (by omega)))).mono ?_
        rintro e w9 ⟨rfl, h⟩
        rw [DK.start_sync] at h ⊢
        have HD5 := Lib.hid h
        clear h HD4
        go_wp2_with fail
        refine (HD5.out.snd (fun oth hA => hA.fail (by show (0 : Nat) ≤ _; omega) 0 b)).mono ?_
        rintro e w10 ⟨rfl, h⟩
        have HD6 := Lib.hid h
        clear h HD5
        go_wp2_with fail
        refine (HD6.out.fst (fun oth hA => hA.start)).mono ?_
        rintro e w11 ⟨rfl, h⟩
        have HD7 := Lib.hid h
        clear h HD6
        go_wp2_with fail
        refine (HD7.out.snd (fun oth hA => hA.start)).mono ?_
        rintro e w12 ⟨rfl, h⟩
        have HD8 := Lib.hid h
        clear h HD7
        go_wp2_with fail
        refine (HD8.out.fst (fun oth hA => hA.start)).mono ?_
        rintro e w13 ⟨rfl, h⟩
        have HD9 := Lib.hid h
        clear h HD8
        have Hlaw := Lib.hid (all_law D HQ.out b m)
        have HnA : Hid (((((D.start.fail 60 b).fail m b).start).start).n = N) := Lib.hid (by
          show ((D.start.fail 60 b).fail m b).n = N
          rw [DK.fail_n, DK.fail_n]; exact HE.out)
        have HnB : Hid ((((D.start.flush).fail 0 b).start).n = N) := Lib.hid (by
          show ((D.start.flush).fail 0 b).n = N
          rw [DK.fail_n]
          exact (DK.settle_n _ _).trans HE.out)
        have HqA : Hid (((((D.start.fail 60 b).fail m b).start).start).q.length ≤ 900000) := Lib.hid (Nat.le_trans (DK.fail_q _ _ _) (Nat.le_trans (DK.fail_q _ _ _) (Nat.le_trans HQ.out (by omega))))
        have HqB : Hid ((((D.start.flush).fail 0 b).start).q.length ≤ 900000) := Lib.hid (Nat.le_trans (DK.fail_q _ _ _) (Nat.zero_le _))
        have HoA : Hid (((((D.start.fail 60 b).fail m b).start).start).off = false) := Lib.hid rfl
        have HoB : Hid ((((D.start.flush).fail 0 b).start).off = false) := Lib.hid rfl
        have HlA : Hid ((((D.start.fail 60 b).fail m b).start).start.all.length = N) := Lib.hid (by unfold DK.all; rw [List.length_map, List.length_range, HnA.out])
        have HlB : Hid (((D.start.flush).fail 0 b).start.all.length = N) := Lib.hid (by unfold DK.all; rw [List.length_map, List.length_range, HnB.out])
        generalize ((((D.start.fail 60 b).fail m b).start).start) = A at *
        generalize (((D.start.flush).fail 0 b).start) = B at *
        go_wp2_with fail
        refine (HD9.out.left.contents HqA.out HoA.out N HnA.out).mono ?_
        rintro e w14 ⟨v, rfl, hr, _, hc, hv⟩
        have HR1 := Lib.hid hr
        have HD10 := Lib.hid (HD9.out.quiet hc)
        clear hr hc hv HD9
        go_wp2_with fail
        refine (HD10.out.swap.left.contents HqB.out HoB.out N HnB.out).mono ?_
        rintro e w15 ⟨u, rfl, hr, _, hc, hv⟩
        have HR2 := Lib.hid hr
        have HR3 := Lib.hid (HR1.out.kept hc (by simp))
        have HC15 := Lib.hid ((HD10.out.quiet hc).chg)
        clear hr hc hv HD10 HR1
        go_wp2_with fail
        refine (same_spec w15 v u A.all B.all HR3.out HR2.out (by rw [HlA.out]; omega) (by rw [HlB.out]; omega)).mono ?_
        rintro e w16 ⟨rfl, hc⟩
        have HC16 := Lib.hid (HC15.out.trans hc (by simp))
        rw [decide_eq_true Hlaw.out]
        clear hc
        go_wp2_with fail
        go_ret
        exact ⟨rfl, HC16.out⟩
  · have hok' : okL l = false := by simpa using hok
    have Hok := Lib.hid hok'
    clear hok hok'
    go_enter Try.func7, Try.ntmps7
    go_wp2_with fail
    refine (head_spec w).mono ?_
    rintro e w1 ⟨rfl, hc⟩
    have HC1 := Lib.hid hc
    clear hc
    go_wp2_with fail
    refine (ok_spec w1 ao n cap l (Lib.hid (H.out.quiet HC1.out)) hn).mono ?_
    rintro e w2 ⟨rfl, rfl⟩
    rw [Hok.out]
    go_wp2_with fail
    go_ret
    exact ⟨rfl, HC1.out⟩
end Go.Proofs.Ytnlgblcldbdnlaa
