/-
  Journal: sectors written and synchronized; what room is left.
-/
import Derived.Test.YtpmkgedlnanjiaaGreatDoorJoD
import Derived.RegionTactic
import Derived.Deep.QuietTactic
import Derived.BigQuiet
namespace Go.Proofs.YtpmkgedlnanjiaaGreatDoor
set_option linter.unusedVariables false
set_option linter.unusedSimpArgs false
set_option maxRecDepth 100000
open Go Go.RowKit
namespace Jn
theorem writes_app : ∀ (a b : List Bytes) (D : DK) (p : Nat), (writes D p a).1 = 0 → writes D p (a ++ b) = writes (writes D p a).2 (p + a.length) b
  | [], b, D, p, _ => rfl
  | s :: a, b, D, p, h => by
    by_cases h1 : (D.write (p : Int) s).1 ≠ 0
    · have h2 : writes D p (s :: a) = D.write (p : Int) s := if_pos h1
      rw [h2] at h
      exact absurd h h1
    · have h2 : ∀ x, writes D p (s :: x) = writes (D.write (p : Int) s).2 (p + 1) x := fun x => if_neg h1
      rw [h2 a] at h ⊢
      rw [List.cons_append, h2 (a ++ b), writes_app a b _ _ h, List.length_cons, show p + 1 + a.length = p + (a.length + 1) by omega]
theorem writes_q : ∀ (l : List Bytes) (D : DK) (p : Nat), (writes D p l).2.q.length ≤ D.q.length + l.length
  | [], D, p => Nat.le_refl _
  | s :: l, D, p => by
    have hw : (D.write (p : Int) s).2.q.length ≤ D.q.length + 1 := by
      unfold DK.write
      split
      · simp
      · split
        · simp
        · split
          · simp
          · unfold DK.count DK.push
            simp only
            cases ha : D.arm with
            | none => simp
            | some x =>
              obtain ⟨a, u, v⟩ := x
              simp only
              split
              · simp
              · unfold DK.fail
                split
                · simp
                · simp [DK.down]
    by_cases h1 : (D.write (p : Int) s).1 ≠ 0
    · have h2 : writes D p (s :: l) = D.write (p : Int) s := if_pos h1
      rw [h2, List.length_cons]
      omega
    · have h2 : writes D p (s :: l) = writes (D.write (p : Int) s).2 (p + 1) l := if_neg h1
      rw [h2, List.length_cons]
      have := writes_q l (D.write (p : Int) s).2 (p + 1)
      omega
end Jn
/-- Where the cells of a list of texts lie. -/
def offV (v : Value) (own : List Nat) : Prop := ∀ ad n c, v = .slice (some ad) n c → ad.block ∉ own
set_option maxHeartbeats 4000000 in
theorem jwrite_r {w : World} {own : List Nat} {b p : Nat} {D : DK} (H : Hid (DkAt w own p D)) (HJ : Hid (w.cell? ⟨b, 0, none⟩ = some (.pointer (some ⟨p, 0, none⟩)))) (hb : b ∉ own) (pl : Nat) (l : List Bytes) (v : Value) (HV : Hid (Strs w v l)) (HK : Hid (offV v own))
    (hq : D.q.length + l.length ≤ 900000) (hl : pl + l.length ≤ 1000000) {R : Ending → World → Prop} (h : ∀ w', DkTo w own p (Jn.put D pl l).2 w' → R (.returned (.int .i64 (Jn.put D pl l).1)) w') :
    Calls Tryz.prog 42 #[.pointer (some ⟨b, 0, none⟩), .int .i64 (pl : Int), v] w R := by
  have HRR := Lib.hid h
  clear h
  have HBN := Lib.hid hb
  clear hb
  obtain ⟨ao, cap, rfl, hle, hv⟩ := HV.out
  have HE := Lib.hid hv
  obtain ⟨n, hn⟩ : ∃ n, n = l.length := ⟨_, rfl⟩
  rw [← hn] at hq hl hle HK ⊢
  have HN := Lib.hid hn
  clear hv hn HV
  go_enter Tryz.func42, Tryz.ntmps42
  go_wp2_with fail
  go_loopw [12] (fun iv wr => ∃ k : Nat, k ≤ n ∧ iv = .int .i64 (k : Int) ∧ Hid ((Jn.writes D pl (l.take k)).1 = 0) ∧ Hid (DkTo w own p (Jn.writes D pl (l.take k)).2 wr)) (fun iv _ => n - (intOf iv).toNat)
  case atStart => exact ⟨0, Nat.zero_le _, rfl, Lib.hid rfl, Lib.hid (H.out.to (Chg.refl _ _))⟩
  case round =>
    obtain ⟨k, hk, rfl, HW, HD⟩ := hrel
    obtain ⟨E, hE⟩ : ∃ E, E = (Jn.writes D pl (l.take k)).2 := ⟨_, rfl⟩
    have HEE := Lib.hid hE
    rw [← hE] at HD
    clear hE
    obtain ⟨own1, d1, d2, d3⟩ := HD.out
    have HD1 := Lib.hid d1
    have HD2 := Lib.hid d2
    have HD3 := Lib.hid d3
    have hqe : E.q.length ≤ D.q.length + k := by
      rw [HEE.out]
      have := Jn.writes_q (l.take k) D pl
      rw [List.length_take, ← HN.out] at this
      omega
    have c0 : _ = some _ := (World.cell?_of_block (d2.block b (World.block_lt_of_cell? _ _ HJ.out) HBN.out)).trans HJ.out
    clear d1 d2 d3
    by_cases hlt : k < n
    · obtain ⟨x, hx⟩ : ∃ x, l[k]? = some x := ⟨l[k]'(by rw [← HN.out]; exact hlt), by simp⟩
      obtain ⟨g, off, rfl, hc⟩ := HE.out k x hx
      have c1 := (World.cell?_of_block (HD2.out.block g (World.block_lt_of_cell? _ _ hc) (HK.out ⟨g, off, none⟩ _ _ rfl))).trans hc
      have HX := Lib.hid hx
      have q0 : (0 : Int) ≤ (k : Int) := by omega
      have q1 : (k : Int) < (n : Int) := by omega
      have q2 : (k : Int) ≤ (cap : Int) := by omega
      clear hx hc
      go_wp2_with fail
      obtain ⟨X, hX⟩ : ∃ X, X = E.write ((pl : Int) + (k : Int)) x := ⟨_, rfl⟩
      have HXE := Lib.hid hX
      refine (write_spec HD1.out (by omega) ((pl : Int) + (k : Int)) ⟨x.toArray⟩).mono ?_
      rintro e w5 ⟨rfl, h5⟩
      rw [show (⟨x.toArray⟩ : ByteArray).data.toList = x from rfl, ← hX] at h5 ⊢
      have H5 : Hid (DkTo w own p X.2 w5) := Lib.hid (DkTo.trans HD2.out HD3.out h5)
      have HLT : Hid ((l.take k).length = k) := Lib.hid (by rw [List.length_take, ← HN.out]; omega)
      clear h5 hX c0 c1 HD HD1 HD2 HD3
      by_cases h0 : X.1 = 0
      · have HW2 : Hid (Jn.writes D pl (l.take (k + 1)) = (0, X.2)) := Lib.hid (by
          obtain ⟨a1, a2⟩ := List.getElem?_eq_some_iff.1 HX.out
          rw [List.take_succ_eq_append_getElem a1, a2, Jn.writes_app _ _ _ _ HW.out, ← HEE.out, HLT.out]
          show (if (E.write ((pl + k : Nat) : Int) x).1 ≠ 0 then E.write ((pl + k : Nat) : Int) x else Jn.writes (E.write ((pl + k : Nat) : Int) x).2 (pl + k + 1) []) = _
          rw [show ((pl + k : Nat) : Int) = (pl : Int) + (k : Int) by omega, ← HXE.out, if_neg (fun h => h h0)]
          rfl)
        rw [h0]
        clear h0
        go_wp2_with fail
        go_roundw
        case rel => exact ⟨k + 1, by omega, by go_num, Lib.hid (by rw [HW2.out]), Lib.hid (by rw [HW2.out]; exact H5.out)⟩
        case measure => simp [intOf]; omega
      · have HP : Hid (Jn.put D pl l = X) := Lib.hid (by
          obtain ⟨a1, a2⟩ := List.getElem?_eq_some_iff.1 HX.out
          have h1 : l = l.take k ++ (x :: l.drop (k + 1)) := by
            rw [← a2, List.getElem_cons_drop, List.take_append_drop]
          have h2 : Jn.writes D pl l = X := by
            rw [h1, Jn.writes_app _ _ _ _ HW.out, ← HEE.out, HLT.out]
            show (if (E.write ((pl + k : Nat) : Int) x).1 ≠ 0 then E.write ((pl + k : Nat) : Int) x else Jn.writes (E.write ((pl + k : Nat) : Int) x).2 (pl + k + 1) (l.drop (k + 1))) = _
            rw [show ((pl + k : Nat) : Int) = (pl : Int) + (k : Int) by omega, ← HXE.out, if_pos h0]
          unfold Jn.put
          rw [h2, if_pos h0])
        obtain ⟨x1, x2⟩ := X
        have e1 : (x1 == 0) = false := by rw [beq_eq_false_iff_ne]; exact h0
        have e2 : (x1 != 0) = true := by rw [bne, e1]; rfl
        have h0' : ¬ x1 = 0 := h0
        clear h0
        simp only at *
        go_wp2_with fail
        have h9 := HRR.out w5 (by rw [HP.out]; exact H5.out)
        rw [HP.out] at h9
        exact h9
    · have q1 : ¬ (k : Int) < (n : Int) := by omega
      have HWE : Hid (Jn.writes D pl l = (0, E)) := Lib.hid (by
        have h1 := HW.out
        have h2 := HEE.out
        rw [List.take_of_length_le (by rw [← HN.out]; omega)] at h1 h2
        rw [h2, ← h1])
      go_wp2_with fail
      refine (sync_spec HD1.out (by omega)).mono ?_
      rintro e w5 ⟨rfl, h5⟩
      have H5 : Hid (DkTo w own p E.sync.2 w5) := Lib.hid (DkTo.trans HD2.out HD3.out h5)
      have HP : Hid (Jn.put D pl l = E.sync) := Lib.hid (by unfold Jn.put; rw [HWE.out, if_neg (by simp)])
      clear h5 c0
      go_wp2_with fail
      have h9 := HRR.out w5 (by rw [HP.out]; exact H5.out)
      rw [HP.out] at h9
      exact h9
/-- A journal in memory: its block, its disk, its records. -/
structure JR (w : World) (B b p : Nat) (j : Jn.J) (v : Value) : Prop where
  blk : Blk w b [.pointer (some ⟨p, 0, none⟩), .int .i64 (j.n : Int), .int .i64 (j.c : Int), v, .bool j.broken] 53
  own : OwT B j.l v w
theorem room_r {w : World} {B b p : Nat} {j : Jn.J} {v : Value} (H : Hid (JR w B b p j v)) (hn : j.n ≤ 4000) (hc : j.c + 2 ≤ j.n) {R : Ending → World → Prop} (h : ∀ w', Chg [] w w' → R (.returned (.int .i64 (Jn.room j : Int))) w') :
    Calls Tryz.prog 14 #[.pointer (some ⟨b, 0, none⟩)] w R := by
  have HRR := Lib.hid h
  clear h
  obtain ⟨n, hn1⟩ : ∃ n, n = j.n := ⟨_, rfl⟩
  obtain ⟨c, hc1⟩ : ∃ c, c = j.c := ⟨_, rfl⟩
  have HNN := Lib.hid hn1
  have HCC := Lib.hid hc1
  have c1 := H.out.blk.cell (i := 1) rfl
  have c2 := H.out.blk.cell (i := 2) rfl
  rw [← hn1] at c1 hn hc
  rw [← hc1] at c2 hc
  clear hn1 hc1
  go_enter Tryz.func14, Tryz.ntmps14
  go_upto_region 3 with (fail)
  go_quiet (fail)
  go_wp2_with fail
  have e : ((Jn.room j : Nat) : Int) = (n : Int) - 2 - (c : Int) := by unfold Jn.room; rw [← HNN.out, ← HCC.out]; omega
  show R (.returned (.int .i64 ((n : Int) - 2 - (c : Int)))) _
  rw [← e]
  exact HRR.out _ (chg_drew44 w _)
/-- A copy of a list of texts. -/
theorem clone_r {w : World} (v : Value) (l : List Bytes) (HV : Hid (Strs w v l)) (hl : l.length ≤ 1000000) {R : Ending → World → Prop} (h : ∀ v' w', OwT w.heap.size l v' w' → Chg [] w w' → R (.returned v') w') :
    Calls Tryz.prog 43 #[v] w R := by
  obtain ⟨ao, cap, rfl, hle, hv⟩ := HV.out
  cases ao with
  | none =>
    have h0 : l = [] := by
      cases l with
      | nil => rfl
      | cons x l =>
        obtain ⟨g, off, h1, _⟩ := hv 0 x rfl
        cases h1
    subst h0
    refine (Tryz.slices_Clone_string_nil _ _ w).mono ?_
    rintro e w' ⟨rfl, rfl⟩
    exact h _ _ (OwT.nil _ _) (Chg.refl _ _)
  | some ad =>
    by_cases h0 : l = []
    · subst h0
      refine (Tryz.slices_Clone_string_zero ad cap w).mono ?_
      rintro e w' ⟨v', rfl, h1, _, hb⟩
      exact h _ _ h1 (Below.chg (Chg.refl _ _) hb)
    · obtain ⟨x, hx⟩ : ∃ x, l[0]? = some x := ⟨l[0]'(List.length_pos_iff.2 h0), by simp⟩
      obtain ⟨g, off, h1, _⟩ := hv 0 x hx
      injection h1 with h1
      subst h1
      refine (Tryz.slices_Clone_string g off l.length cap (l.map (fun s : Bytes => (⟨s.toArray⟩ : ByteArray))) w (by rw [List.length_map]; exact Nat.le_refl _) (by omega) (fun j hj => ?_)).mono ?_
      · rw [List.length_map] at hj
        obtain ⟨g2, off2, h2, h3⟩ := hv j (l[j]'hj) (List.getElem?_eq_getElem hj)
        injection h2 with h2
        injection h2 with h4 h5
        subst h4
        subst h5
        rw [h3, List.getD_eq_getElem?_getD, List.getElem?_map, List.getElem?_eq_getElem hj]
        rfl
      · rintro e w' ⟨v', rfl, h2, _, hb⟩
        refine h _ _ ?_ (Below.chg (Chg.refl _ _) hb)
        rw [List.take_of_length_le (by rw [List.length_map]; exact Nat.le_refl _), List.map_map] at h2
        exact h2
theorem records_r {w : World} {B b p : Nat} {j : Jn.J} {v : Value} (H : Hid (JR w B b p j v)) (hl : j.l.length ≤ 1000000) {R : Ending → World → Prop} (h : ∀ v' w', OwT w.heap.size j.l v' w' → Chg [] w w' → R (.returned v') w') :
    Calls Tryz.prog 9 #[.pointer (some ⟨b, 0, none⟩)] w R := by
  have HRR := Lib.hid h
  clear h
  have c3 := H.out.blk.cell (i := 3) rfl
  go_enter Tryz.func9, Tryz.ntmps9
  go_wp2_with fail
  refine clone_r v j.l (Lib.hid H.out.own.strs) hl (fun v' w' h1 h2 => ?_)
  have H1 := Lib.hid h1
  have H2 := Lib.hid h2
  clear h1 h2 c3
  go_wp2_with fail
  exact HRR.out v' w' H1.out H2.out
end Go.Proofs.YtpmkgedlnanjiaaGreatDoor
