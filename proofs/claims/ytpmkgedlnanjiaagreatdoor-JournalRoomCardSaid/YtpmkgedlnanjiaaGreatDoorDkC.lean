/-
  Contracts of the disk: Fail, count.
-/
import Derived.Test.YtpmkgedlnanjiaaGreatDoorDkB
import Derived.Deep.DeepCutAuto
namespace Go.Proofs.YtpmkgedlnanjiaaGreatDoor
set_option linter.unusedVariables false
set_option maxRecDepth 100000
set_option linter.unusedSimpArgs false
open Go Go.RowKit

theorem settle_nil (w : World) (p : Nat) (a : Option Addr) (cap : Nat) :
    Calls Tryz.prog 61 #[.pointer (some ⟨p,0,none⟩), .slice a 0 cap] w fun e w' => e = .returned (.tuple #[]) ∧ w = w' := by
  go_enter Tryz.func61, Tryz.ntmps61
  go_wp2_with fail
  go_loopw [8] (fun i wr => i = .int .i64 0 ∧ wr = w) (fun _ _ => 0)
  case atStart => exact ⟨rfl, rfl⟩
  case round =>
    obtain ⟨rfl, rfl⟩ := hrel
    go_wp2_with fail
    go_end0
    exact ⟨rfl, rfl⟩
theorem settle_len {w : World} {p bs be : Nat} {qv av : Value} {D : DK} (h : DkR w p bs be qv av D) (l : List (Nat × Bytes)) (m g cap : Nat) (hml : l.length = m) (hl : ∀ x ∈ l, x.1 < D.n ∧ x.2.length = 64) (hg : g ∈ qv.ownBlock.toList)
    (hc : ∀ j v, (qcells l)[j]? = some v → w.cell? ⟨g, j, none⟩ = some v) (hm : l.length ≤ 1000000) :
    Calls Tryz.prog 61 #[.pointer (some ⟨p,0,none⟩), .slice (some ⟨g, 0, none⟩) m cap] w fun e w' => e = .returned (.tuple #[]) ∧ Chg [bs, be] w w' ∧
      DkR w' p bs be qv av (D.settle l) := by
  subst hml
  exact settle_spec h l g cap hl hg hc hm

theorem fail_nil (w : World) (x y : Int) :
    Calls Tryz.prog 20 #[.pointer none, .int .i64 x, .int .i64 y] w fun e w' => e = .returned (.tuple #[]) ∧ w = w' := by
  go_enter Tryz.func20, Tryz.ntmps20
  go_wp2_with fail
  refine bodyPost_ret (results_none rfl _ _ _) rfl ⟨rfl, rfl⟩
theorem fail_off (w : World) (p : Nat) (x y : Int) (h3 : w.cell? ⟨p, 3, none⟩ = some (.bool true)) :
    Calls Tryz.prog 20 #[.pointer (some ⟨p,0,none⟩), .int .i64 x, .int .i64 y] w fun e w' => e = .returned (.tuple #[]) ∧ w = w' := by
  go_enter Tryz.func20, Tryz.ntmps20
  go_wp2_with fail
  refine bodyPost_ret (results_none rfl _ _ _) rfl ⟨rfl, rfl⟩
theorem DkR.down {w : World} {p bs be : Nat} {qv av : Value} {D : DK} (h : DkR w p bs be qv av D) :
    DkR (((w.setCell ⟨p, 2, none⟩ (.slice none 0 0)).setCell ⟨p, 3, none⟩ (.bool true)).setCell ⟨p, 4, none⟩ (.pointer none)) p bs be (.slice none 0 0) (.pointer none) { D with q := [], off := true, arm := none } := by
  obtain ⟨d1, d2, d3, d4, d5, d6⟩ := h.nds
  have hc : Chg [p] w (((w.setCell ⟨p, 2, none⟩ (.slice none 0 0)).setCell ⟨p, 3, none⟩ (.bool true)).setCell ⟨p, 4, none⟩ (.pointer none)) :=
    (((Chg.refl _ _).setCell _ _ (.inl (by simp))).setCell _ _ (.inl (by simp))).setCell _ _ (.inl (by simp))
  refine ⟨?_, h.hs.kept hc (by simpa using fun e => d1 e.symm), h.he.kept hc (by simpa using fun e => d2 e.symm), World.ownsRow_nil _ _ _ _, rfl, ?_, ⟨h.ok.n1, h.ok.n2, h.ok.st, h.ok.el, fun p hp => by simp at hp, fun a w b ha => by simp at ha⟩⟩
  · have := (((h.hp.set 2 (.slice none 0 0)).set 3 (.bool true)).set 4 (.pointer none))
    exact this
  · simp [dkOwn, avBlk, Value.ownBlock]; omega

theorem cut_cases (D : DK) (x : Int) : (x < 0 → D.cut x = 0) ∧ (0 ≤ x → x ≤ D.q.length → (D.cut x : Int) = x) ∧ (D.q.length < x → D.cut x = D.q.length) := by
  unfold DK.cut
  omega

theorem qcells_take (l : List (Nat × Bytes)) (n : Nat) : qcells (l.take n) = (qcells l).take (n * 3) := by
  induction l generalizing n with
  | nil => simp [qcells]
  | cons x l ih =>
    cases n with
    | zero => simp [qcells]
    | succ n => rw [show (n + 1) * 3 = n * 3 + 3 by omega]; simp [qcells, ih]

set_option maxHeartbeats 1000000 in
/-- The queue is a row of its own. -/
theorem fail_row {w : World} {p bs be g cap m : Nat} {av : Value} {D : DK} (H : Hid (DkR w p bs be (.slice (some ⟨g, 0, none⟩) m cap) av D)) (Hm : Hid (D.q.length = m)) (hoff : D.off = false) (hq : m ≤ 1000000) (x y : Int) :
    Calls Tryz.prog 20 #[.pointer (some ⟨p,0,none⟩), .int .i64 x, .int .i64 y] w fun e w' => e = .returned (.tuple #[]) ∧ Chg [p, bs, be] w w' ∧ DkR w' p bs be (.slice none 0 0) (.pointer none) (D.down x y) := by
  have hrow := H.out.hq
  rw [Hm.out] at hrow
  obtain ⟨hcap, hmc⟩ : m ≤ cap ∧ cap ≤ maxLen := by
    rcases hrow.2 with ⟨h0, _⟩ | ⟨g', c', cur, he, _, _, h1, h2, _⟩
    · simp at h0
    · simp at he; obtain ⟨_, rfl⟩ := he; exact ⟨h1, h2⟩
  have h2 := H.out.hp.cell (i := 2) rfl
  have h3 : w.cell? ⟨p, 3, none⟩ = some (.bool false) := by have := H.out.hp.cell (i := 3) rfl; rw [hoff] at this; exact this
  have Hcells : Hid (∀ j v, (qcells D.q)[j]? = some v → w.cell? ⟨g, j, none⟩ = some v) := Lib.hid (fun j v hv => (hrow.cellAt j (by
    have := (List.getElem?_eq_some_iff.1 hv).1; rw [qcells_length, Hm.out] at this; exact this)).trans hv)
  obtain ⟨n, hn⟩ : ∃ n, n = D.cut x := ⟨_, rfl⟩
  have hle : n ≤ m := by rw [hn, ← Hm.out]; exact DK.cut_le D x
  have Hcn : Hid ((n : Int) = min (max x 0) m) := Lib.hid (by rw [hn, ← Hm.out]; unfold DK.cut; omega)
  have Hn := Lib.hid hn
  have hqv := H.out.ok.q
  have hg : g ∈ (Value.slice (some ⟨g, 0, none⟩) m cap).ownBlock.toList := by simp [Value.ownBlock]
  have hgn := H.out.nds.2.2.2.1 g hg
  have hgl := row_lt hrow g hg
  have hpl := H.out.hp.lt
  obtain ⟨dpb, dpe, _⟩ := H.out.nds
  have Hset := settle_len H.out (D.q.take n) n g (cap) (by rw [List.length_take, Hm.out]; omega) (fun x hx => hqv x (List.mem_of_mem_take hx)) hg (fun j v hv => Hcells.out j v (by
      rw [qcells_take, List.getElem?_take] at hv; split at hv
      · exact hv
      · simp at hv)) (by rw [List.length_take, Hm.out]; omega)
  have HS := Lib.hid Hset
  clear Hset
  have Hqv := Lib.hid hqv
  clear hn hqv hrow
  go_enter Tryz.func20, Tryz.ntmps20
  go_upto_region 1 with fail
  go_cut [6] (fun s6 wx => wx = w ∧ s6 = .int .i64 (n : Int))
  case first =>
    go_wp2_with fail
    all_goals
      go_meet
      have := Hcn.out
      refine ⟨rfl, vint ?_⟩
      try simp only [ite_max0] at *
      omega
  case rest =>
    obtain ⟨rfl, rfl⟩ := hcut
    go_wp2_with fail
    refine HS.out.mono ?_
    rintro e w1 ⟨rfl, hc1, hD1⟩
    have k2 := hD1.hp.cell (i := 2) rfl
    have k3 := hD1.hp.cell (i := 3) rfl
    have k4 := hD1.hp.cell (i := 4) rfl
    have kf := hD1.hp.free
    have hp1 := hD1.hp.lt
    have Hc1 := Lib.hid hc1
    have HD1 := Lib.hid hD1
    clear hc1 hD1
    by_cases hnm : n < m
    · obtain ⟨e, he⟩ : ∃ e, D.q[n]? = some e := ⟨D.q[n]'(by rw [Hm.out]; exact hnm), by simp [Hm.out, hnm]⟩
      obtain ⟨q0, q1, q2⟩ := qcells_at D.q n e he
      have hgw : ∀ j v, (qcells D.q)[j]? = some v → w1.cell? ⟨g, j, none⟩ = some v := fun j v hv => (World.cell?_of_block (Hc1.out.block g hgl (by simp; omega))).trans (Hcells.out j v hv)
      have c0 := hgw _ _ q0
      have c1 := hgw _ _ q1
      have c2 := hgw _ _ q2
      clear q0 q1 q2 hgw
      have He := Lib.hid he
      clear he
      obtain ⟨k, hk⟩ : ∃ k, k = DK.torn y := ⟨_, rfl⟩
      have Hck : Hid ((k : Int) = min (max y 0) 64) := Lib.hid (by rw [hk]; unfold DK.torn; omega)
      have Hk := Lib.hid hk
      have hk64 : k ≤ 64 := by rw [hk]; exact DK.torn_le y
      clear hk
      go_upto_region 5 with fail
      go_cut [7, 8] (fun s7 s8 wx => ∃ b : Nat, s7 = .pointer (some ⟨b, 0, none⟩) ∧ s8 = .int .i64 (k : Int) ∧ wc.heap.size ≤ b ∧ Blk wx b [.int .i64 ((e.1 : Int) * 64), .int .i64 (((e.1 : Int) + 1) * 64), .string ⟨e.2.toArray⟩] 89 ∧
        DkR wx p bs be (.slice (some ⟨g, 0, none⟩) m cap) av (D.settle (D.q.take n)) ∧ Chg [bs, be] wc wx)
      case first =>
        go_wp2_with fail
        all_goals
          go_meet
          have := Hck.out
          refine ⟨_, rfl, vint ?_, Hc1.out.size, Blk.new w1 _ _, HD1.out.kept ((Chg.refl [] w1).alloc _) (by simp), Hc1.out.alloc _⟩
          try simp only [ite_max0] at *
          omega
      case rest =>
        clear c0 c1 c2 k2 k3 k4 kf
        obtain ⟨b, rfl, rfl, hbn, hB, hD2, hC2⟩ := hcut
        have hx := H.out.ok.q e (List.mem_of_getElem? He.out)
        have Hex : Hid (e.1 < D.n ∧ e.2.length = 64) := Lib.hid hx
        have k2 := hD2.hp.cell (i := 2) rfl
        have k3 := hD2.hp.cell (i := 3) rfl
        have k4 := hD2.hp.cell (i := 4) rfl
        have kf := hD2.hp.free
        have b0 := hB.cell (i := 0) rfl
        have b1 := hB.cell (i := 1) rfl
        have b2 := hB.cell (i := 2) rfl
        have HB := Lib.hid hB
        have HD2 := Lib.hid hD2
        have HC2 := Lib.hid hC2
        clear hB hD2 hC2 hx HD1 Hc1 HS
        have hkl : k ≤ e.2.length := by rw [Hex.out.2]; exact hk64
        have hkl2 : (k : Int) ≤ (⟨e.2.toArray⟩ : ByteArray).size := by rw [Lib.size_eq]; simpa using hkl
        by_cases hk0 : 0 < k
        · go_wp2_with fail
          refine wp_region_tail 7 (by kernel_rfl) (by kernel_rfl) (fun L hL => ?_)
          simp only [List.take_succ_cons, List.take_zero, List.drop_succ_cons, List.drop_zero] at hL ⊢
          repeat still_step
          refine wpStill_nil (hL _ ?_)
          clear hL L
          go_wp2_with fail
          rw [show (⟨e.2.toArray⟩ : ByteArray).extract 0 k = ⟨(e.2.take k).toArray⟩ from by rw [ByteArray.extract_mk]; simp]
          refine (set_spec (HD2.out.kept (Chg.refl [] wc).drew (by simp)) e.1 (by rw [DK.settle_n]; exact Hex.out.1) ⟨(e.2.take k).toArray⟩ (by rw [Lib.size_eq]; simp; omega)).mono ?_
          rintro e2 w2 ⟨rfl, hc3, hD3⟩
          clear k2 k3 k4 kf b0 b1 b2
          have k2 := hD3.hp.cell (i := 2) rfl
          have k3 := hD3.hp.cell (i := 3) rfl
          have k4 := hD3.hp.cell (i := 4) rfl
          have kf := hD3.hp.free
          have hp3 := hD3.hp.lt
          have HC3 : Hid (Chg [p, bs, be] _ w2) := Lib.hid ((HC2.out.mono (by simp)).drew.trans hc3 (by simp))
          have HD3 := Lib.hid hD3
          clear hc3 hD3
          go_wp2_with fail
          refine bodyPost_end (results_none rfl _ _ _) rfl ⟨rfl, ?_, ?_⟩
          · refine Chg.setCell (Chg.setCell (Chg.setCell HC3.out _ _ (.inl (by simp))) _ _ (.inl (by simp))) _ _ (.inl (by simp))
          · have := HD3.out.down
            unfold DK.down
            have hd : D.q.drop n = e :: D.q.drop (n + 1) := by
              rw [List.drop_eq_getElem_cons (by rw [Hm.out]; exact hnm)]
              congr 1
              have := He.out
              rw [List.getElem?_eq_getElem (by rw [Hm.out]; exact hnm)] at this
              simpa using this
            rw [← Hn.out, hd, DK.tear, ← Hk.out, if_pos hk0]
            exact this
        · go_wp2_with fail
          refine bodyPost_end (results_none rfl _ _ _) rfl ⟨rfl, ?_, ?_⟩
          · refine Chg.setCell (Chg.setCell (Chg.setCell (HC2.out.mono (by simp)) _ _ (.inl (by simp))) _ _ (.inl (by simp))) _ _ (.inl (by simp))
          · have := HD2.out.down
            unfold DK.down
            rw [← Hn.out, List.drop_eq_getElem_cons (by rw [Hm.out]; exact hnm), DK.tear, ← Hk.out, if_neg hk0]
            exact this
    · go_wp2_with fail
      refine bodyPost_end (results_none rfl _ _ _) rfl ⟨rfl, ?_, ?_⟩
      · refine Chg.setCell (Chg.setCell (Chg.setCell (Hc1.out.mono (by simp)) _ _ (.inl (by simp))) _ _ (.inl (by simp))) _ _ (.inl (by simp))
      · have := HD1.out.down
        unfold DK.down
        rw [← Hn.out, List.drop_of_length_le (by rw [Hm.out]; omega)]
        exact this
end Go.Proofs.YtpmkgedlnanjiaaGreatDoor
