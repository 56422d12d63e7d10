/-
  DkB, DkC, DkD in one text.
-/
import Derived.Test.YtpmkgedlnanjiaaGreatDoorDkA
import Derived.Deep.LoopGhost
import Derived.Deep.DeepCutAuto
namespace Go.Proofs.YtpmkgedlnanjiaaGreatDoor
set_option linter.unusedVariables false
set_option maxRecDepth 100000
set_option linter.unusedSimpArgs false
open Go Go.RowKit

theorem splice_get (L cs : Bytes) (off k : Nat) (h : off + cs.length ≤ L.length) :
    (splice L off cs)[k]? = if k < off then L[k]? else if k < off + cs.length then cs[k - off]? else L[k]? := by
  unfold splice
  rw [List.getElem?_append, List.getElem?_append, List.getElem?_take, List.getElem?_drop]
  simp only [List.length_take]
  have : min off L.length = off := by omega
  rw [this]
  by_cases h1 : k < off
  · simp [h1]
  · by_cases h2 : k < off + cs.length
    · have : k - off < cs.length := by omega
      simp [h1, h2, this]
    · have h3 : ¬ k - off < cs.length := by omega
      simp only [h1, h2, h3, if_false]
      congr 1
      omega

theorem sec_splice (S t : Bytes) (n s i : Nat) (hS : S.length = n * 64) (hs : s < n) (hi : i < n) (ht : t.length ≤ 64) :
    ((splice S (s * 64) t).drop (i * 64)).take 64 = if i = s then t ++ ((S.drop (s * 64)).take 64).drop t.length else (S.drop (i * 64)).take 64 := by
  apply List.ext_getElem?
  intro k
  rw [List.getElem?_take, List.getElem?_drop, splice_get _ _ _ _ (by omega)]
  by_cases his : i = s
  · subst his
    rw [if_pos rfl, List.getElem?_append, List.getElem?_drop, List.getElem?_take, List.getElem?_drop]
    by_cases hk : k < 64
    · rw [if_pos hk, if_neg (by omega)]
      by_cases hk2 : k < t.length
      · rw [if_pos (by omega), if_pos hk2]; congr 1; omega
      · rw [if_neg (by omega), if_neg hk2, if_pos (by omega)]; congr 1; omega
    · rw [if_neg hk, if_neg (by omega), if_neg (by omega)]
  · rw [if_neg his, List.getElem?_take, List.getElem?_drop]
    by_cases hk : k < 64
    · rw [if_pos hk, if_pos hk]
      by_cases h1 : i < s
      · rw [if_pos (by omega)]
      · rw [if_neg (by omega), if_neg (by omega)]
    · rw [if_neg hk, if_neg hk]

theorem DkR.nds {w : World} {p bs be : Nat} {qv av : Value} {D : DK} (h : DkR w p bs be qv av D) : p ≠ bs ∧ p ≠ be ∧ bs ≠ be ∧ (∀ k ∈ qv.ownBlock.toList, k ≠ p ∧ k ≠ bs ∧ k ≠ be) ∧ (∀ k ∈ avBlk av, k ≠ p ∧ k ≠ bs ∧ k ≠ be) ∧ (∀ k ∈ qv.ownBlock.toList, k ∉ avBlk av) := by
  have := h.nd
  simp only [dkOwn, List.cons_append, List.nil_append, List.nodup_cons, List.mem_cons, List.mem_append, List.nodup_append, not_or] at this
  obtain ⟨⟨h1, h2, h3, h4⟩, ⟨h5, h6, h7⟩, ⟨h8, h9⟩, h10, h11, h12⟩ := this
  refine ⟨h1, h2, h5, fun k hk => ⟨fun e => h3 (e ▸ hk), fun e => h6 (e ▸ hk), fun e => h8 (e ▸ hk)⟩, fun k hk => ⟨fun e => h4 (e ▸ hk), fun e => h7 (e ▸ hk), fun e => h9 (e ▸ hk)⟩, fun k hk hm => h12 k hk k hm rfl⟩

theorem set_spec {w : World} {p bs be : Nat} {qv av : Value} {D : DK} (h : DkR w p bs be qv av D) (s : Nat) (hs : s < D.n) (t : ByteArray) (ht : t.size ≤ 64) :
    Calls Tryz.prog 62 #[.pointer (some ⟨p,0,none⟩), .agg #[.int .i64 ((s : Int) * 64), .int .i64 (((s : Int) + 1) * 64)], .string t] w fun e w' => e = .returned (.tuple #[]) ∧ Chg [bs, be] w w' ∧
      DkR w' p bs be qv av (D.put s t.data.toList) := by
  obtain ⟨S, hS, hSl, hSs⟩ := h.hs
  obtain ⟨E, hE, hEl, hEs⟩ := h.he
  obtain ⟨d1, d2, d3, d4, d5, _⟩ := h.nds
  have n2 := h.ok.n2
  rw [show ((s : Int) * 64) = ((s * 64 : Nat) : Int) by omega, show (((s : Int) + 1) * 64) = ((s * 64 + 64 : Nat) : Int) by omega]
  refine (set_calls w p bs be (D.n * 64) (s * 64) (s * 64 + 64) S E t h.hp.lt (h.hp.cell (i := 0) rfl) (h.hp.cell (i := 1) rfl) (by omega) d1 d2 d3 hS hE hSl hEl (by omega) (by omega) (by omega)).mono ?_
  rintro e w' ⟨rfl, hc, hS', hE'⟩
  have htl : t.data.toList.length ≤ 64 := by rw [← Lib.size_eq]; exact ht
  have hsec : (S.drop (s * 64)).take 64 = D.st s := hSs s hs
  have h64 : s * 64 + 64 - s * 64 = 64 := by omega
  rw [h64, hsec] at hE'
  have h64' := h.ok.st s hs
  refine ⟨rfl, hc, hc.blk h.hp (by simp; exact ⟨d1, d2⟩), ⟨_, hS', ?_, fun i hi => ?_⟩, ⟨_, hE', ?_, fun i hi => ?_⟩, row_kept h.hq hc (fun k hk => by have := d4 k hk; simp; omega), h.ha.kept hc (fun k hk => by have := d5 k hk; simp; omega), h.nd, DK.put_ok h.ok s _ hs htl⟩
  · rw [length_splice _ _ _ (by omega)]; exact hSl
  · rw [sec_splice S _ D.n s i hSl hs hi htl]
    simp only [DK.put]
    split
    · rw [hsec]
    · exact hSs i hi
  · rw [length_splice _ _ _ (by omega)]; exact hEl
  · rw [sec_splice E _ D.n s i hEl hs hi (by omega)]
    simp only [DK.put]
    split
    · rw [List.drop_of_length_le (by simp; omega), List.append_nil]
    · exact hEs i hi
theorem settle_spec {w : World} {p bs be : Nat} {qv av : Value} {D : DK} (h : DkR w p bs be qv av D) (l : List (Nat × Bytes)) (g cap : Nat) (hl : ∀ x ∈ l, x.1 < D.n ∧ x.2.length = 64) (hg : g ∈ qv.ownBlock.toList)
    (hc : ∀ j v, (qcells l)[j]? = some v → w.cell? ⟨g, j, none⟩ = some v) (hm : l.length ≤ 1000000) :
    Calls Tryz.prog 61 #[.pointer (some ⟨p,0,none⟩), .slice (some ⟨g, 0, none⟩) l.length cap] w fun e w' => e = .returned (.tuple #[]) ∧ Chg [bs, be] w w' ∧
      DkR w' p bs be qv av (D.settle l) := by
  have hgl : g < w.heap.size := row_lt h.hq g hg
  have hgn := h.nds.2.2.2.1 g hg
  go_enter Tryz.func61, Tryz.ntmps61
  go_wp2_with fail
  go_loopw [8] (fun i wr => ∃ k : Nat, k ≤ l.length ∧ i = .int .i64 k ∧ DkR wr p bs be qv av (D.settle (l.take k)) ∧ Chg [bs,be] w wr) (fun i _ => l.length - (intOf i).toNat)
  case atStart => exact ⟨0, Nat.zero_le _, rfl, by simpa [DK.settle] using h, Chg.refl _ _⟩
  case round =>
    obtain ⟨k, hk, rfl, hD, hC⟩ := hrel
    by_cases hlt : k < l.length
    · obtain ⟨x, hx⟩ : ∃ x, l[k]? = some x := ⟨l[k], by simp [hlt]⟩
      obtain ⟨q0, q1, q2⟩ := qcells_at l k x hx
      have hgw : ∀ j v, (qcells l)[j]? = some v → wr.cell? ⟨g, j, none⟩ = some v := fun j v hv => (World.cell?_of_block (hC.block g hgl (by simp; omega))).trans (hc j v hv)
      have c0 := hgw _ _ q0
      have c1 := hgw _ _ q1
      have c2 := hgw _ _ q2
      clear q0 q1 q2 hgw
      obtain ⟨hx1, hx2⟩ : x.1 < D.n ∧ x.2.length = 64 := hl x (List.mem_of_getElem? hx)
      have Hn : Hid ((D.settle (l.take k)).n = D.n) := Lib.hid (DK.settle_n _ _)
      have Hs : Hid (D.settle (l.take (k + 1)) = (D.settle (l.take k)).put x.1 x.2) := Lib.hid (by
        rw [List.take_add_one, hx, Option.toList_some, DK.settle_snoc])
      clear hx
      have HD := Lib.hid hD
      have HC := Lib.hid hC
      have Hx2 := Lib.hid hx2
      clear hD hC hl hx2 h
      go_wp2_with fail
      refine (set_spec (HD.out.kept ((Chg.refl [] wr).alloc _) (by simp)) x.1 (by rw [Hn.out]; exact hx1) ⟨x.2.toArray⟩ (by rw [Lib.size_eq]; simp [Hx2.out])).mono ?_
      rintro e w1 ⟨rfl, hc1, hD1⟩
      have HD1 := Lib.hid hD1
      have HC1 : Hid (Chg [bs, be] wr w1) := Lib.hid (((Chg.refl [bs, be] wr).alloc _).trans hc1 (by simp))
      clear hD1 hc1
      go_wp2_with fail
      go_roundw
      case rel => exact ⟨k + 1, by omega, by go_num, by rw [Hs.out]; exact HD1.out, HC.out.trans HC1.out (fun k hk => .inl hk)⟩
      case measure => simp [intOf]; omega
    · have hkl : k = l.length := by omega
      have HD := Lib.hid hD
      have HC := Lib.hid hC
      clear hD hC hl h hc
      have H := Lib.hid hkl
      clear hkl
      go_wp2_with fail
      go_end0
      have := HD.out
      rw [H.out, List.take_length] at this
      exact ⟨rfl, HC.out, this⟩

theorem DkR.qcases {w : World} {p bs be : Nat} {qv av : Value} {D : DK} (h : DkR w p bs be qv av D) : (qv = .slice none 0 0 ∧ D.q = []) ∨ ∃ g cap, qv = .slice (some ⟨g, 0, none⟩) D.q.length cap := by
  rcases h.hq.2 with ⟨h0, h1⟩ | ⟨g, c, cur, he, _⟩
  · exact .inl ⟨h0, List.eq_nil_of_length_eq_zero h1⟩
  · exact .inr ⟨g, c, he⟩

end Go.Proofs.YtpmkgedlnanjiaaGreatDoor
namespace Go.Proofs.YtpmkgedlnanjiaaGreatDoor
set_option linter.unusedVariables false
set_option maxRecDepth 100000
set_option linter.unusedSimpArgs false
open Go Go.RowKit

theorem settle_nil (w : World) (p : Nat) (a : Option Addr) (cap : Nat) :
    Calls Tryz.prog 61 #[.pointer (some ⟨p,0,none⟩), .slice a 0 cap] w fun e w' => e = .returned (.tuple #[]) ∧ w = w' := by
  go_enter Tryz.func61, Tryz.ntmps61
  go_wp2_with fail
  go_loopw [8] (fun i wr => i = .int .i64 0 ∧ wr = w) (fun _ _ => 0)
  case atStart => exact ⟨rfl, rfl⟩
  case round =>
    obtain ⟨rfl, rfl⟩ := hrel
    go_wp2_with fail
    go_end0
    exact ⟨rfl, rfl⟩
theorem settle_len {w : World} {p bs be : Nat} {qv av : Value} {D : DK} (h : DkR w p bs be qv av D) (l : List (Nat × Bytes)) (m g cap : Nat) (hml : l.length = m) (hl : ∀ x ∈ l, x.1 < D.n ∧ x.2.length = 64) (hg : g ∈ qv.ownBlock.toList)
    (hc : ∀ j v, (qcells l)[j]? = some v → w.cell? ⟨g, j, none⟩ = some v) (hm : l.length ≤ 1000000) :
    Calls Tryz.prog 61 #[.pointer (some ⟨p,0,none⟩), .slice (some ⟨g, 0, none⟩) m cap] w fun e w' => e = .returned (.tuple #[]) ∧ Chg [bs, be] w w' ∧
      DkR w' p bs be qv av (D.settle l) := by
  subst hml
  exact settle_spec h l g cap hl hg hc hm

theorem fail_nil (w : World) (x y : Int) :
    Calls Tryz.prog 20 #[.pointer none, .int .i64 x, .int .i64 y] w fun e w' => e = .returned (.tuple #[]) ∧ w = w' := by
  go_enter Tryz.func20, Tryz.ntmps20
  go_wp2_with fail
  refine bodyPost_ret (results_none rfl _ _ _) rfl ⟨rfl, rfl⟩
theorem fail_off (w : World) (p : Nat) (x y : Int) (h3 : w.cell? ⟨p, 3, none⟩ = some (.bool true)) :
    Calls Tryz.prog 20 #[.pointer (some ⟨p,0,none⟩), .int .i64 x, .int .i64 y] w fun e w' => e = .returned (.tuple #[]) ∧ w = w' := by
  go_enter Tryz.func20, Tryz.ntmps20
  go_wp2_with fail
  refine bodyPost_ret (results_none rfl _ _ _) rfl ⟨rfl, rfl⟩
theorem DkR.down {w : World} {p bs be : Nat} {qv av : Value} {D : DK} (h : DkR w p bs be qv av D) :
    DkR (((w.setCell ⟨p, 2, none⟩ (.slice none 0 0)).setCell ⟨p, 3, none⟩ (.bool true)).setCell ⟨p, 4, none⟩ (.pointer none)) p bs be (.slice none 0 0) (.pointer none) { D with q := [], off := true, arm := none } := by
  obtain ⟨d1, d2, d3, d4, d5, d6⟩ := h.nds
  have hc : Chg [p] w (((w.setCell ⟨p, 2, none⟩ (.slice none 0 0)).setCell ⟨p, 3, none⟩ (.bool true)).setCell ⟨p, 4, none⟩ (.pointer none)) :=
    (((Chg.refl _ _).setCell _ _ (.inl (by simp))).setCell _ _ (.inl (by simp))).setCell _ _ (.inl (by simp))
  refine ⟨?_, h.hs.kept hc (by simpa using fun e => d1 e.symm), h.he.kept hc (by simpa using fun e => d2 e.symm), World.ownsRow_nil _ _ _ _, rfl, ?_, ⟨h.ok.n1, h.ok.n2, h.ok.st, h.ok.el, fun p hp => by simp at hp, fun a w b ha => by simp at ha⟩⟩
  · have := (((h.hp.set 2 (.slice none 0 0)).set 3 (.bool true)).set 4 (.pointer none))
    exact this
  · simp [dkOwn, avBlk, Value.ownBlock]; omega

theorem cut_cases (D : DK) (x : Int) : (x < 0 → D.cut x = 0) ∧ (0 ≤ x → x ≤ D.q.length → (D.cut x : Int) = x) ∧ (D.q.length < x → D.cut x = D.q.length) := by
  unfold DK.cut
  omega

theorem qcells_take (l : List (Nat × Bytes)) (n : Nat) : qcells (l.take n) = (qcells l).take (n * 3) := by
  induction l generalizing n with
  | nil => simp [qcells]
  | cons x l ih =>
    cases n with
    | zero => simp [qcells]
    | succ n => rw [show (n + 1) * 3 = n * 3 + 3 by omega]; simp [qcells, ih]

set_option maxHeartbeats 1000000 in
/-- The queue is a row of its own. -/
theorem fail_row {w : World} {p bs be g cap m : Nat} {av : Value} {D : DK} (H : Hid (DkR w p bs be (.slice (some ⟨g, 0, none⟩) m cap) av D)) (Hm : Hid (D.q.length = m)) (hoff : D.off = false) (hq : m ≤ 1000000) (x y : Int) :
    Calls Tryz.prog 20 #[.pointer (some ⟨p,0,none⟩), .int .i64 x, .int .i64 y] w fun e w' => e = .returned (.tuple #[]) ∧ Chg [p, bs, be] w w' ∧ DkR w' p bs be (.slice none 0 0) (.pointer none) (D.down x y) := by
  have hrow := H.out.hq
  rw [Hm.out] at hrow
  obtain ⟨hcap, hmc⟩ : m ≤ cap ∧ cap ≤ maxLen := by
    rcases hrow.2 with ⟨h0, _⟩ | ⟨g', c', cur, he, _, _, h1, h2, _⟩
    · simp at h0
    · simp at he; obtain ⟨_, rfl⟩ := he; exact ⟨h1, h2⟩
  have h2 := H.out.hp.cell (i := 2) rfl
  have h3 : w.cell? ⟨p, 3, none⟩ = some (.bool false) := by have := H.out.hp.cell (i := 3) rfl; rw [hoff] at this; exact this
  have Hcells : Hid (∀ j v, (qcells D.q)[j]? = some v → w.cell? ⟨g, j, none⟩ = some v) := Lib.hid (fun j v hv => (hrow.cellAt j (by
    have := (List.getElem?_eq_some_iff.1 hv).1; rw [qcells_length, Hm.out] at this; exact this)).trans hv)
  obtain ⟨n, hn⟩ : ∃ n, n = D.cut x := ⟨_, rfl⟩
  have hle : n ≤ m := by rw [hn, ← Hm.out]; exact DK.cut_le D x
  have Hcn : Hid ((n : Int) = min (max x 0) m) := Lib.hid (by rw [hn, ← Hm.out]; unfold DK.cut; omega)
  have Hn := Lib.hid hn
  have hqv := H.out.ok.q
  have hg : g ∈ (Value.slice (some ⟨g, 0, none⟩) m cap).ownBlock.toList := by simp [Value.ownBlock]
  have hgn := H.out.nds.2.2.2.1 g hg
  have hgl := row_lt hrow g hg
  have hpl := H.out.hp.lt
  obtain ⟨dpb, dpe, _⟩ := H.out.nds
  have Hset := settle_len H.out (D.q.take n) n g (cap) (by rw [List.length_take, Hm.out]; omega) (fun x hx => hqv x (List.mem_of_mem_take hx)) hg (fun j v hv => Hcells.out j v (by
      rw [qcells_take, List.getElem?_take] at hv; split at hv
      · exact hv
      · simp at hv)) (by rw [List.length_take, Hm.out]; omega)
  have HS := Lib.hid Hset
  clear Hset
  have Hqv := Lib.hid hqv
  clear hn hqv hrow
  go_enter Tryz.func20, Tryz.ntmps20
  go_upto_region 1 with fail
  go_cut [6] (fun s6 wx => wx = w ∧ s6 = .int .i64 (n : Int))
  case first =>
    go_wp2_with fail
    all_goals
      go_meet
      have := Hcn.out
      refine ⟨rfl, vint ?_⟩
      try simp only [ite_max0] at *
      omega
  case rest =>
    obtain ⟨rfl, rfl⟩ := hcut
    go_wp2_with fail
    refine HS.out.mono ?_
    rintro e w1 ⟨rfl, hc1, hD1⟩
    have k2 := hD1.hp.cell (i := 2) rfl
    have k3 := hD1.hp.cell (i := 3) rfl
    have k4 := hD1.hp.cell (i := 4) rfl
    have kf := hD1.hp.free
    have hp1 := hD1.hp.lt
    have Hc1 := Lib.hid hc1
    have HD1 := Lib.hid hD1
    clear hc1 hD1
    by_cases hnm : n < m
    · obtain ⟨e, he⟩ : ∃ e, D.q[n]? = some e := ⟨D.q[n]'(by rw [Hm.out]; exact hnm), by simp [Hm.out, hnm]⟩
      obtain ⟨q0, q1, q2⟩ := qcells_at D.q n e he
      have hgw : ∀ j v, (qcells D.q)[j]? = some v → w1.cell? ⟨g, j, none⟩ = some v := fun j v hv => (World.cell?_of_block (Hc1.out.block g hgl (by simp; omega))).trans (Hcells.out j v hv)
      have c0 := hgw _ _ q0
      have c1 := hgw _ _ q1
      have c2 := hgw _ _ q2
      clear q0 q1 q2 hgw
      have He := Lib.hid he
      clear he
      obtain ⟨k, hk⟩ : ∃ k, k = DK.torn y := ⟨_, rfl⟩
      have Hck : Hid ((k : Int) = min (max y 0) 64) := Lib.hid (by rw [hk]; unfold DK.torn; omega)
      have Hk := Lib.hid hk
      have hk64 : k ≤ 64 := by rw [hk]; exact DK.torn_le y
      clear hk
      go_upto_region 5 with fail
      go_cut [7, 8] (fun s7 s8 wx => ∃ b : Nat, s7 = .pointer (some ⟨b, 0, none⟩) ∧ s8 = .int .i64 (k : Int) ∧ wc.heap.size ≤ b ∧ Blk wx b [.int .i64 ((e.1 : Int) * 64), .int .i64 (((e.1 : Int) + 1) * 64), .string ⟨e.2.toArray⟩] 89 ∧
        DkR wx p bs be (.slice (some ⟨g, 0, none⟩) m cap) av (D.settle (D.q.take n)) ∧ Chg [bs, be] wc wx)
      case first =>
        go_wp2_with fail
        all_goals
          go_meet
          have := Hck.out
          refine ⟨_, rfl, vint ?_, Hc1.out.size, Blk.new w1 _ _, HD1.out.kept ((Chg.refl [] w1).alloc _) (by simp), Hc1.out.alloc _⟩
          try simp only [ite_max0] at *
          omega
      case rest =>
        clear c0 c1 c2 k2 k3 k4 kf
        obtain ⟨b, rfl, rfl, hbn, hB, hD2, hC2⟩ := hcut
        have hx := H.out.ok.q e (List.mem_of_getElem? He.out)
        have Hex : Hid (e.1 < D.n ∧ e.2.length = 64) := Lib.hid hx
        have k2 := hD2.hp.cell (i := 2) rfl
        have k3 := hD2.hp.cell (i := 3) rfl
        have k4 := hD2.hp.cell (i := 4) rfl
        have kf := hD2.hp.free
        have b0 := hB.cell (i := 0) rfl
        have b1 := hB.cell (i := 1) rfl
        have b2 := hB.cell (i := 2) rfl
        have HB := Lib.hid hB
        have HD2 := Lib.hid hD2
        have HC2 := Lib.hid hC2
        clear hB hD2 hC2 hx HD1 Hc1 HS
        have hkl : k ≤ e.2.length := by rw [Hex.out.2]; exact hk64
        have hkl2 : (k : Int) ≤ (⟨e.2.toArray⟩ : ByteArray).size := by rw [Lib.size_eq]; simpa using hkl
        by_cases hk0 : 0 < k
        · go_wp2_with fail
          refine wp_region_tail 7 (by kernel_rfl) (by kernel_rfl) (fun L hL => ?_)
          simp only [List.take_succ_cons, List.take_zero, List.drop_succ_cons, List.drop_zero] at hL ⊢
          repeat still_step
          refine wpStill_nil (hL _ ?_)
          clear hL L
          go_wp2_with fail
          rw [show (⟨e.2.toArray⟩ : ByteArray).extract 0 k = ⟨(e.2.take k).toArray⟩ from by rw [ByteArray.extract_mk]; simp]
          refine (set_spec (HD2.out.kept (Chg.refl [] wc).drew (by simp)) e.1 (by rw [DK.settle_n]; exact Hex.out.1) ⟨(e.2.take k).toArray⟩ (by rw [Lib.size_eq]; simp; omega)).mono ?_
          rintro e2 w2 ⟨rfl, hc3, hD3⟩
          clear k2 k3 k4 kf b0 b1 b2
          have k2 := hD3.hp.cell (i := 2) rfl
          have k3 := hD3.hp.cell (i := 3) rfl
          have k4 := hD3.hp.cell (i := 4) rfl
          have kf := hD3.hp.free
          have hp3 := hD3.hp.lt
          have HC3 : Hid (Chg [p, bs, be] _ w2) := Lib.hid ((HC2.out.mono (by simp)).drew.trans hc3 (by simp))
          have HD3 := Lib.hid hD3
          clear hc3 hD3
          go_wp2_with fail
          refine bodyPost_end (results_none rfl _ _ _) rfl ⟨rfl, ?_, ?_⟩
          · refine Chg.setCell (Chg.setCell (Chg.setCell HC3.out _ _ (.inl (by simp))) _ _ (.inl (by simp))) _ _ (.inl (by simp))
          · have := HD3.out.down
            unfold DK.down
            have hd : D.q.drop n = e :: D.q.drop (n + 1) := by
              rw [List.drop_eq_getElem_cons (by rw [Hm.out]; exact hnm)]
              congr 1
              have := He.out
              rw [List.getElem?_eq_getElem (by rw [Hm.out]; exact hnm)] at this
              simpa using this
            rw [← Hn.out, hd, DK.tear, ← Hk.out, if_pos hk0]
            exact this
        · go_wp2_with fail
          refine bodyPost_end (results_none rfl _ _ _) rfl ⟨rfl, ?_, ?_⟩
          · refine Chg.setCell (Chg.setCell (Chg.setCell (HC2.out.mono (by simp)) _ _ (.inl (by simp))) _ _ (.inl (by simp))) _ _ (.inl (by simp))
          · have := HD2.out.down
            unfold DK.down
            rw [← Hn.out, List.drop_eq_getElem_cons (by rw [Hm.out]; exact hnm), DK.tear, ← Hk.out, if_neg hk0]
            exact this
    · go_wp2_with fail
      refine bodyPost_end (results_none rfl _ _ _) rfl ⟨rfl, ?_, ?_⟩
      · refine Chg.setCell (Chg.setCell (Chg.setCell (Hc1.out.mono (by simp)) _ _ (.inl (by simp))) _ _ (.inl (by simp))) _ _ (.inl (by simp))
      · have := HD1.out.down
        unfold DK.down
        rw [← Hn.out, List.drop_of_length_le (by rw [Hm.out]; omega)]
        exact this
end Go.Proofs.YtpmkgedlnanjiaaGreatDoor
namespace Go.Proofs.YtpmkgedlnanjiaaGreatDoor
set_option linter.unusedVariables false
set_option maxRecDepth 100000
set_option linter.unusedSimpArgs false
open Go Go.RowKit

theorem fail_nilq {w : World} {p bs be : Nat} {av : Value} {D : DK} (h : DkR w p bs be (.slice none 0 0) av D) (hoff : D.off = false) (hq : D.q = []) (x y : Int) :
    Calls Tryz.prog 20 #[.pointer (some ⟨p,0,none⟩), .int .i64 x, .int .i64 y] w fun e w' => e = .returned (.tuple #[]) ∧ Chg [p, bs, be] w w' ∧ DkR w' p bs be (.slice none 0 0) (.pointer none) (D.down x y) := by
  have h2 := h.hp.cell (i := 2) rfl
  have h3 : w.cell? ⟨p, 3, none⟩ = some (.bool false) := by have := h.hp.cell (i := 3) rfl; rw [hoff] at this; exact this
  have h4 := h.hp.cell (i := 4) rfl
  have hf := h.hp.free
  have hpl := h.hp.lt
  have H := Lib.hid h
  have Hq := Lib.hid hq
  clear h hoff hq
  go_enter Tryz.func20, Tryz.ntmps20
  go_upto_region 1 with fail
  go_cut [6] (fun s6 wx => wx = w ∧ s6 = .int .i64 0)
  case first =>
    go_wp2_with fail
    all_goals
      go_meet
      refine ⟨rfl, vint ?_⟩
      (try simp only [ite_max0] at *) <;> omega
  case rest =>
    obtain ⟨rfl, rfl⟩ := hcut
    go_wp2_with fail
    refine (settle_nil _ p none 0).mono ?_
    rintro e w1 ⟨rfl, rfl⟩
    go_wp2_with fail
    refine bodyPost_end (results_none rfl _ _ _) rfl ⟨rfl, ?_, ?_⟩
    · refine Chg.setCell (Chg.setCell (Chg.setCell (Chg.refl _ _) _ _ (.inl (by simp))) _ _ (.inl (by simp))) _ _ (.inl (by simp))
    · have := H.out.down
      unfold DK.down
      rw [Hq.out]
      simp only [List.take_nil, List.drop_nil]
      exact this

theorem fail_spec {w : World} {own : List Nat} {p : Nat} {D : DK} (h : DkAt w own p D) (hq : D.q.length ≤ 1000000) (x y : Int) :
    Calls Tryz.prog 20 #[.pointer (some ⟨p,0,none⟩), .int .i64 x, .int .i64 y] w fun e w' => e = .returned (.tuple #[]) ∧ DkTo w own p (D.fail x y) w' := by
  obtain ⟨bs, be, qv, av, h, rfl⟩ := h
  by_cases hoff : D.off = true
  · have h3 : w.cell? ⟨p, 3, none⟩ = some (.bool true) := by have := h.hp.cell (i := 3) rfl; rw [hoff] at this; exact this
    refine (fail_off w p x y h3).mono ?_
    rintro e w' ⟨rfl, rfl⟩
    rw [DK.fail, if_pos hoff]
    exact ⟨rfl, h.to (Chg.refl _ _)⟩
  · have hoff' : D.off = false := by simpa using hoff
    rw [DK.fail, if_neg hoff]
    have key : ∀ e w', (e = Ending.returned (.tuple #[]) ∧ Chg [p, bs, be] w w' ∧ DkR w' p bs be (.slice none 0 0) (.pointer none) (D.down x y)) → e = Ending.returned (.tuple #[]) ∧ DkTo w (dkOwn p bs be qv av) p (D.down x y) w' := by
      rintro e w' ⟨rfl, hc, hD⟩
      exact ⟨rfl, _, ⟨bs, be, _, _, hD, rfl⟩, hc.mono (fun k hk => mem_dkOwn.2 (by simp at hk; rcases hk with rfl | rfl | rfl <;> simp)), fun k hk => by
        rcases mem_dkOwn.1 hk with rfl | rfl | rfl | hk | hk
        · exact .inl (mem_dkOwn.2 (by simp))
        · exact .inl (mem_dkOwn.2 (by simp))
        · exact .inl (mem_dkOwn.2 (by simp))
        · simp [Value.ownBlock] at hk
        · simp [avBlk] at hk⟩
    rcases h.qcases with ⟨rfl, h0⟩ | ⟨g, cap, rfl⟩
    · exact (fail_nilq h hoff' h0 x y).mono key
    · exact (fail_row (Lib.hid h) (Lib.hid rfl) hoff' hq x y).mono key

theorem count_none (w : World) (p : Nat) (h : w.cell? ⟨p, 4, none⟩ = some (.pointer none)) : Calls Tryz.prog 99 #[.pointer (some ⟨p,0,none⟩)] w fun e w' => e = .returned (.int .i64 0) ∧ w = w' := by
  go_enter Tryz.func99, Tryz.ntmps99
  go_wp2
  go_ret
  exact ⟨rfl, rfl⟩
theorem count_pos (w : World) (p ba : Nat) (n : Int) (hn : 0 < n) (hn2 : n ≤ 9223372036854775807) (h : w.cell? ⟨p, 4, none⟩ = some (.pointer (some ⟨ba, 0, none⟩)))
    (h2 : w.cell? ⟨ba, 0, none⟩ = some (.int .i64 n)) (h3 : w.frozen? ⟨ba, 0, none⟩ = false) : Calls Tryz.prog 99 #[.pointer (some ⟨p,0,none⟩)] w fun e w' => e = .returned (.int .i64 0) ∧ w' = w.setCell ⟨ba, 0, none⟩ (.int .i64 (n-1)) := by
  go_enter Tryz.func99, Tryz.ntmps99
  go_wp2
  go_ret
  exact ⟨rfl, rfl⟩
theorem count_zero {w : World} {own : List Nat} {p ba : Nat} {D : DK} {x y : Int} (H : Hid (DkAt w own p D)) (hq : D.q.length ≤ 1000000) (h : w.cell? ⟨p, 4, none⟩ = some (.pointer (some ⟨ba, 0, none⟩)))
    (h0 : w.cell? ⟨ba, 0, none⟩ = some (.int .i64 0)) (h1 : w.cell? ⟨ba, 1, none⟩ = some (.int .i64 x)) (h2 : w.cell? ⟨ba, 2, none⟩ = some (.int .i64 y)) :
    Calls Tryz.prog 99 #[.pointer (some ⟨p,0,none⟩)] w fun e w' => e = .returned (.int .i64 24) ∧ DkTo w own p (D.fail x y) w' := by
  go_enter Tryz.func99, Tryz.ntmps99
  go_wp2_with fail
  refine wp_region_tail 15 (by kernel_rfl) (by kernel_rfl) (fun L hL => ?_)
  simp only [List.take_succ_cons, List.take_zero, List.drop_succ_cons, List.drop_zero] at hL ⊢
  repeat still_step
  refine wpStill_nil (hL _ ?_)
  clear hL L
  go_wp2_with fail
  refine (fail_spec (H.out.kept (Chg.refl [] w).drew (by simp)) hq x y).mono ?_
  rintro e w' ⟨rfl, hT⟩
  have HT : Hid _ := Lib.hid (DkTo.trans (Chg.refl own w).drew (fun k hk => .inl hk) hT)
  clear hT
  go_wp2_with fail
  go_ret
  exact ⟨rfl, HT.out⟩

theorem count_spec {w : World} {own : List Nat} {p : Nat} {D : DK} (h : DkAt w own p D) (hq : D.q.length ≤ 1000000) :
    Calls Tryz.prog 99 #[.pointer (some ⟨p,0,none⟩)] w fun e w' => e = .returned (.int .i64 D.count.1) ∧ DkTo w own p D.count.2 w' := by
  have hA := Lib.hid h
  obtain ⟨bs, be, qv, av, h, rfl⟩ := h
  have h4 := h.hp.cell (i := 4) rfl
  cases ha : D.arm with
  | none =>
    have hav : av = .pointer none := by have := h.ha; rw [ha] at this; exact this
    subst hav
    refine (count_none w p h4).mono ?_
    rintro e w' ⟨rfl, rfl⟩
    rw [show D.count = (0, D) from by simp [DK.count, ha]]
    exact ⟨rfl, h.to (Chg.refl _ _)⟩
  | some t =>
    obtain ⟨a, x, y⟩ := t
    have hav := h.ha
    rw [ha] at hav
    obtain ⟨ba, rfl, hb⟩ := hav
    have hr := h.ok.arm a x y ha
    by_cases h0 : 0 < a
    · refine (count_pos w p ba a h0 hr.2 h4 (hb.cell (i := 0) rfl) (hb.free 0)).mono ?_
      rintro e w' ⟨rfl, rfl⟩
      rw [show D.count = (0, { D with arm := some (a - 1, x, y) }) from by simp [DK.count, ha, h0]]
      refine ⟨rfl, ?_⟩
      have d5 := h.nds.2.2.2.2.1 ba (by simp [avBlk])
      have d6 := h.nds.2.2.2.2.2
      have hc : Chg [ba] w (w.setCell ⟨ba, 0, none⟩ (.int .i64 (a - 1))) := (Chg.refl _ _).setCell _ _ (.inl (by simp))
      refine DkR.to (D := { D with arm := some (a - 1, x, y) }) ⟨hc.blk h.hp (by simp; omega), h.hs.kept hc (by simp; omega), h.he.kept hc (by simp; omega), row_kept h.hq hc (fun k hk => by
        have := d6 k hk; simpa [avBlk] using this), ⟨ba, rfl, hb.set 0 _⟩, h.nd, ⟨h.ok.n1, h.ok.n2, h.ok.st, h.ok.el, h.ok.q, fun a' w' b' h' => by simp at h'; omega⟩⟩ (hc.mono (fun k hk => by simp at hk; subst hk; exact mem_dkOwn.2 (by simp [avBlk])))
    · have h0' : a = 0 := by omega
      subst h0'
      simp only [DK.count, ha, if_neg h0]
      exact count_zero hA hq h4 (hb.cell (i := 0) rfl) (hb.cell (i := 1) rfl) (hb.cell (i := 2) rfl)
end Go.Proofs.YtpmkgedlnanjiaaGreatDoor
