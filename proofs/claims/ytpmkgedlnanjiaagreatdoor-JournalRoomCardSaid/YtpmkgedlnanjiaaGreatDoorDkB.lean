/-
  Contracts of the disk's inner functions over the disk in memory: set, settle, Fail, count.
-/
import Derived.Test.YtpmkgedlnanjiaaGreatDoorDkA
import Derived.Deep.LoopGhost
namespace Go.Proofs.YtpmkgedlnanjiaaGreatDoor
set_option linter.unusedVariables false
set_option maxRecDepth 100000
set_option linter.unusedSimpArgs false
open Go Go.RowKit

theorem splice_get (L cs : Bytes) (off k : Nat) (h : off + cs.length ≤ L.length) :
    (splice L off cs)[k]? = if k < off then L[k]? else if k < off + cs.length then cs[k - off]? else L[k]? := by
  unfold splice
  rw [List.getElem?_append, List.getElem?_append, List.getElem?_take, List.getElem?_drop]
  simp only [List.length_take]
  have : min off L.length = off := by omega
  rw [this]
  by_cases h1 : k < off
  · simp [h1]
  · by_cases h2 : k < off + cs.length
    · have : k - off < cs.length := by omega
      simp [h1, h2, this]
    · have h3 : ¬ k - off < cs.length := by omega
      simp only [h1, h2, h3, if_false]
      congr 1
      omega

theorem sec_splice (S t : Bytes) (n s i : Nat) (hS : S.length = n * 64) (hs : s < n) (hi : i < n) (ht : t.length ≤ 64) :
    ((splice S (s * 64) t).drop (i * 64)).take 64 = if i = s then t ++ ((S.drop (s * 64)).take 64).drop t.length else (S.drop (i * 64)).take 64 := by
  apply List.ext_getElem?
  intro k
  rw [List.getElem?_take, List.getElem?_drop, splice_get _ _ _ _ (by omega)]
  by_cases his : i = s
  · subst his
    rw [if_pos rfl, List.getElem?_append, List.getElem?_drop, List.getElem?_take, List.getElem?_drop]
    by_cases hk : k < 64
    · rw [if_pos hk, if_neg (by omega)]
      by_cases hk2 : k < t.length
      · rw [if_pos (by omega), if_pos hk2]; congr 1; omega
      · rw [if_neg (by omega), if_neg hk2, if_pos (by omega)]; congr 1; omega
    · rw [if_neg hk, if_neg (by omega), if_neg (by omega)]
  · rw [if_neg his, List.getElem?_take, List.getElem?_drop]
    by_cases hk : k < 64
    · rw [if_pos hk, if_pos hk]
      by_cases h1 : i < s
      · rw [if_pos (by omega)]
      · rw [if_neg (by omega), if_neg (by omega)]
    · rw [if_neg hk, if_neg hk]

theorem DkR.nds {w : World} {p bs be : Nat} {qv av : Value} {D : DK} (h : DkR w p bs be qv av D) : p ≠ bs ∧ p ≠ be ∧ bs ≠ be ∧ (∀ k ∈ qv.ownBlock.toList, k ≠ p ∧ k ≠ bs ∧ k ≠ be) ∧ (∀ k ∈ avBlk av, k ≠ p ∧ k ≠ bs ∧ k ≠ be) ∧ (∀ k ∈ qv.ownBlock.toList, k ∉ avBlk av) := by
  have := h.nd
  simp only [dkOwn, List.cons_append, List.nil_append, List.nodup_cons, List.mem_cons, List.mem_append, List.nodup_append, not_or] at this
  obtain ⟨⟨h1, h2, h3, h4⟩, ⟨h5, h6, h7⟩, ⟨h8, h9⟩, h10, h11, h12⟩ := this
  refine ⟨h1, h2, h5, fun k hk => ⟨fun e => h3 (e ▸ hk), fun e => h6 (e ▸ hk), fun e => h8 (e ▸ hk)⟩, fun k hk => ⟨fun e => h4 (e ▸ hk), fun e => h7 (e ▸ hk), fun e => h9 (e ▸ hk)⟩, fun k hk hm => h12 k hk k hm rfl⟩

theorem set_spec {w : World} {p bs be : Nat} {qv av : Value} {D : DK} (h : DkR w p bs be qv av D) (s : Nat) (hs : s < D.n) (t : ByteArray) (ht : t.size ≤ 64) :
    Calls Tryz.prog 62 #[.pointer (some ⟨p,0,none⟩), .agg #[.int .i64 ((s : Int) * 64), .int .i64 (((s : Int) + 1) * 64)], .string t] w fun e w' => e = .returned (.tuple #[]) ∧ Chg [bs, be] w w' ∧
      DkR w' p bs be qv av (D.put s t.data.toList) := by
  obtain ⟨S, hS, hSl, hSs⟩ := h.hs
  obtain ⟨E, hE, hEl, hEs⟩ := h.he
  obtain ⟨d1, d2, d3, d4, d5, _⟩ := h.nds
  have n2 := h.ok.n2
  rw [show ((s : Int) * 64) = ((s * 64 : Nat) : Int) by omega, show (((s : Int) + 1) * 64) = ((s * 64 + 64 : Nat) : Int) by omega]
  refine (set_calls w p bs be (D.n * 64) (s * 64) (s * 64 + 64) S E t h.hp.lt (h.hp.cell (i := 0) rfl) (h.hp.cell (i := 1) rfl) (by omega) d1 d2 d3 hS hE hSl hEl (by omega) (by omega) (by omega)).mono ?_
  rintro e w' ⟨rfl, hc, hS', hE'⟩
  have htl : t.data.toList.length ≤ 64 := by rw [← Lib.size_eq]; exact ht
  have hsec : (S.drop (s * 64)).take 64 = D.st s := hSs s hs
  have h64 : s * 64 + 64 - s * 64 = 64 := by omega
  rw [h64, hsec] at hE'
  have h64' := h.ok.st s hs
  refine ⟨rfl, hc, hc.blk h.hp (by simp; exact ⟨d1, d2⟩), ⟨_, hS', ?_, fun i hi => ?_⟩, ⟨_, hE', ?_, fun i hi => ?_⟩, row_kept h.hq hc (fun k hk => by have := d4 k hk; simp; omega), h.ha.kept hc (fun k hk => by have := d5 k hk; simp; omega), h.nd, DK.put_ok h.ok s _ hs htl⟩
  · rw [length_splice _ _ _ (by omega)]; exact hSl
  · rw [sec_splice S _ D.n s i hSl hs hi htl]
    simp only [DK.put]
    split
    · rw [hsec]
    · exact hSs i hi
  · rw [length_splice _ _ _ (by omega)]; exact hEl
  · rw [sec_splice E _ D.n s i hEl hs hi (by omega)]
    simp only [DK.put]
    split
    · rw [List.drop_of_length_le (by simp; omega), List.append_nil]
    · exact hEs i hi
theorem settle_spec {w : World} {p bs be : Nat} {qv av : Value} {D : DK} (h : DkR w p bs be qv av D) (l : List (Nat × Bytes)) (g cap : Nat) (hl : ∀ x ∈ l, x.1 < D.n ∧ x.2.length = 64) (hg : g ∈ qv.ownBlock.toList)
    (hc : ∀ j v, (qcells l)[j]? = some v → w.cell? ⟨g, j, none⟩ = some v) (hm : l.length ≤ 1000000) :
    Calls Tryz.prog 61 #[.pointer (some ⟨p,0,none⟩), .slice (some ⟨g, 0, none⟩) l.length cap] w fun e w' => e = .returned (.tuple #[]) ∧ Chg [bs, be] w w' ∧
      DkR w' p bs be qv av (D.settle l) := by
  have hgl : g < w.heap.size := row_lt h.hq g hg
  have hgn := h.nds.2.2.2.1 g hg
  go_enter Tryz.func61, Tryz.ntmps61
  go_wp2_with fail
  go_loopw [8] (fun i wr => ∃ k : Nat, k ≤ l.length ∧ i = .int .i64 k ∧ DkR wr p bs be qv av (D.settle (l.take k)) ∧ Chg [bs,be] w wr) (fun i _ => l.length - (intOf i).toNat)
  case atStart => exact ⟨0, Nat.zero_le _, rfl, by simpa [DK.settle] using h, Chg.refl _ _⟩
  case round =>
    obtain ⟨k, hk, rfl, hD, hC⟩ := hrel
    by_cases hlt : k < l.length
    · obtain ⟨x, hx⟩ : ∃ x, l[k]? = some x := ⟨l[k], by simp [hlt]⟩
      obtain ⟨q0, q1, q2⟩ := qcells_at l k x hx
      have hgw : ∀ j v, (qcells l)[j]? = some v → wr.cell? ⟨g, j, none⟩ = some v := fun j v hv => (World.cell?_of_block (hC.block g hgl (by simp; omega))).trans (hc j v hv)
      have c0 := hgw _ _ q0
      have c1 := hgw _ _ q1
      have c2 := hgw _ _ q2
      clear q0 q1 q2 hgw
      obtain ⟨hx1, hx2⟩ : x.1 < D.n ∧ x.2.length = 64 := hl x (List.mem_of_getElem? hx)
      have Hn : Hid ((D.settle (l.take k)).n = D.n) := Lib.hid (DK.settle_n _ _)
      have Hs : Hid (D.settle (l.take (k + 1)) = (D.settle (l.take k)).put x.1 x.2) := Lib.hid (by
        rw [List.take_add_one, hx, Option.toList_some, DK.settle_snoc])
      clear hx
      have HD := Lib.hid hD
      have HC := Lib.hid hC
      have Hx2 := Lib.hid hx2
      clear hD hC hl hx2 h
      go_wp2_with fail
      refine (set_spec (HD.out.kept ((Chg.refl [] wr).alloc _) (by simp)) x.1 (by rw [Hn.out]; exact hx1) ⟨x.2.toArray⟩ (by rw [Lib.size_eq]; simp [Hx2.out])).mono ?_
      rintro e w1 ⟨rfl, hc1, hD1⟩
      have HD1 := Lib.hid hD1
      have HC1 : Hid (Chg [bs, be] wr w1) := Lib.hid (((Chg.refl [bs, be] wr).alloc _).trans hc1 (by simp))
      clear hD1 hc1
      go_wp2_with fail
      go_roundw
      case rel => exact ⟨k + 1, by omega, by go_num, by rw [Hs.out]; exact HD1.out, HC.out.trans HC1.out (fun k hk => .inl hk)⟩
      case measure => simp [intOf]; omega
    · have hkl : k = l.length := by omega
      have HD := Lib.hid hD
      have HC := Lib.hid hC
      clear hD hC hl h hc
      have H := Lib.hid hkl
      clear hkl
      go_wp2_with fail
      go_end0
      have := HD.out
      rw [H.out, List.take_length] at this
      exact ⟨rfl, HC.out, this⟩

theorem DkR.qcases {w : World} {p bs be : Nat} {qv av : Value} {D : DK} (h : DkR w p bs be qv av D) : (qv = .slice none 0 0 ∧ D.q = []) ∨ ∃ g cap, qv = .slice (some ⟨g, 0, none⟩) D.q.length cap := by
  rcases h.hq.2 with ⟨h0, h1⟩ | ⟨g, c, cur, he, _⟩
  · exact .inl ⟨h0, List.eq_nil_of_length_eq_zero h1⟩
  · exact .inr ⟨g, c, he⟩

end Go.Proofs.YtpmkgedlnanjiaaGreatDoor
