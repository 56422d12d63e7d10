/-
  The reference disk of layer 43: contracts of Rot and New.
-/
import Derived.Test.YtnlgblcldbdnlaaRfE
namespace Go.Proofs.Ytnlgblcldbdnlaa
set_option linter.unusedVariables false
set_option linter.unusedSimpArgs false
open Go Go.RowKit
attribute [local irreducible] Go.wpStill

theorem byte_of {t : Bytes} {k : Nat} {x : UInt8} (h : t[k]? = some x) (hk : k < (⟨t.toArray⟩ : ByteArray).size) : (⟨t.toArray⟩ : ByteArray)[k]'hk = x := by
  have h2 := (List.getElem?_eq_some_iff.1 h).2
  rw [← h2]
  rfl
theorem flip_join (z : Bytes) (a : Nat) (v : UInt8) (ha : a < z.length) : (⟨z.toArray⟩ : ByteArray).extract 0 a ++ ⟨[v].toArray⟩ ++ (⟨z.toArray⟩ : ByteArray).extract (a + 1) z.length = ⟨(z.set a v).toArray⟩ := by
  apply ByteArray.ext
  apply Array.ext'
  rw [List.set_eq_take_append_cons_drop, if_pos ha]
  simp
  exact List.take_of_length_le (by simp)

theorem rrot_bad (w : World) (p n c : Nat) (ao : Option Addr) (s a m : Int) (k0 : w.cell? ⟨p, 0, none⟩ = some (.slice ao n c)) (hs : ¬ ((0 ≤ s ∧ s < (n : Int)) ∧ 0 ≤ a ∧ a < 64 ∧ 0 < m ∧ m < 256)) :
    Calls Try.prog 37 #[.pointer (some ⟨p, 0, none⟩), .int .i64 s, .int .i64 a, .int .i64 m] w fun e w' => e = .returned (.tuple #[]) ∧ Chg [] w w' := by
  by_cases h1 : s < 0
  · clear hs
    go_enter Try.func37, Try.ntmps37
    go_wp2_with fail
    exact bodyPost_ret (results_none rfl _ _ _) rfl ⟨rfl, Chg.refl _ _⟩
  have h1' : 0 ≤ s := by omega
  by_cases h2 : (n : Int) ≤ s
  · clear hs
    go_enter Try.func37, Try.ntmps37
    go_wp2_with fail
    exact bodyPost_ret (results_none rfl _ _ _) rfl ⟨rfl, Chg.refl _ _⟩
  have h2' : s < (n : Int) := by omega
  by_cases h3 : a < 0
  · clear hs
    go_enter Try.func37, Try.ntmps37
    go_wp2_with fail
    exact bodyPost_ret (results_none rfl _ _ _) rfl ⟨rfl, Chg.refl _ _⟩
  have h3' : 0 ≤ a := by omega
  by_cases h4 : 64 ≤ a
  · clear hs
    go_enter Try.func37, Try.ntmps37
    go_wp2_with fail
    exact bodyPost_ret (results_none rfl _ _ _) rfl ⟨rfl, Chg.refl _ _⟩
  have h4' : a < 64 := by omega
  by_cases h5 : m < 1
  · clear hs
    go_enter Try.func37, Try.ntmps37
    go_wp2_with fail
    exact bodyPost_ret (results_none rfl _ _ _) rfl ⟨rfl, Chg.refl _ _⟩
  have h5' : 1 ≤ m := by omega
  have h6 : 255 < m := by omega
  clear hs
  go_enter Try.func37, Try.ntmps37
  go_wp2_with fail
  exact bodyPost_ret (results_none rfl _ _ _) rfl ⟨rfl, Chg.refl _ _⟩

set_option maxHeartbeats 1000000 in
theorem rrot_fine (w : World) (p gs cs n s a m : Nat) (z : Bytes) (hn : n ≤ 4000) (hs : s < n) (ha : a < 64) (hm0 : 0 < m) (hm : m < 256) (k0 : w.cell? ⟨p, 0, none⟩ = some (.slice (some ⟨gs, 0, none⟩) n cs)) (hp : p < w.heap.size) (hgl : gs < w.heap.size)
    (s0 : w.cell? ⟨gs, s, none⟩ = some (.string ⟨z.toArray⟩)) (f0 : w.frozen? ⟨gs, s, none⟩ = false) (hz : z.length = 64) :
    Calls Try.prog 37 #[.pointer (some ⟨p, 0, none⟩), .int .i64 (s : Int), .int .i64 (a : Int), .int .i64 (m : Int)] w fun e w' => e = .returned (.tuple #[]) ∧ ∃ w1, Chg [] w w1 ∧ w' = w1.setCell ⟨gs, s, none⟩ (vstr (DK.flip z a (UInt8.ofNat m))) := by
  obtain ⟨x, hx⟩ : ∃ x, z[a]? = some x := ⟨z[a]'(by omega), by simp⟩
  have hkx : a < (⟨z.toArray⟩ : ByteArray).size := by rw [Lib.size_eq]; simp; omega
  have hbx := byte_of hx hkx
  obtain ⟨v, hv⟩ : ∃ v, v = x ^^^ UInt8.ofNat m := ⟨_, rfl⟩
  have hxm : bits BinOp.xor IntKind.u8 (x.toNat : Int) (m : Int) = (v.toNat : Int) := by
    rw [u8_xor_nat _ _ x.toNat_lt hm, hv, UInt8.toNat_xor, UInt8.toNat_ofNat', show m % 2 ^ 8 = m from Nat.mod_eq_of_lt hm]
  have HF : Hid (DK.flip z a (UInt8.ofNat m) = z.set a v) := Lib.hid (by
    unfold DK.flip
    rw [hv, List.getD_eq_getElem?_getD, hx]
    rfl)
  have hmw : IntKind.u8.wrap (m : Int) = (m : Int) := IntWalk.u8_in _ (by omega)
  have HZ := Lib.hid hz
  clear hv hx
  go_enter Try.func37, Try.ntmps37
  go_upto_region 3 with fail
  obtain ⟨w2, hw2⟩ : ∃ w2, w2 = w.alloc (.cells #[.int .u8 (v.toNat : Int)] 5) := ⟨_, rfl⟩
  rw [← hw2]
  have hc2 : Chg [] w w2 := by rw [hw2]; exact (Chg.refl _ _).alloc _
  have hb : Blk w2 w.heap.size ([v].map B8) 5 := by rw [hw2]; exact Blk.new w [.int .u8 (v.toNat : Int)] _
  have q0 := (World.cell?_of_block (hc2.block p hp (by simp))).trans k0
  have t0 := (World.cell?_of_block (hc2.block gs hgl (by simp))).trans s0
  have g0 := (World.frozen?_of_block (hc2.block gs hgl (by simp))).trans f0
  generalize w.heap.size = tb at *
  have hcv : (convert 57 9 (.slice (some ⟨tb, 0, none⟩) 1 1)).run Try.prog w2.drew = .ok (.string ⟨[v].toArray⟩) w2.drew := by
    have hrun' : (Conv.bytesToString (.slice (some ⟨tb, 0, none⟩) 1 1)).run Try.prog w2.drew = .ok (.string ⟨[v].toArray⟩) w2.drew := run_bytes_of (w := w2.drew) (l := [v]) hb rfl (fun j hj => by rw [Nat.zero_add])
    rw [run_convert_bytes_string _ _ _ 5 _ _ _ Try.underlying57 Try.underlying5 Try.underlying9]
    exact hrun'
  have HC2 := Lib.hid hc2
  have hla : (a : Int) ≤ (⟨z.toArray⟩ : ByteArray).size := by rw [Lib.size_eq]; simp; omega
  obtain ⟨b, hbe⟩ : ∃ b, b = a + 1 := ⟨_, rfl⟩
  have hlb : (b : Int) ≤ (⟨z.toArray⟩ : ByteArray).size := by rw [Lib.size_eq]; simp; omega
  have hwr : IntKind.i64.wrap ((a : Int) + 1) = (b : Int) := by rw [IntWalk.i64_in _ (by omega)]; omega
  have hlz : a ≤ z.length := by omega
  have hlz1 : b ≤ z.length := by omega
  have hzm : ¬ 9223372036854775807 < z.length := by omega
  have hza : ¬ 9223372036854775807 < a + 1 := by omega
  have hzb : ¬ 9223372036854775807 < a + 1 + (z.length - b) := by omega
  have HBE := Lib.hid hbe
  clear hbe
  clear hc2 hw2 k0 s0 f0 hbx hb hxm hmw hp hgl hz hkx
  refine wp_region_tail 16 (by kernel_rfl) (by kernel_rfl) (fun L hL => ?_)
  simp only [List.take_succ_cons, List.take_zero, List.drop_succ_cons, List.drop_zero] at hL ⊢
  repeat still_step
  refine wpStill_nil (hL _ ?_)
  clear hL L
  go_wp2_with fail
  refine bodyPost_end (results_none rfl _ _ _) rfl ⟨rfl, w2.drew, HC2.out.drew, ?_⟩
  rw [HF.out, vstr, ← flip_join z a v (by have := HZ.out; omega), ← HBE.out]
  rfl
theorem rrot_spec {w : World} {own : List Nat} {p : Nat} {D : DK} (h : RfAt w own p D) (s a m : Int) :
    Calls Try.prog 37 #[.pointer (some ⟨p, 0, none⟩), .int .i64 s, .int .i64 a, .int .i64 m] w fun e w' => e = .returned (.tuple #[]) ∧ RfTo w own p (D.rot s a m) w' := by
  have hA := h
  obtain ⟨gs, cs, ge, ce, qv, A, W, B, h, rfl⟩ := h
  have k0 := h.hp.cell (i := 0) rfl
  by_cases hv : D.rotOk s a m = true
  · have hv' := hv
    simp only [DK.rotOk, DK.valid, Bool.and_eq_true, decide_eq_true_eq] at hv'
    obtain ⟨k, rfl⟩ := Int.eq_ofNat_of_zero_le hv'.1.1
    obtain ⟨j, rfl⟩ := Int.eq_ofNat_of_zero_le hv'.2.1
    obtain ⟨u, rfl⟩ := Int.eq_ofNat_of_zero_le (show 0 ≤ m by omega)
    have hk : k < D.n := by omega
    refine (rrot_fine w p gs cs D.n k j u _ h.ok.n2 hk (by omega) (by omega) (by omega) k0 h.hp.lt h.gsl (h.hs.cellOf k hk) (h.hs.freeOf k hk) (h.ok.st k hk)).mono ?_
    rintro e w' ⟨rfl, w1, hc, rfl⟩
    refine ⟨rfl, ?_⟩
    have hD : D.rot (k : Int) (j : Int) (u : Int) = { D with st := fun i => if i = k then DK.flip (D.st k) j (UInt8.ofNat u) else D.st i } := by
      unfold DK.rot
      rw [if_pos hv]
      congr 1
      funext i
      by_cases hi : i = k
      · rw [if_pos (by simpa using hi), if_pos hi, hi]
        rfl
      · rw [if_neg (by simpa using hi), if_neg hi]
    rw [hD]
    have hd := (h.kept hc (by simp)).stored k (DK.flip (D.st k) j (UInt8.ofNat u)) hk (by simp only [DK.flip, List.length_set]; exact h.ok.st k hk)
    exact hd.to ((hc.mono (by simp)).setCell _ _ (.inl (mem_rfOwn.2 (.inr (.inl rfl))))) (fun k hk => .inl hk)
  · rw [show D.rot s a m = D from by unfold DK.rot; rw [if_neg hv]]
    refine (rrot_bad w p D.n cs _ s a m k0 (fun hh => hv ?_)).mono ?_
    · simp only [DK.rotOk, DK.valid, Bool.and_eq_true, decide_eq_true_eq]
      exact hh
    · rintro e w' ⟨rfl, hc⟩
      exact ⟨rfl, hA.to hc⟩

theorem rep_snoc (k : Nat) (z : Bytes) : List.replicate k z ++ [z] = List.replicate (k + 1) z := (List.replicate_succ').symm
/-- The reference disk while New makes it. -/
structure Two (w wr : World) (p : Nat) (u v : Value) (lu lv : List Bytes) : Prop where
  hb : Blk wr p [u, v, .slice none 0 0, .bool true, .bool false, .int .i64 0, .int .i64 0, .int .i64 0] 64
  hu : StrRow wr u lu
  hv : StrRow wr v lv
  hc : Chg [] w wr
  ou : ∀ b ∈ u.ownBlock.toList, w.heap.size ≤ b ∧ b ≠ p ∧ b ∉ v.ownBlock.toList
  ov : ∀ b ∈ v.ownBlock.toList, w.heap.size ≤ b ∧ b ≠ p
  hp : w.heap.size ≤ p
theorem Two.lefts {w wr w1 w2 : World} {p g c : Nat} {u v : Value} {lu lv : List Bytes} {z : Bytes} (h : Two w wr p u v lu lv) (hw1 : Chg [] wr w1) (hg : w1.grownBy w2 u.ownBlock)
    (hown : w2.ownsRow 0 9 1 (.slice (some ⟨g, 0, none⟩) (lu.length + 1) c) (lu.length + 1) (lu.map vstr ++ [vstr z])) (hat : u.ownBlock = some g ∨ g = w1.heap.size) :
    Two w (w2.setCell ⟨p, 0, none⟩ (.slice (some ⟨g, 0, none⟩) (lu.length + 1) c)) p (.slice (some ⟨g, 0, none⟩) (lu.length + 1) c) v (lu ++ [z]) lv := by
  have hc0 : Chg u.ownBlock.toList wr w2 := (hw1.mono (by simp)).grown hg (fun k hk => .inl (by rw [hk]; simp))
  have hg2 : w.heap.size ≤ g ∧ g ≠ p ∧ g ∉ v.ownBlock.toList := by
    rcases hat with e | e
    · exact h.ou g (by rw [e]; simp)
    · have l1 := h.hb.lt
      have l2 := hw1.size
      have l3 := h.hc.size
      exact ⟨by omega, by omega, fun hm => by have := row_lt h.hv g hm; omega⟩
  have hc1 : Chg [p] w2 (w2.setCell ⟨p, 0, none⟩ (.slice (some ⟨g, 0, none⟩) (lu.length + 1) c)) := (Chg.refl _ _).setCell _ _ (.inl (by simp))
  refine ⟨(hc0.blk h.hb (fun hm => (h.ou p hm).2.1 rfl)).set 0 _, ?_, ?_, ?_, ?_, h.ov, h.hp⟩
  · exact (StrRow.push (w := w) (w1 := w1) (v := u) hown).kept hc1 (by simp [Value.ownBlock]; exact hg2.2.1)
  · exact (h.hv.kept hc0 (fun k hk hm => (h.ou k hm).2.2 hk)).kept hc1 (fun k hk => by simpa using (h.ov k hk).2)
  · exact (h.hc.trans hc0 (fun k hk => .inr (h.ou k hk).1)).trans hc1 (fun k hk => by simp at hk; subst hk; exact .inr h.hp)
  · intro b hb
    simp [Value.ownBlock] at hb
    subst hb
    exact hg2
theorem Two.rights {w wr w1 w2 : World} {p g c : Nat} {u v : Value} {lu lv : List Bytes} {z : Bytes} (h : Two w wr p u v lu lv) (hw1 : Chg [] wr w1) (hg : w1.grownBy w2 v.ownBlock)
    (hown : w2.ownsRow 0 9 1 (.slice (some ⟨g, 0, none⟩) (lv.length + 1) c) (lv.length + 1) (lv.map vstr ++ [vstr z])) (hat : v.ownBlock = some g ∨ g = w1.heap.size) :
    Two w (w2.setCell ⟨p, 1, none⟩ (.slice (some ⟨g, 0, none⟩) (lv.length + 1) c)) p u (.slice (some ⟨g, 0, none⟩) (lv.length + 1) c) lu (lv ++ [z]) := by
  have hc0 : Chg v.ownBlock.toList wr w2 := (hw1.mono (by simp)).grown hg (fun k hk => .inl (by rw [hk]; simp))
  have hg2 : w.heap.size ≤ g ∧ g ≠ p ∧ g ∉ u.ownBlock.toList := by
    rcases hat with e | e
    · have := h.ov g (by rw [e]; simp)
      exact ⟨this.1, this.2, fun hm => (h.ou g hm).2.2 (by rw [e]; simp)⟩
    · have l1 := h.hb.lt
      have l2 := hw1.size
      have l3 := h.hc.size
      exact ⟨by omega, by omega, fun hm => by have := row_lt h.hu g hm; omega⟩
  have hc1 : Chg [p] w2 (w2.setCell ⟨p, 1, none⟩ (.slice (some ⟨g, 0, none⟩) (lv.length + 1) c)) := (Chg.refl _ _).setCell _ _ (.inl (by simp))
  refine ⟨(hc0.blk h.hb (fun hm => (h.ov p hm).2 rfl)).set 1 _, ?_, ?_, ?_, ?_, ?_, h.hp⟩
  · exact (h.hu.kept hc0 (fun k hk hm => (h.ou k hk).2.2 hm)).kept hc1 (fun k hk => by simpa using (h.ou k hk).2.1)
  · exact (StrRow.push (w := w) (w1 := w1) (v := u) hown).kept hc1 (by simp [Value.ownBlock]; exact hg2.2.1)
  · exact (h.hc.trans hc0 (fun k hk => .inr (h.ov k hk).1)).trans hc1 (fun k hk => by simp at hk; subst hk; exact .inr h.hp)
  · intro b hb
    refine ⟨(h.ou b hb).1, (h.ou b hb).2.1, fun hm => ?_⟩
    simp [Value.ownBlock] at hm
    subst hm
    exact hg2.2.2 hb
  · intro b hb
    simp [Value.ownBlock] at hb
    subst hb
    exact ⟨hg2.1, hg2.2.1⟩
theorem StrRow.head {w : World} {v : Value} {l : List Bytes} {n : Nat} (h : StrRow w v l) (hl : l.length = n) (h0 : 0 < n) : ∃ g c, v = .slice (some ⟨g, 0, none⟩) n c := by
  rcases h.2 with ⟨_, h1⟩ | ⟨g, c, cur, he, _⟩
  · omega
  · exact ⟨g, c, by rw [he, hl]⟩
set_option maxHeartbeats 2000000 in
theorem rnew_calls (w : World) (n : Nat) (h1 : 1 ≤ n) (h2 : n ≤ 4000) : Calls Try.prog 14 #[.int .i64 (n : Int)] w fun e w' => ∃ p own, e = .returned (.pointer (some ⟨p, 0, none⟩)) ∧ RfAt w' own p (DK.new n) ∧ Chg [] w w' ∧ ∀ k ∈ own, w.heap.size ≤ k := by
  obtain ⟨i0, hi, hz0, hz1, hz2⟩ := info_parts info_str
  obtain ⟨z, hz⟩ : ∃ z : Bytes, z = List.replicate 64 0 := ⟨_, rfl⟩
  have hzs : zs 64 = ⟨z.toArray⟩ := by rw [hz]; rfl
  have HZ := Lib.hid hz
  have HZS := Lib.hid hzs
  clear hz hzs
  go_enter Try.func14, Try.ntmps14
  go_wp2_with fail
  refine (zero_spec _ 64 (by omega)).mono ?_
  rintro e w1 ⟨rfl, hc⟩
  rw [HZS.out]
  have hb0 := hc.blk (Blk.new w [.slice none 0 0, .slice none 0 0, .slice none 0 0, .bool true, .bool false, .int .i64 0, .int .i64 0, .int .i64 0] 64) (by simp)
  have hc1 : Chg [] w w1 := ((Chg.refl _ _).alloc _).trans hc (by simp)
  obtain ⟨p, hp⟩ : ∃ p, p = w.heap.size := ⟨_, rfl⟩
  rw [← hp] at hb0 ⊢
  have HT : Hid (Two w w1 p (.slice none 0 0) (.slice none 0 0) [] []) := Lib.hid ⟨hb0, World.ownsRow_nil _ _ _ _, World.ownsRow_nil _ _ _ _, hc1, by simp [Value.ownBlock], by simp [Value.ownBlock], by omega⟩
  clear hb0 hc1 hc hp
  go_wp2_with fail
  go_loopw [5] (fun s wr => ∃ (k : Nat) (u v : Value), k ≤ n ∧ s = .int .i64 k ∧ Two w wr p u v (List.replicate k z) (List.replicate k z)) (fun s _ => n - (intOf s).toNat)
  case atStart => exact ⟨0, _, _, Nat.zero_le _, rfl, HT.out⟩
  case round =>
    obtain ⟨k, u, v, hk, rfl, hT⟩ := hrel
    have HT1 := Lib.hid hT
    clear hT HT
    by_cases hlt : k < n
    · have c0 := HT1.out.hb.cell (i := 0) rfl
      have f0 := HT1.out.hb.free 0
      have hpl := HT1.out.hb.lt
      have hqu : u.ownBlock ≠ some p := fun e => (HT1.out.ou p (by rw [e]; simp)).2.1 rfl
      go_wp2_with (at_builtin; refine wpList_append_lies _ rfl (.tmp 24) (.tmp 26) 39 rfl 0 9 i0 (.string ⟨#[]⟩) 1 16 Try.underlying39 hi hz0 hz1 hz2 rfl (by decide) u k ((List.replicate k z).map vstr) rfl ?own ⟨wr.heap.size, 0, none⟩ 1 1 [vstr z] rfl rfl ?c1 ?c2 (by decide) (by unfold maxLen; omega) (by omega) (Nat.zero_le _) _ rfl ?kk)
      case own =>
        have := HT1.out.hu
        unfold StrRow at this
        rw [List.length_replicate] at this
        exact this.alloc _
      case c1 =>
        intro j u hj
        rw [addr_add, Nat.zero_add]
        exact (Blk.new wr [vstr z] _).cell hj
      case c2 => intro u hu; simp at hu; rw [hu]; rfl
      case kk =>
        intro g cap w2 hown hgrow hat hlt2
        have e0 : w2.cell? ⟨p, 0, none⟩ = some u := (hgrow.cell_far ⟨p, 0, none⟩ (by simp; omega) (fun e => hqu e.symm)).trans ((World.cell?_alloc_past _ p 0 hpl).trans c0)
        have ef : w2.frozen? ⟨p, 0, none⟩ = false := (hgrow.frozen_far ⟨p, 0, none⟩ (by simp; omega) (fun e => hqu e.symm)).trans ((World.frozen?_alloc_past _ p 0 hpl).trans f0)
        have hT2 := HT1.out.lefts (g := g) (c := cap) (z := z) ((Chg.refl [] wr).alloc _) hgrow (by rw [List.length_replicate, List.map_replicate]; exact hown) (by simpa using hat)
        rw [List.length_replicate] at hT2
        have HT2 := Lib.hid hT2
        clear hT2 hown hgrow hat hlt2 c0 f0 hpl hqu HT1
        go_upto_region 9 with fail
        generalize (.slice (some ⟨g, 0, none⟩) (k + 1) cap : Value) = u2 at *
        have c1 := HT2.out.hb.cell (i := 1) rfl
        have f1 := HT2.out.hb.free 1
        have hpl := HT2.out.hb.lt
        have hqv : v.ownBlock ≠ some p := fun e => (HT2.out.ov p (by rw [e]; simp)).2 rfl
        clear e0 ef
        generalize (w2.setCell ⟨p, 0, none⟩ u2) = w3 at *
        go_wp2_with (at_builtin; refine wpList_append_lies _ rfl (.tmp 34) (.tmp 36) 39 rfl 0 9 i0 (.string ⟨#[]⟩) 1 16 Try.underlying39 hi hz0 hz1 hz2 rfl (by decide) v k ((List.replicate k z).map vstr) rfl ?own ⟨w3.heap.size, 0, none⟩ 1 1 [vstr z] rfl rfl ?c1 ?c2 (by decide) (by unfold maxLen; omega) (by omega) (Nat.zero_le _) _ rfl ?kk)
        case own =>
          have := HT2.out.hv
          unfold StrRow at this
          rw [List.length_replicate] at this
          exact this.alloc _
        case c1 =>
          intro j u hj
          rw [addr_add, Nat.zero_add]
          exact (Blk.new w3 [vstr z] _).cell hj
        case c2 => intro u hu; simp at hu; rw [hu]; rfl
        case kk =>
          intro g2 cap2 w4 hown hgrow hat hlt2
          have e1 : w4.cell? ⟨p, 1, none⟩ = some v := (hgrow.cell_far ⟨p, 1, none⟩ (by simp; omega) (fun e => hqv e.symm)).trans ((World.cell?_alloc_past _ p 1 hpl).trans c1)
          have ef : w4.frozen? ⟨p, 1, none⟩ = false := (hgrow.frozen_far ⟨p, 1, none⟩ (by simp; omega) (fun e => hqv e.symm)).trans ((World.frozen?_alloc_past _ p 1 hpl).trans f1)
          have hT4 := HT2.out.rights (g := g2) (c := cap2) (z := z) ((Chg.refl [] w3).alloc _) hgrow (by rw [List.length_replicate, List.map_replicate]; exact hown) (by simpa using hat)
          rw [List.length_replicate, rep_snoc] at hT4
          have HT4 := Lib.hid hT4
          clear hT4 hown hgrow hat hlt2 c1 f1 hpl hqv HT2
          go_wp2_with fail
          go_roundw
          case rel => exact ⟨k + 1, _, _, by omega, by go_num, HT4.out⟩
          case measure => simp [intOf]; omega
    · have hkn : k = n := by omega
      have HK := Lib.hid hkn
      clear hkn
      go_wp2_with fail
      go_ret
      have hT := HT1.out
      rw [HK.out] at hT
      obtain ⟨gs, cs, rfl⟩ := hT.hu.head (n := n) (by simp) (by omega)
      obtain ⟨ge, ce, rfl⟩ := hT.hv.head (n := n) (by simp) (by omega)
      have ou := hT.ou gs (by simp [Value.ownBlock])
      have ov := hT.ov ge (by simp [Value.ownBlock])
      have hsec : secs n (fun _ => List.replicate 64 0) = List.replicate n z := by
        rw [HZ.out]
        unfold secs
        rw [List.map_const', List.length_range]
      refine ⟨p, rfOwn p gs ge (.slice none 0 0), rfl, ⟨gs, cs, ge, ce, .slice none 0 0, 0, 0, 0, ⟨hT.hb, ?_, ?_, World.ownsRow_nil _ _ _ _, by simp [DK.new], ⟨fun e => ou.2.1 e.symm, fun e => ov.2 e.symm, fun e => ou.2.2 (by rw [e]; simp [Value.ownBlock]), by simp [Value.ownBlock]⟩, DK.new_ok n h1 h2⟩, rfl⟩, hT.hc, fun k hk => ?_⟩
      · show StrRow _ _ (secs n (fun _ => List.replicate 64 0))
        rw [hsec]
        exact hT.hu
      · show StrRow _ _ (secs n (fun _ => List.replicate 64 0))
        rw [hsec]
        exact hT.hv
      · rcases mem_rfOwn.1 hk with rfl | rfl | rfl | hk
        · exact hT.hp
        · exact ou.1
        · exact ov.1
        · simp [Value.ownBlock] at hk
end Go.Proofs.Ytnlgblcldbdnlaa
