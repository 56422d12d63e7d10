/-
  The statements' own helpers: same, contents.
-/
import Derived.Test.YtnlgblcldbdnlaaLwB
import Derived.Test.YtnlgblcldbdnlaaDkI
import Derived.Deep.AppendLies
namespace Go.Proofs.Ytnlgblcldbdnlaa
set_option linter.unusedVariables false
set_option linter.unusedSimpArgs false
open Go Go.RowKit

def vstr (b : Bytes) : Value := .string ⟨b.toArray⟩
/-- A row of strings of the call's own. -/
def StrRow (w : World) (v : Value) (l : List Bytes) : Prop := w.ownsRow 0 9 1 v l.length (l.map vstr)
theorem StrRow.kept {w w' : World} {own : List Nat} {v : Value} {l : List Bytes} (h : StrRow w v l) (hc : Chg own w w') (hn : ∀ k ∈ v.ownBlock.toList, k ∉ own) : StrRow w' v l := row_kept h hc hn
theorem StrRow.form {w : World} {v : Value} {l : List Bytes} (h : StrRow w v l) : ∃ ao cap, v = .slice ao l.length cap ∧ ∀ (i : Nat) (x : Bytes), l[i]? = some x → ∃ g, ao = some ⟨g, 0, none⟩ ∧ w.cell? ⟨g, i, none⟩ = some (.string ⟨x.toArray⟩) := by
  rcases h.2 with ⟨rfl, h0⟩ | ⟨g, cap, cur, rfl, _, hg, h1, h2, h3, h4⟩
  · exact ⟨none, 0, by rw [h0], fun i x hx => by have := (List.getElem?_eq_some_iff.1 hx).1; omega⟩
  · refine ⟨_, cap, rfl, fun i x hx => ⟨g, rfl, ?_⟩⟩
    have hi := (List.getElem?_eq_some_iff.1 hx).1
    have := World.ownsRow.cellAt h i (by omega)
    rw [this, List.getElem?_map, hx]
    rfl

theorem same_spec (w : World) (u v : Value) (l m : List Bytes) (hu : StrRow w u l) (hv : StrRow w v m) (hl : l.length ≤ 1000000) (hm : m.length ≤ 1000000) :
    Calls Try.prog 26 #[u, v] w fun e w' => e = .returned (.bool (decide (l = m))) ∧ Chg [] w w' := by
  obtain ⟨ao, c1, rfl, h1⟩ := hu.form
  obtain ⟨bo, c2, rfl, h2⟩ := hv.form
  have H1 := Lib.hid h1
  have H2 := Lib.hid h2
  clear h1 h2 hu hv
  by_cases hlm : l.length = m.length
  · obtain ⟨n, hn⟩ : ∃ n, n = l.length := ⟨_, rfl⟩
    have hn2 : n = m.length := by omega
    rw [← hn, ← hn2]
    have Hn := Lib.hid hn
    have Hn2 := Lib.hid hn2
    have hnn : n ≤ 1000000 := by omega
    clear hlm hl hm hn hn2
    go_enter Try.func26, Try.ntmps26
    go_wp2_with fail
    go_loopw [5] (fun s wr => ∃ k : Nat, k ≤ n ∧ s = .int .i64 k ∧ l.take k = m.take k ∧ Chg [] w wr) (fun s _ => n - (intOf s).toNat)
    case atStart => exact ⟨0, Nat.zero_le _, rfl, by simp, Chg.refl _ _⟩
    case round =>
      obtain ⟨k, hk, rfl, htk, hC⟩ := hrel
      have HT := Lib.hid htk
      have HC := Lib.hid hC
      clear htk hC
      by_cases hlt : k < n
      · obtain ⟨x, hx⟩ : ∃ x, l[k]? = some x := ⟨l[k]'(by rw [← Hn.out]; exact hlt), by simp⟩
        obtain ⟨y, hy⟩ : ∃ y, m[k]? = some y := ⟨m[k]'(by rw [← Hn2.out]; exact hlt), by simp⟩
        obtain ⟨g1, rfl, e1⟩ := H1.out k x hx
        obtain ⟨g2, rfl, e2⟩ := H2.out k y hy
        have k1 := (World.cell?_of_block (HC.out.block g1 (World.block_lt_of_cell? _ _ e1) (by simp))).trans e1
        have k2 := (World.cell?_of_block (HC.out.block g2 (World.block_lt_of_cell? _ _ e2) (by simp))).trans e2
        have HX := Lib.hid hx
        have HY := Lib.hid hy
        clear hx hy e1 e2
        by_cases hxy : x = y
        · have hb : (x == y) = true := by simpa using hxy
          have Hxy := Lib.hid hxy
          clear hxy
          go_wp2_with fail
          refine wp_region_reads (by kernel_rfl) (by kernel_rfl) (fun L hL => ?_)
          repeat still_step
          refine wpStill_nil (hL _ ?_)
          clear hL L
          go_wp2_with fail
          go_roundw
          case rel => exact ⟨k + 1, by omega, by go_num, by rw [List.take_add_one, List.take_add_one, HX.out, HY.out, HT.out, Hxy.out], HC.out.drew⟩
          case measure => simp [intOf]; omega
        · have hb : (x == y) = false := by simpa using hxy
          have Hxy := Lib.hid hxy
          clear hxy
          go_wp2_with fail
          refine wp_region_reads (by kernel_rfl) (by kernel_rfl) (fun L hL => ?_)
          repeat still_step
          refine wpStill_nil (hL _ ?_)
          clear hL L
          go_wp2_with fail
          go_ret
          refine ⟨?_, HC.out.drew⟩
          rw [decide_eq_false (fun e => Hxy.out (by have := HX.out; rw [e, HY.out] at this; simpa using this.symm))]
          rfl
      · have hkn : k = n := by omega
        go_wp2_with fail
        go_ret
        refine ⟨?_, HC.out⟩
        have := HT.out
        rw [List.take_of_length_le (by rw [← Hn.out]; omega), List.take_of_length_le (by rw [← Hn2.out]; omega)] at this
        rw [decide_eq_true this]
        rfl
  · have hne : ((l.length : Int) == (m.length : Int)) = false := by rw [beq_eq_false_iff_ne]; omega
    have Hlm := Lib.hid hlm
    clear hlm
    go_enter Try.func26, Try.ntmps26
    go_wp2_with fail
    go_ret
    refine ⟨?_, Chg.refl _ _⟩
    rw [decide_eq_false (fun e => Hlm.out (by rw [e]))]
    rfl
theorem last_len (l : List (Nat × Bytes)) (s : Nat) : ∀ d : Bytes, d.length = 64 → (∀ p ∈ l, p.2.length = 64) → (DK.last l s d).length = 64 := by
  induction l with
  | nil => exact fun d h _ => h
  | cons p l ih =>
    intro d h hl
    refine ih (if p.1 = s then p.2 else d) ?_ (fun q hq => hl q (by simp [hq]))
    split
    · exact hl p (by simp)
    · exact h
theorem cur_len {D : DK} (h : D.Ok) (i : Nat) (hi : i < D.n) : (D.cur i).length = 64 := last_len _ _ _ (h.st i hi) (fun p hp => (h.q p hp).2)
/-- The contents of all sectors. -/
def DK.all (D : DK) : List Bytes := (List.range D.n).map D.cur
theorem info_str : (Try.prog.info? 9).map (fun i => (i.zero, i.size, i.bytes)) = some (some (.string ⟨#[]⟩), 1, 16) := by kernel_rfl

/-- 'out = append(out, s)' on a row of strings of the call's own. -/
theorem StrRow.push {w w1 w' : World} {v : Value} {l : List Bytes} {x : Bytes} {g cap : Nat} (hown : w'.ownsRow 0 9 1 (.slice (some ⟨g, 0, none⟩) (l.length + 1) cap) (l.length + 1) (l.map vstr ++ [vstr x])) :
    StrRow w' (.slice (some ⟨g, 0, none⟩) (l.length + 1) cap) (l ++ [x]) := by
  unfold StrRow
  rw [List.length_append, List.map_append]
  exact hown

set_option maxHeartbeats 400000 in
theorem contents_spec {w : World} {own : List Nat} {p : Nat} {D : DK} (H : Hid (DkAt w own p D)) (hq : D.q.length ≤ 1000000) (hoff : D.off = false) (n : Nat) (Hn : Hid (D.n = n)) (hn : n ≤ 4000) :
    Calls Try.prog 21 #[.pointer (some ⟨p, 0, none⟩), .int .i64 (n : Int)] w fun e w' => ∃ v, e = .returned (.tuple #[v, .bool true]) ∧ StrRow w' v D.all ∧ Chg [] w w' ∧ ∀ k ∈ v.ownBlock.toList, w.heap.size ≤ k := by
  obtain ⟨i0, hi, hz0, hz1, hz2⟩ := info_parts info_str
  have Hoff := Lib.hid hoff
  clear hoff
  go_enter Try.func21, Try.ntmps21
  go_wp2_with fail
  go_loopw [6, 7] (fun v s wr => ∃ k : Nat, k ≤ n ∧ s = .int .i64 k ∧ StrRow wr v ((List.range k).map D.cur) ∧ Chg [] w wr ∧ ∀ b ∈ v.ownBlock.toList, w.heap.size ≤ b) (fun _ s _ => n - (intOf s).toNat)
  case atStart => exact ⟨0, Nat.zero_le _, rfl, World.ownsRow_nil _ _ _ _, Chg.refl _ _, by simp [Value.ownBlock]⟩
  case round =>
    rename_i u6 u7
    obtain ⟨k, hk, rfl, hR, hC, hB⟩ := hrel
    have HR := Lib.hid hR
    have HC := Lib.hid hC
    have HB := Lib.hid hB
    clear hR hC hB
    by_cases hlt : k < n
    · have hrd : D.read (k : Int) = (D.cur k, 0) := by
        unfold DK.read DK.valid
        rw [Hoff.out, decide_eq_true (by rw [Hn.out]; omega)]
        simp
      have Hrd := Lib.hid hrd
      have hlen : (D.cur k).length = 64 := cur_len H.out.ok k (by rw [Hn.out]; exact hlt)
      have hl64 : ((D.cur k).length : Int) = 64 := by omega
      clear hrd
      obtain ⟨x, hx⟩ : ∃ x, x = D.cur k := ⟨_, rfl⟩
      rw [← hx] at hlen hl64
      have Hx := Lib.hid hx
      have Hlen := Lib.hid hlen
      have Hl64 := Lib.hid hl64
      clear hx hlen hl64
      go_wp2_with fail
      refine (read_spec (H.out.kept HC.out (by simp)) hq k).mono ?_
      rintro e w1 ⟨rfl, hc1⟩
      rw [Hrd.out, ← Hx.out]
      have hb1 : ((x.length : Int) == 64) = true := by rw [Hl64.out]; rfl
      have hb2 : ((x.length : Int) != 64) = false := by rw [Hl64.out]; rfl
      have hR1 : StrRow w1 u6 ((List.range k).map D.cur) := HR.out.kept hc1 (by simp)
      have HR1 := Lib.hid hR1
      have HC1 : Hid (Chg [] w w1) := Lib.hid (HC.out.trans hc1 (by simp))
      clear hR1 hc1
      go_wp2_with (at_builtin; refine wpList_append_lies _ rfl (.tmp 28) (.tmp 30) 39 rfl 0 9 i0 (.string ⟨#[]⟩) 1 16 Try.underlying39 hi hz0 hz1 hz2 rfl (by decide) u6 k (((List.range k).map D.cur).map vstr) rfl ?own ⟨w1.heap.size, 0, none⟩ 1 1 [vstr x] rfl rfl ?c1 ?c2 (by decide) (by unfold maxLen; omega) (by omega) (Nat.zero_le _) _ rfl ?kk)
      case own =>
        have := HR1.out
        unfold StrRow at this
        rw [List.length_map, List.length_range] at this
        exact this.alloc _
      case c1 =>
        intro j u hj
        rw [addr_add, Nat.zero_add]
        exact (Blk.new w1 [vstr x] _).cell hj
      case c2 => intro u hu; simp at hu; rw [hu]; rfl
      case kk =>
        intro g cap w2 hown hgrow hat hlt2
        have HO := Lib.hid hown
        have HC2 : Hid (Chg [] w w2) := Lib.hid ((HC1.out.alloc _).grown hgrow (fun b hb => .inr (HB.out b (by rw [hb]; simp))))
        have HB2 : Hid (w.heap.size ≤ g) := Lib.hid (by
          rcases hat with h | h
          · exact HB.out g (by rw [h]; simp)
          · have := HC1.out.size; omega)
        clear hown hgrow hat hlt2
        go_wp2_with fail
        go_roundw
        case rel =>
          refine ⟨k + 1, by omega, by go_num, ?_, HC2.out, by simpa [Value.ownBlock] using HB2.out⟩
          have h1 := HO.out
          unfold StrRow
          rw [List.range_succ, List.map_append, List.map_append, List.length_append, List.length_map, List.length_range, List.map_map]
          rw [Hx.out] at h1
          exact h1
        case measure => simp [intOf]; omega
    · have hkn : k = n := by omega
      have Hkn := Lib.hid hkn
      clear hkn
      go_wp2_with fail
      go_ret2
      refine ⟨_, rfl, ?_, HC.out, HB.out⟩
      have := HR.out
      rw [Hkn.out, ← Hn.out] at this
      exact this
end Go.Proofs.Ytnlgblcldbdnlaa
