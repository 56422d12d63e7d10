/-
  The reference of the digest and of the tree: lists, leaves, nodes, levels, roots.
-/
import Derived.Test.YtpeehlflhnhhjaaDoorRgD
namespace Go.Proofs.YtpeehlflhnhhjaaDoor
set_option linter.unusedVariables false
set_option linter.unusedSimpArgs false
open Go Go.RowKit Go.Shelf

theorem rlist_spec (w : World) (v : Value) (l : List Bytes) (HV : Hid (Strs w v l)) (hl : l.length ≤ 900) (HB : Hid (∀ x ∈ l, x.length ≤ 1000000)) :
    Calls Tryd.prog 26 #[v] w fun e w' => e = .returned (.string ⟨(Dg.list l).toArray⟩) ∧ Chg [] w w' := by
  have hj := Dg.joined_len l HB.out
  go_enter Tryd.func26, Tryd.ntmps26
  go_wp2_with fail
  refine (joined_spec w v l HV hl HB).mono ?_
  rintro e w2 ⟨rfl, hc⟩
  have HC := Lib.hid hc
  clear hc
  go_wp2_with fail
  refine (rsum_spec _ (Dg.joined l) (by omega)).mono ?_
  rintro e w3 ⟨rfl, rfl⟩
  go_wp2_with fail
  go_ret
  exact ⟨rfl, HC.out⟩
theorem rleaf_spec (w : World) (t : Bytes) (ht : t.length ≤ 1000000) :
    Calls Tryd.prog 27 #[.string ⟨t.toArray⟩] w fun e w' => e = .returned (.string ⟨(Tr.leaf t).toArray⟩) ∧ Chg [] w w' := by
  go_enter Tryd.func27, Tryd.ntmps27
  go_wp2_with fail
  have HA : Hid (Chg [] w (w.alloc (.cells #[.string ⟨#[108, 101, 97, 102]⟩, .string ⟨t.toArray⟩] 9))) := Lib.hid ((Chg.refl _ _).alloc _)
  refine (rlist_spec _ _ [[108, 101, 97, 102], t] (Lib.hid (two_strs w [108, 101, 97, 102] t)) (by simp) (Lib.hid (all2 (by decide) ht))).mono ?_
  rintro e w2 ⟨rfl, hc⟩
  have HC := Lib.hid (HA.out.trans hc (by simp))
  clear hc
  go_wp2_with fail
  go_ret
  exact ⟨rfl, HC.out⟩
theorem rnode_spec (w : World) (a b : Bytes) (ha : a.length ≤ 1000000) (hb : b.length ≤ 1000000) :
    Calls Tryd.prog 28 #[.string ⟨a.toArray⟩, .string ⟨b.toArray⟩] w fun e w' => e = .returned (.string ⟨(Tr.node a b).toArray⟩) ∧ Chg [] w w' := by
  go_enter Tryd.func28, Tryd.ntmps28
  go_wp2_with fail
  have HA : Hid (Chg [] w (w.alloc (.cells #[.string ⟨#[110, 111, 100, 101]⟩, .string ⟨a.toArray⟩, .string ⟨b.toArray⟩] 9))) := Lib.hid ((Chg.refl _ _).alloc _)
  refine (rlist_spec _ _ [[110, 111, 100, 101], a, b] (Lib.hid (three_strs w [110, 111, 100, 101] a b)) (by simp) (Lib.hid (all3 (by decide) ha hb))).mono ?_
  rintro e w2 ⟨rfl, hc⟩
  have HC := Lib.hid (HA.out.trans hc (by simp))
  clear hc
  go_wp2_with fail
  go_ret
  exact ⟨rfl, HC.out⟩
set_option maxHeartbeats 2000000 in
theorem rleaves_spec (w : World) (v : Value) (l : List Bytes) (HV : Hid (Strs w v l)) (hl : l.length ≤ 60) (HLS : Hid (∀ x ∈ l, x.length ≤ 1000000)) :
    Calls Tryd.prog 23 #[v] w fun e w' => (∃ ao cap, e = .returned (.slice ao l.length cap) ∧ Strs w' (.slice ao l.length cap) (l.map Tr.leaf) ∧ ∀ k, (Value.slice ao l.length cap).ownBlock = some k → w.heap.size ≤ k) ∧ Chg [] w w' := by
  obtain ⟨ao, cap, rfl, hcap, hv⟩ := HV.out
  have HE := Lib.hid hv
  obtain ⟨m, hm⟩ : ∃ m, m = l.length := ⟨_, rfl⟩
  rw [← hm] at hcap hl ⊢
  have HM := Lib.hid hm
  clear hv hm
  obtain ⟨i0, hi, hz0, hz1, hz2⟩ := info_parts info_str
  go_enter Tryd.func23, Tryd.ntmps23
  go_wp2_with fail
  go_loopw [3, 4] (fun lv k wr => ∃ j : Nat, j ≤ m ∧ k = .int .i64 (j : Int) ∧ wr.ownsRow w.heap.size 9 1 lv j (((l.take j).map Tr.leaf).map vstr) ∧ Chg [] w wr) (fun _ k _ => m - (intOf k).toNat)
  case atStart => exact ⟨0, Nat.zero_le _, rfl, World.ownsRow_nil _ _ _ _, Chg.refl _ _⟩
  case round =>
    obtain ⟨j, hj, rfl, hrow, hchg⟩ := hrel
    have HROW := Lib.hid hrow
    have HC1 := Lib.hid hchg
    clear hrow hchg
    by_cases hlt : j < m
    · obtain ⟨x, hx⟩ : ∃ x, l[j]? = some x := ⟨l[j]'(by rw [← HM.out]; exact hlt), by simp⟩
      obtain ⟨g, off, rfl, c0⟩ := HE.out j x hx
      have c1 := (World.cell?_of_block (HC1.out.block g (World.block_lt_of_cell? _ _ c0) (by simp))).trans c0
      have hxl : x.length ≤ 1000000 := HLS.out x (List.mem_of_getElem? hx)
      have HX := Lib.hid hx
      clear hx c0
      go_wp2_with fail
      refine (rleaf_spec _ x hxl).mono ?_
      rintro e w3 ⟨rfl, hc⟩
      have HC3 := Lib.hid (HC1.out.trans hc (by simp))
      have HR3 := Lib.hid (row_keptB HROW.out hc)
      clear hc c1 HROW HC1
      have hb1 : j + 1 ≤ maxLen := by unfold maxLen; omega
      have hb2 : (j + 1) * 16 ≤ 140737488355328 := by omega
      have hb3 : w.heap.size ≤ (w3.alloc (.cells #[.string ⟨(Tr.leaf x).toArray⟩] 9)).heap.size := Nat.le_trans HC3.out.size (by simp)
      go_wp2_with (at_builtin; refine wpList_append_strs _ rfl (.tmp 11) (.tmp 17) 22 rfl w.heap.size 9 i0 (.string ⟨#[]⟩) 16 Tryd.underlying22 hi hz0 hz1 hz2 rfl u3 j (((l.take j).map Tr.leaf).map vstr) rfl (row_keptB HR3.out ((Chg.refl _ _).alloc _)) (.slice (some ⟨w3.heap.size, 0, none⟩) 1 1) [Tr.leaf x] rfl (one_strs w3 (Tr.leaf x)) hb1 hb2 hb3 ?_; intro v4 w4 hown4 hgrow4; have HC4 := Lib.hid ((HC3.out.alloc _).grown hgrow4 (fun k hk => .inr (own_ge HR3.out k hk))); have HR4 := Lib.hid hown4; clear hown4 hgrow4 hb1 hb2 hb3)
      go_roundw
      case rel =>
        refine ⟨j + 1, by omega, by go_num, ?_, HC4.out⟩
        have h := HR4.out
        rw [← List.map_append] at h
        rw [List.take_add_one, HX.out, List.map_append]
        exact h
      case measure => simp [intOf]; omega
    · have hjm : j = m := by omega
      have HR0 : Hid (wr.ownsRow w.heap.size 9 1 u3 m ((l.map Tr.leaf).map vstr)) := Lib.hid (by
        have h := HROW.out
        rw [hjm, List.take_of_length_le (by rw [HM.out]; exact Nat.le_refl _)] at h
        exact h)
      clear hjm HROW
      obtain ⟨lo, lcap, rfl, hls⟩ := row_strs2 HR0.out (by rw [List.length_map]; exact HM.out)
      have HLV := Lib.hid hls
      have HFR := Lib.hid (own_ge HR0.out)
      clear hls HR0
      go_wp2_with fail
      go_ret
      exact ⟨⟨_, _, rfl, HLV.out, HFR.out⟩, HC1.out⟩
end Go.Proofs.YtpeehlflhnhhjaaDoor
