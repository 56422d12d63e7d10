/-
  The reference of the tree (layer 4): paths.
-/
import Derived.Test.YtpeehlflhnhhjaaDoorRgF
namespace Go.Proofs.YtpeehlflhnhhjaaDoor
set_option linter.unusedVariables false
set_option linter.unusedSimpArgs false
open Go Go.RowKit Go.Shelf

theorem other_eq (k : Nat) : (k : Int) + 1 - 2 * ((k : Int) % 2) = (Tr.sib k : Int) := by
  unfold Tr.sib
  split <;> omega
theorem rpath_out (w : World) (v : Value) (l : List Bytes) (HV : Hid (Strs w v l)) (hl : l.length ≤ 900) (i : Int) (h : i < 0 ∨ (l.length : Int) ≤ i) :
    Calls Tryd.prog 12 #[v, .int .i64 i] w fun e w' => e = .returned (.tuple #[.slice none 0 0, .int .i64 1]) ∧ Chg [] w w' := by
  obtain ⟨ao, cap, rfl, hcap, _⟩ := HV.out
  generalize l.length = m at *
  by_cases h1 : i < 0
  · clear h
    go_enter Tryd.func12, Tryd.ntmps12
    go_wp2_with fail
    go_ret2
    exact ⟨rfl, Chg.refl _ _⟩
  · have h1' : 0 ≤ i := by omega
    have h2 : (m : Int) ≤ i := by omega
    clear h
    go_enter Tryd.func12, Tryd.ntmps12
    go_wp2_with fail
    go_ret2
    exact ⟨rfl, Chg.refl _ _⟩
theorem own_lt {w : World} {base : Nat} {e : TypeId} {size : Nat} {v : Value} {n : Nat} {xs : List Value} (h : w.ownsRow base e size v n xs) : ∀ k, v.ownBlock = some k → k < w.heap.size := by
  rcases h.2 with ⟨rfl, _⟩ | ⟨g, cap, cur, rfl, _, hg, _⟩
  · intro k hk
    cases hk
  · intro k hk
    simp only [Value.ownBlock, Option.some.injEq] at hk
    subst hk
    exact (Array.getElem?_eq_some_iff.1 hg).1
set_option maxHeartbeats 2000000 in
theorem rpath_in (w : World) (v : Value) (l : List Bytes) (HV : Hid (Strs w v l)) (hl : l.length ≤ 60) (HLS : Hid (∀ x ∈ l, x.length ≤ 1000000)) (i : Nat) (hi : i < l.length) :
    Calls Tryd.prog 12 #[v, .int .i64 (i : Int)] w fun e w' => (∃ u, e = .returned (.tuple #[u, .int .i64 0]) ∧ Strs w' u (Tr.path l i)) ∧ Chg [] w w' := by
  obtain ⟨ao, cap, rfl, hcap, _⟩ := HV.out
  obtain ⟨m, hm⟩ : ∃ m, m = l.length := ⟨_, rfl⟩
  have HIL := Lib.hid hi
  have HV2 : Hid (Strs w (.slice ao m cap) l) := Lib.hid (by rw [hm]; exact HV.out)
  rw [← hm] at hcap hl hi ⊢
  have HM := Lib.hid hm
  have hi0 : (0 : Int) ≤ (i : Int) := by omega
  have hi1 : ¬ (m : Int) ≤ (i : Int) := by omega
  clear hm
  obtain ⟨i0, hii, hz0, hz1, hz2⟩ := info_parts info_str
  go_enter Tryd.func12, Tryd.ntmps12
  go_wp2_with fail
  refine (rleaves_spec w _ l HV2 (by rw [← HM.out]; exact hl) HLS).mono ?_
  rintro e w2 ⟨⟨lo, lcap, rfl, hs, _⟩, hc⟩
  have HS := Lib.hid hs
  have HC := Lib.hid hc
  clear hs hc
  go_wp2_with fail
  go_loopw [1, 6, 7] (fun iv ov lv wr => ∃ (f k : Nat) (lev out : List Bytes) (lo : Option Addr) (lcap : Nat), iv = .int .i64 (k : Int) ∧ lv = .slice lo lev.length lcap ∧ wr.ownsRow w.heap.size 9 1 ov out.length (out.map vstr) ∧ Strs wr (.slice lo lev.length lcap) lev ∧ k < lev.length ∧ lev.length ≤ f ∧ lev.length ≤ 60 ∧ out.length + f ≤ 61 ∧ (∀ x ∈ lev, x.length ≤ 1000000) ∧ Tr.path l i = out ++ Tr.pathL (Tr.levs f lev) k ∧ (∀ b, ov.ownBlock = some b → (Value.slice lo lev.length lcap).ownBlock ≠ some b) ∧ Chg [] w wr) (fun _ _ lv _ => lenOf lv)
  case atStart => exact ⟨m, i, l.map Tr.leaf, [], lo, lcap, rfl, by rw [List.length_map], World.ownsRow_nil _ _ _ _, by rw [List.length_map]; exact HS.out, by rw [List.length_map]; exact HIL.out, by rw [List.length_map, ← HM.out]; exact Nat.le_refl _, by rw [List.length_map, ← HM.out]; exact hl, by simp; omega, fun x hx => by
        obtain ⟨z, _, rfl⟩ := List.mem_map.1 hx
        exact leaf_le z, by unfold Tr.path; rw [← HM.out]; rfl, (fun b hb => by cases hb), HC.out⟩
  case round =>
    obtain ⟨f, k, lev, out, lo2, lcap2, rfl, rfl, hrow, hst, hkn, hnf, hn60, hof, hlx, hpa, hdi, hch⟩ := hrel
    have HST := Lib.hid hst
    obtain ⟨lo', lcap', he', hlc, hle⟩ := hst
    cases he'
    obtain ⟨n, hn⟩ : ∃ n, n = lev.length := ⟨_, rfl⟩
    rw [← hn] at hlc hkn hnf hn60 ⊢
    obtain ⟨on, hon⟩ : ∃ on, on = out.length := ⟨_, rfl⟩
    rw [← hon] at hrow hof
    have HON := Lib.hid hon
    have HN := Lib.hid hn
    have HLE := Lib.hid hle
    have HLX := Lib.hid hlx
    have HPA := Lib.hid hpa
    have HDI := Lib.hid hdi
    have HCH := Lib.hid hch
    have HROW := Lib.hid hrow
    have HST2 : Hid (Strs wr (.slice lo2 n lcap2) lev) := Lib.hid (by rw [hn]; exact HST.out)
    clear hn hon hle hlx hpa hdi hch hrow HST HS HC
    by_cases hn1 : n ≤ 1
    · have HR : Hid (Tr.path l i = out) := Lib.hid (by
        rw [HPA.out, Tr.levs_end _ _ (by rw [← HN.out]; exact hn1), Tr.pathL_one _ _ (by rw [← HN.out]; exact hkn) (by rw [← HN.out]; exact hn1), List.append_nil])
      have HSO : Hid (Strs wr u6 out) := Lib.hid (strs_row (by rw [← HON.out]; exact HROW.out))
      go_wp2_with fail
      go_ret2
      exact ⟨⟨_, rfl, by rw [HR.out]; exact HSO.out⟩, HCH.out⟩
    · have hn2 : 1 < n := by omega
      obtain ⟨f, rfl⟩ : ∃ f', f = f' + 1 := ⟨f - 1, by omega⟩
      have HU : Hid ((Tr.up lev).length = (n + 1) / 2) := Lib.hid (by rw [Tr.up_len, ← HN.out])
      have hot := other_eq k
      obtain ⟨s, hs⟩ : ∃ s, s = Tr.sib k := ⟨_, rfl⟩
      rw [← hs] at hot
      have HSB := Lib.hid hs
      have HLV : Hid (Tr.path l i = out ++ ((if s < n then [lev.getD s []] else []) ++ Tr.pathL (Tr.levs f (Tr.up lev)) (k / 2))) := Lib.hid (by
        rw [HPA.out, Tr.levs_go _ _ (by rw [← HN.out]; omega), Tr.pathL, ← HN.out, hs])
      have hk0 : (0 : Int) ≤ (k : Int) := by omega
      have hk2 : (k : Int) % 2 ≤ 1 := by omega
      have hk3 : (0 : Int) ≤ (k : Int) % 2 := by omega
      clear hn1 hs HPA
      by_cases hsn : s < n
      · obtain ⟨y, hy⟩ : ∃ y, lev[s]? = some y := ⟨lev[s]'(by rw [← HN.out]; exact hsn), by simp⟩
        obtain ⟨g, off, rfl, c0⟩ := HLE.out s y hy
        have HY : Hid (lev.getD s [] = y) := Lib.hid (by rw [List.getD_eq_getElem?_getD, hy]; rfl)
        have hsn2 : (s : Int) < (n : Int) := by omega
        have hb1 : on + 1 ≤ maxLen := by unfold maxLen; omega
        have hb2 : (on + 1) * 16 ≤ 140737488355328 := by omega
        have hb3 : w.heap.size ≤ (wr.alloc (.cells #[.string ⟨y.toArray⟩] 9)).heap.size := Nat.le_trans HCH.out.size (by simp)
        clear hy
        go_wp2_with (at_builtin; refine wpList_append_strs _ rfl (.tmp 32) (.tmp 37) 22 rfl w.heap.size 9 i0 (.string ⟨#[]⟩) 16 Tryd.underlying22 hii hz0 hz1 hz2 rfl u6 on (out.map vstr) rfl (row_keptB HROW.out ((Chg.refl _ _).alloc _)) (.slice (some ⟨wr.heap.size, 0, none⟩) 1 1) [y] rfl (one_strs wr y) hb1 hb2 hb3 ?_; intro v4 w10 hown4 hgrow4; have HC10 := Lib.hid ((HCH.out.alloc _).grown hgrow4 (fun k hk => .inr (own_ge HROW.out k hk))); have HOWN := Lib.hid hown4; clear hown4 hb1 hb2 hb3)
        have HSTN : Hid (Strs w10 (.slice (some ⟨g, off, none⟩) n lcap2) lev) := Lib.hid (by
          obtain ⟨ao', cap', he', hle', h2⟩ := HST2.out
          refine ⟨ao', cap', he', hle', fun j x hx => ?_⟩
          obtain ⟨g', off', h3, h4⟩ := h2 j x hx
          refine ⟨g', off', h3, ?_⟩
          subst h3
          cases he'
          have hne : u6.ownBlock ≠ some g := fun e => HDI.out g e rfl
          have hlt : g < wr.heap.size := World.block_lt_of_cell? _ _ h4
          have hga : (wr.alloc (.cells #[.string ⟨y.toArray⟩] 9)).heap[g]? = wr.heap[g]? := Below.heap_alloc _ _ _ hlt
          have hgb := hgrow4.block g (by simp; omega) (fun e => hne e.symm)
          exact (World.cell?_of_block (a := ⟨g, off + j, none⟩) (hgb.trans hga)).trans h4)
        clear hgrow4 c0 HST2 HROW HDI
        refine (rup_spec _ _ lev (Lib.hid HSTN.out) (by rw [← HN.out]; exact hn60) HLX).mono ?_
        rintro e w3 ⟨⟨no, ncap, rfl, hs, hfr⟩, hc⟩
        have HNS := Lib.hid hs
        have HC3 := Lib.hid (HC10.out.trans hc (by simp))
        have HR3 := Lib.hid (row_keptB HOWN.out hc)
        have HDJ : Hid (∀ b, (v4).ownBlock = some b → (Value.slice no (Tr.up lev).length ncap).ownBlock ≠ some b) := Lib.hid (fun b hb h2 => by
          have h3 := (own_lt HOWN.out b hb)
          have h4 := hfr b h2
          omega)
        clear hs hc hfr
        go_wp2_with fail
        go_roundw
        case rel => exact ⟨f, k / 2, Tr.up lev, out ++ [y], no, ncap, by go_num, rfl, by rw [List.length_append, List.length_singleton, ← HON.out, List.map_append]; exact HR3.out, HNS.out, by rw [HU.out]; omega, by rw [HU.out]; omega, by rw [HU.out]; omega, by rw [List.length_append, List.length_singleton, ← HON.out]; omega, Tr.up_small HLX.out, by rw [HLV.out, if_pos hsn, HY.out, List.append_assoc], HDJ.out, HC3.out⟩
        case measure =>
          show (Tr.up lev).length < n
          rw [HU.out]
          omega
      · have hsn2 : ¬ (s : Int) < (n : Int) := by omega
        go_wp2_with fail
        refine (rup_spec _ _ lev (Lib.hid HST2.out) (by rw [← HN.out]; exact hn60) HLX).mono ?_
        rintro e w3 ⟨⟨no, ncap, rfl, hs, hfr⟩, hc⟩
        have HNS := Lib.hid hs
        have HC3 := Lib.hid (HCH.out.trans hc (by simp))
        have HR3 := Lib.hid (row_keptB HROW.out hc)
        have HDJ : Hid (∀ b, (u6).ownBlock = some b → (Value.slice no (Tr.up lev).length ncap).ownBlock ≠ some b) := Lib.hid (fun b hb h2 => by
          have h3 := (own_lt HROW.out b hb)
          have h4 := hfr b h2
          omega)
        clear hs hc hfr
        go_wp2_with fail
        go_roundw
        case rel => exact ⟨f, k / 2, Tr.up lev, out, no, ncap, by go_num, rfl, by rw [← HON.out]; exact HR3.out, HNS.out, by rw [HU.out]; omega, by rw [HU.out]; omega, by rw [HU.out]; omega, by rw [← HON.out]; omega, Tr.up_small HLX.out, by rw [HLV.out, if_neg hsn, List.nil_append], HDJ.out, HC3.out⟩
        case measure =>
          show (Tr.up lev).length < n
          rw [HU.out]
          omega
end Go.Proofs.YtpeehlflhnhhjaaDoor
