/-
  Layer 4: the walk of tree.Path.
-/
import Derived.Test.YtpeehlflhnhhjaaDoorTrI
import Derived.Deep.AppendLies
namespace Go.Proofs.YtpeehlflhnhhjaaDoor
set_option linter.unusedVariables false
set_option linter.unusedSimpArgs false
open Go Go.RowKit Go.Shelf
attribute [local go_sem] Oper.semAt_some

theorem strs_put {W : World} {v : Value} {l : List Bytes} {k : Nat} {o o' : Obj} (ho : W.heap[k]? = some o) (hoc : o.isCells = false) (h : Strs W v l) : Strs (W.putObj k o') v l := by
  obtain ⟨ao, cap, rfl, hle, h2⟩ := h
  refine ⟨ao, cap, rfl, hle, fun i x hx => ?_⟩
  obtain ⟨g, off, rfl, h3⟩ := h2 i x hx
  refine ⟨g, off, rfl, ?_⟩
  have hne : g ≠ k := by
    rintro rfl
    unfold World.cell? at h3
    rw [ho] at h3
    cases o <;> first | (cases hoc; done) | (cases h3)
  exact (World.cell?_of_block (a := ⟨g, off + i, none⟩) (World.putObj_heap_other hne)).trans h3
theorem strs_row {W : World} {B : Nat} {e : TypeId} {v : Value} {l : List Bytes} (h : W.ownsRow B e 1 v l.length (l.map vstr)) : Strs W v l := by
  rcases h.2 with ⟨rfl, h0⟩ | ⟨g, cap, cur, rfl, _, hg, hle, _, _, ht⟩
  · have : l = [] := by simpa using h0
    subst this
    exact Strs.nil W
  · refine ⟨_, cap, rfl, hle, fun i x hx => ⟨g, 0, rfl, ?_⟩⟩
    have hi := (List.getElem?_eq_some_iff.1 hx).1
    have h1 : cur.toList[i]? = some (vstr x) := by
      rw [← List.getElem?_take_of_lt (by omega : i < l.length * 1), show cur.toList.take (l.length * 1) = l.map vstr by simpa using ht, List.getElem?_map, hx]
      rfl
    unfold World.cell?
    simp only [hg]
    simpa [vstr] using h1
theorem row_setCell {w : World} {B : Nat} {e : TypeId} {size : Nat} {v : Value} {n : Nat} {xs : List Value} {b : Nat} {u : Value} (h : w.ownsRow B e size v n xs) (hb : v.ownBlock ≠ some b) : (w.setCell ⟨b, 0, none⟩ u).ownsRow B e size v n xs := by
  refine ⟨h.1, ?_⟩
  rcases h.2 with h0 | ⟨g, cap, cur, rfl, hB, hg, rest⟩
  · exact .inl h0
  · exact .inr ⟨g, cap, cur, rfl, hB, (heap_setCell_other w ⟨b, 0, none⟩ g _ (fun e => hb (by rw [e]; rfl))).trans hg, rest⟩
theorem path_end0 {bi i j : Nat} {w0 W5 : World} {v5 x : Value} {lev : List Bytes} {pre : List (Value × List Bytes)} (HBO1 : Hid (bi ≠ bi + 1)) (HB5 : Hid (Blk W5 (bi + 1) [v5] 22))
    (HR5 : Hid (W5.ownsRow 0 9 1 v5 (Tr.pathL (pre.map Prod.snd) i).length ((Tr.pathL (pre.map Prod.snd) i).map vstr))) (HO5 : Hid (∀ b ∈ v5.ownBlock.toList, w0.heap.size ≤ b)) (HC5 : Hid (Chg [bi, bi + 1] w0 W5))
    (HI5 : Hid (Blk W5 bi [.int .i64 (j : Int)] 3)) (HQI : Hid (v5.ownBlock ≠ some bi)) (HSN2 : Hid (Tr.pathL (pre.map Prod.snd ++ [lev]) i = Tr.pathL (pre.map Prod.snd) i)) (HJS : Hid (i / 2 ^ (pre.length + 1) = j / 2)) :
    KeepsOthers W5 (W5.setCell ⟨bi, 0, none⟩ (.int .i64 ((j : Int) / 2))) ∧ KpP bi (bi + 1) W5 (W5.setCell ⟨bi, 0, none⟩ (.int .i64 ((j : Int) / 2))) ∧ PathI bi (bi + 1) i w0 (pre ++ [(x, lev)]) (W5.setCell ⟨bi, 0, none⟩ (.int .i64 ((j : Int) / 2))) := by
  refine ⟨keeps_setCell HI5.out, kp_setCell HI5.out (Or.inl rfl) (fun k h => by cases h), v5, HB5.out.other _ _ (fun e => HBO1.out e.symm), ?_, ?_, HO5.out, HC5.out.setCell _ _ (.inl (by simp))⟩
  · rw [List.map_append]
    show (World.ownsRow _ _ _ _ _ (Tr.pathL (pre.map Prod.snd ++ [lev]) i).length ((Tr.pathL (pre.map Prod.snd ++ [lev]) i).map vstr))
    rw [HSN2.out]
    exact row_setCell HR5.out HQI.out
  · have h := HI5.out.set 0 (.int .i64 ((j : Int) / 2))
    rw [List.length_append, List.length_singleton, HJS.out]
    exact h
theorem path_end {bi i j pl g9 cap9 : Nat} {w0 W5 w11 : World} {v5 x : Value} {lev : List Bytes} {pre : List (Value × List Bytes)} {px : List Value} {y : Bytes} (HBO1 : Hid (bi ≠ bi + 1)) (HB5 : Hid (Blk W5 (bi + 1) [v5] 22))
    (HO5 : Hid (∀ b ∈ v5.ownBlock.toList, w0.heap.size ≤ b)) (HC5 : Hid (Chg [bi, bi + 1] w0 W5)) (K1 : Hid (KeepsOthers W5 w11)) (K2 : Hid (KpP bi (bi + 1) W5 w11)) (K3 : Hid (Blk w11 (bi + 1) [.slice (some ⟨g9, 0, none⟩) (pl + 1) cap9] 22))
    (K4 : Hid (w11.ownsRow 0 9 1 (.slice (some ⟨g9, 0, none⟩) (pl + 1) cap9) (pl + 1) (px ++ [.string ⟨y.toArray⟩]))) (K5 : Hid (Chg ((bi + 1) :: v5.ownBlock.toList) W5 w11)) (KB : Hid (Blk w11 bi [.int .i64 (j : Int)] 3)) (HBW : Hid (w0.heap.size ≤ W5.heap.size ∧ bi + 1 < w0.heap.size))
    (HSN2 : Hid (Tr.pathL (pre.map Prod.snd ++ [lev]) i = Tr.pathL (pre.map Prod.snd) i ++ [y])) (HJS : Hid (i / 2 ^ (pre.length + 1) = j / 2)) (HP0 : Hid (pl = (Tr.pathL (pre.map Prod.snd) i).length)) (HX0 : Hid (px = (Tr.pathL (pre.map Prod.snd) i).map vstr)) :
    KeepsOthers W5 (w11.setCell ⟨bi, 0, none⟩ (.int .i64 ((j : Int) / 2))) ∧ KpP bi (bi + 1) W5 (w11.setCell ⟨bi, 0, none⟩ (.int .i64 ((j : Int) / 2))) ∧ PathI bi (bi + 1) i w0 (pre ++ [(x, lev)]) (w11.setCell ⟨bi, 0, none⟩ (.int .i64 ((j : Int) / 2))) := by
  have hc11 : Chg [bi, bi + 1] w0 w11 := HC5.out.trans K5.out (fun k hk => by
    rcases List.mem_cons.1 hk with rfl | hk
    · exact .inl (by simp)
    · exact .inr (HO5.out k hk))
  have hown9 : w0.heap.size ≤ g9 := by
    have h := K2.out.own _ g9 (K3.out.cell (i := 0) rfl) rfl
    rcases h with ⟨u, hu, hk⟩ | ⟨h, _⟩
    · rw [HB5.out.cell (i := 0) rfl] at hu
      cases hu
      exact HO5.out g9 (by rw [hk]; simp)
    · exact Nat.le_trans HBW.out.1 h
  have hne : g9 ≠ bi := by have := HBW.out.2; omega
  refine ⟨⟨Nat.le_trans K1.out.size (keeps_setCell KB.out).size, fun k o ho hoc => (keeps_setCell KB.out).same k o (K1.out.same k o ho hoc) hoc⟩, K2.out.trans (kp_setCell KB.out (Or.inl rfl) (fun k h => by cases h)), _, K3.out.other _ _ (fun e => HBO1.out e.symm), ?_, ?_, ?_, hc11.setCell _ _ (.inl (by simp))⟩
  · rw [List.map_append]
    show (World.ownsRow _ _ _ _ _ (Tr.pathL (pre.map Prod.snd ++ [lev]) i).length ((Tr.pathL (pre.map Prod.snd ++ [lev]) i).map vstr))
    rw [HSN2.out, List.length_append, List.length_singleton, ← HP0.out, List.map_append, ← HX0.out]
    exact row_setCell K4.out (fun e => hne (by cases e; rfl))
  · have h := KB.out.set 0 (.int .i64 ((j : Int) / 2))
    rw [List.length_append, List.length_singleton, HJS.out]
    exact h
  · intro b hb
    simp [Value.ownBlock] at hb
    omega
set_option maxRecDepth 100000 in
set_option maxHeartbeats 2000000 in
theorem path_in (w : World) (HL : Hid (Laid w)) (v : Value) (leaves : List Bytes) (HV : Hid (Strs w v leaves)) (hl : leaves.length ≤ 900) (HB : Hid (∀ x ∈ leaves, x.length ≤ 1000000)) (i : Nat) (hi : i < leaves.length) :
    Calls Tryd.prog 11 #[v, .int .i64 (i : Int)] w fun e w' => (∃ u, e = .returned (.tuple #[u, .int .i64 0]) ∧ Strs w' u (Tr.path leaves i)) ∧ Chg [] w w' := by
  obtain ⟨ao, cap, rfl, hcap, _⟩ := HV.out
  obtain ⟨m, hm⟩ : ∃ m, m = leaves.length := ⟨_, rfl⟩
  have hl0 : leaves ≠ [] := by rintro rfl; simp at hi
  have hm9 : m ≤ 900 := by rw [hm]; exact hl
  rw [← hm] at hcap hi ⊢
  have HM := Lib.hid hm
  have HL0 := Lib.hid hl0
  have hi1 : ¬ m ≤ i := by omega
  have hi2 : (0 : Int) ≤ (i : Int) := by omega
  clear hm hl0 hl
  obtain ⟨n, hn⟩ : ∃ n : Nat, 6 ≤ n := ⟨6, Nat.le_refl _⟩
  refine callsIn_wide.1 (callsIn_of_wp_marks Tryd.func11 rfl trivial ?_ rfl : CallsIn Fence.wide n _ _ _ _ _)
  simp only [Tryd.ntmps11, List.size_toArray, List.length_cons, List.length_nil, Nat.reduceAdd, Nat.reduceSub, Array.replicate_succ, Array.replicate_zero, List.push_toArray, List.append_toArray, List.nil_append, List.cons_append]
  gi_wp2
  refine ⟨trivial, (fun h0 => by cases h0), (callsIn_wide.2 (levels_spec _ _ m cap)).mono ?_⟩
  rintro e W4 ⟨rfl, rfl⟩
  have hbi := ((Blk.new w [.int .i64 (i : Int)] 3).alloc (.cells #[.slice none 0 0] 22)).alloc (.cells #[.slice ao m cap] 22)
  have hbo := (Blk.new (w.alloc (.cells #[.int .i64 (i : Int)] 3)) [.slice none 0 0] 22).alloc (.cells #[.slice ao m cap] 22)
  have hbl := Blk.new ((w.alloc (.cells #[.int .i64 (i : Int)] 3)).alloc (.cells #[.slice none 0 0] 22)) [.slice ao m cap] 22
  have hc4 : Chg [] w (((w.alloc (.cells #[.int .i64 (i : Int)] 3)).alloc (.cells #[.slice none 0 0] 22)).alloc (.cells #[.slice ao m cap] 22)) := (((Chg.refl _ _).alloc _).alloc _).alloc _
  simp only [World.size_alloc] at hbo hbl ⊢
  obtain ⟨w0, hw0⟩ : ∃ w0, w0 = (((w.alloc (.cells #[.int .i64 (i : Int)] 3)).alloc (.cells #[.slice none 0 0] 22)).alloc (.cells #[.slice ao m cap] 22)) := ⟨_, rfl⟩
  have h0s : w0.heap.size = w.heap.size + 1 + 1 + 1 := by rw [hw0]; simp
  rw [← hw0] at hbi hbo hbl hc4 ⊢
  have HBI := Lib.hid hbi
  have HBO := Lib.hid hbo
  have HBL := Lib.hid hbl
  have HC4 := Lib.hid hc4
  have H0S := Lib.hid h0s
  clear hw0 hbi hbo hbl hc4 h0s
  gi_wp2
  obtain ⟨bi, hbie⟩ : ∃ bi, bi = w.heap.size := ⟨_, rfl⟩
  rw [← hbie] at HBI HBO HBL H0S ⊢
  have HBIE := Lib.hid hbie
  clear hbie
  have hW2 : 2 ≤ w.heap.size := by have := HL.out.lt; omega
  have cBl := HBL.out.cell (i := 0) rfl
  have lbi := HBI.out.lt
  have lbo := HBO.out.lt
  have hwf : WfP 2 bi (bi + 1) w0 := ⟨lbi, lbo, by rw [HBIE.out]; exact hW2, by rw [HBIE.out]; omega, fun v k hv hk => by
    rw [HBO.out.cell (i := 0) rfl] at hv
    cases hv
    cases hk⟩
  have HS0 : Hid (Strs w0 (.slice ao m cap) leaves) := Lib.hid (by rw [HM.out] at *; exact HV.out.quiet HC4.out)
  refine range_hands (I := PathI bi (bi + 1) i w0)
    (by omega) rfl (enters_of Tryd.func34 (by kernel_rfl) rfl) (levels_hands (n - 1) (by omega) (bi + 1 + 1) leaves HL0.out (by rw [← HM.out]; exact hm9) HB 2 bi (bi + 1) (by omega) w0 hwf (Lib.hid (HL.out.quiet HC4.out)) _ HS0 cBl) (fun h k => h.trans k) ?kb ?hI ?hP ?h0 ?a1 ?assign ?body ?done
  case assign =>
    intro l2 x W5 K hK
    gi_wp2
    exact hK
  case hP => exact fun x => strs_cellish
  case hI => exact fun pre => pathI_cellish pre rfl
  case kb =>
    intro W6 l6 o6 o6' hl6 ho6 hoc6
    exact KpP.put (by omega) ho6 hoc6
  case h0 => exact ⟨_, HBO.out, World.ownsRow_nil _ _ _ _, by simpa using HBI.out, by simp [Value.ownBlock], Chg.refl _ _⟩
  case body =>
    rintro l2 pre2 ⟨v2, lev⟩ W5 ⟨v5, hb5, hr5, hi5, ho5, hc5⟩ ⟨⟨ao2, cap2, he2, hle2, hr2⟩, hne, h9⟩ hpl2
    simp only at he2 hle2 hr2 hne h9 ⊢
    subst he2
    have hsn := Tr.pathL_snoc (pre2.map Prod.snd) lev i
    rw [List.length_map] at hsn
    have hj9 : i / 2 ^ pre2.length ≤ 900 := by have := Nat.div_le_self i (2 ^ pre2.length); omega
    have hjs : i / 2 ^ (pre2.length + 1) = i / 2 ^ pre2.length / 2 := by rw [Nat.pow_succ, Nat.div_div_eq_div_mul]
    generalize i / 2 ^ pre2.length = j at *
    have hx := xor_i64 j (by omega)
    obtain ⟨s, hs⟩ : ∃ s, s = Tr.sib j := ⟨_, rfl⟩
    rw [← hs] at hx hsn
    have HSI := Lib.hid hs
    have HSN := Lib.hid hsn
    have HJS := Lib.hid hjs
    have HR2 := Lib.hid hr2
    have HPL : Hid ((Tr.pathL (pre2.map Prod.snd) i).length ≤ 901) := Lib.hid (by
      have := Tr.pathL_len (pre2.map Prod.snd) i
      rw [List.length_map] at this
      have := HM.out
      omega)
    obtain ⟨q, hq⟩ : ∃ q, q = lev.length := ⟨_, rfl⟩
    rw [← hq] at hle2 h9 ⊢
    have HQ := Lib.hid hq
    have lb5 := hb5.lt
    have li5 := hi5.lt
    have c5 := hb5.cell (i := 0) rfl
    have f5 := hb5.free 0
    have ci5 := hi5.cell (i := 0) rfl
    have fi5 := hi5.free 0
    have HB5 := Lib.hid hb5
    have HI5 := Lib.hid hi5
    have HR5 := Lib.hid hr5
    have HO5 := Lib.hid ho5
    have HC5 := Lib.hid hc5
    clear hs hsn hjs hr2 hq hb5 hi5 hr5 ho5 hc5 hne hpl2
    by_cases hsq : s < q
    · obtain ⟨y, hy⟩ : ∃ y, lev[s]? = some y := ⟨lev[s]'(by rw [← HQ.out]; exact hsq), by simp⟩
      obtain ⟨g, off, rfl, c0⟩ := HR2.out s y hy
      have HY : Hid (lev.getD s [] = y) := Lib.hid (by rw [List.getD_eq_getElem?_getD, hy]; rfl)
      clear hy
      have HC9 : Hid (Chg [] W5 W5.drew) := Lib.hid (Chg.refl _ _).drew
      have HBO1 : Hid (bi ≠ bi + 1) := Lib.hid (by omega)
      have hqp : v5.ownBlock ≠ some (bi + 1) := fun e => by have := HO5.out (bi + 1) (by rw [e]; simp); have := HBO.out.lt; omega
      have c9 : W5.drew.cell? ⟨bi + 1, 0, none⟩ = some v5 := c5
      have l9 : bi + 1 < W5.drew.heap.size := lb5
      have hpl : (Tr.pathL (pre2.map Prod.snd) i).length ≤ 901 := HPL.out
      have hqi : v5.ownBlock ≠ some bi := fun e => by have := HO5.out bi (by rw [e]; simp); have := HBI.out.lt; omega
      have HBW : Hid (w0.heap.size ≤ W5.heap.size ∧ bi + 1 < w0.heap.size) := Lib.hid ⟨HC5.out.size, HBO.out.lt⟩
      have HSN2 : Hid (Tr.pathL (List.map Prod.snd pre2 ++ [lev]) i = Tr.pathL (List.map Prod.snd pre2) i ++ [y]) := Lib.hid (by rw [HSN.out, if_pos (by rw [← HQ.out]; exact hsq), HY.out])
      obtain ⟨pl, hpl0⟩ : ∃ pl, pl = (Tr.pathL (pre2.map Prod.snd) i).length := ⟨_, rfl⟩
      obtain ⟨px, hpx0⟩ : ∃ px, px = (Tr.pathL (pre2.map Prod.snd) i).map vstr := ⟨_, rfl⟩
      rw [← hpl0] at HR5 hpl
      rw [← hpx0] at HR5
      have HP0 := Lib.hid hpl0
      have HX0 := Lib.hid hpx0
      clear hpl0 hpx0
      obtain ⟨i0, hi, hz0, hz1, hz2⟩ := info_parts info_str
      gi_wp2
      refine region_round' (by kernel_rfl) (by kernel_rfl) ?hno ?_
      case hno =>
        rintro ⟨a9, w9, h9⟩
        cases h9.1
      refine wpAny_take (i := 1) (v := ?v1) rfl (by kernel_rfl) (by kernel_rfl) (by kernel_rfl) (fun _ _ _ h => h) (Or.inl ⟨by rfl, ?hy1⟩) ?rest1
      case hy1 => (intro w9; go_simp; try with_reducible rfl)
      refine wpAny_take (i := 2) (v := ?v2) rfl (by kernel_rfl) (by kernel_rfl) (by kernel_rfl) (fun _ _ _ h => h) (Or.inl ⟨by rfl, ?hy2⟩) ?rest2
      case hy2 => (intro w9; go_simp; try with_reducible rfl)
      refine wpAny_take (i := 3) (v := ?v3) rfl (by kernel_rfl) (by kernel_rfl) (by kernel_rfl) (fun _ _ _ h => h) (Or.inl ⟨by rfl, ?hy3⟩) ?rest3
      case hy3 => (intro w9; go_simp; try with_reducible rfl)
      try simp only [Act.put, List.setIfInBounds_toArray, List.set_cons_zero, List.set_cons_succ]
      -- region 8
      refine wpAny_all (rs := [0, 4]) (by kernel_rfl) (by decide) (AllReady.cons rfl (fun K hK => ?_) (AllReady.cons rfl (fun K hK => ?_) AllReady.nil))
      · go_simp
        refine hK _ _ ?_
        clear hK K
        refine wpAny_all (rs := [4]) (by kernel_rfl) (by decide) (AllReady.cons rfl (fun K hK => ?_) AllReady.nil)
        · go_simp
          refine hK _ _ ?_
          clear hK K
          refine wpAny_all (rs := [5]) (by kernel_rfl) (by decide) (AllReady.cons rfl (fun K hK => ?_) AllReady.nil)
          · go_simp
            refine hK _ _ ?_
            clear hK K
            refine wpAny_all (rs := [6]) (by kernel_rfl) (by decide) (AllReady.cons rfl (fun K hK => ?_) AllReady.nil)
            · refine step_append_lies (W5.drew.alloc (.cells #[.string ⟨y.toArray⟩] 9)) rfl (.tmp 26) (.tmp 31) 22 rfl 0 9 i0 (.string ⟨#[]⟩) 1 16 Tryd.underlying22 hi hz0 hz1 hz2 rfl (by decide) v5 pl px rfl ((row_keptB HR5.out HC9.out).alloc _) ⟨W5.drew.heap.size, 0, none⟩ 1 1 [.string ⟨y.toArray⟩] rfl rfl (fun j u hj => by rw [addr_add, Nat.zero_add]; exact (Blk.new W5.drew [.string ⟨y.toArray⟩] _).cell hj) (by intro u hu; simp at hu; rw [hu]; rfl) (by decide) (by unfold maxLen; omega) (by omega) (Nat.zero_le _) _ rfl (fun g9 cap9 w10 hown hgrow hat hlt10 => ?_)
              have e2 : w10.cell? ⟨bi + 1, 0, none⟩ = some v5 := (hgrow.cell_far ⟨bi + 1, 0, none⟩ (by simp; omega) (fun e => hqp e.symm)).trans ((World.cell?_alloc_past _ (bi + 1) 0 l9).trans c9)
              have ef : w10.frozen? ⟨bi + 1, 0, none⟩ = false := (hgrow.frozen_far ⟨bi + 1, 0, none⟩ (by simp; omega) (fun e => hqp e.symm)).trans ((World.frozen?_alloc_past _ (bi + 1) 0 l9).trans ((HC9.out.blk HB5.out (by simp)).free 0))
              refine hK _ _ ?_
              clear hK K
              refine wpAny_all (rs := [7]) (by kernel_rfl) (by decide) (AllReady.cons rfl (fun K hK => ?_) AllReady.nil)
              · go_simp
                refine hK _ _ ?_
                clear hK K
                refine wpAny_done (by kernel_rfl) ?_ _
                obtain ⟨k1, k2, k3, k4, k5⟩ := path_app HBO1.out HB5.out HR5.out hown hgrow (by simpa using hat) hqp
                clear e2 ef hown hgrow hat hlt10
                generalize w10.setCell ⟨bi + 1, 0, none⟩ (.slice (some ⟨g9, 0, none⟩) (pl + 1) cap9) = w11 at *
                have hb11 : Blk w11 bi [.int .i64 (j : Int)] 3 := k5.blk HI5.out (by simpa using hqi)
                have c11 := hb11.cell (i := 0) rfl
                have f11 := hb11.free 0
                have l11 := hb11.lt
                have K1 := Lib.hid k1
                have K2 := Lib.hid k2
                have K3 := Lib.hid k3
                have K4 := Lib.hid k4
                have K5 := Lib.hid k5
                have KB := Lib.hid hb11
                clear k1 k2 k3 k4 k5 hb11
                gi_wp2
                exact path_end HBO1 HB5 HO5 HC5 K1 K2 K3 K4 K5 KB HBW HSN2 HJS HP0 HX0
      · go_simp
        refine hK _ _ ?_
        clear hK K
        refine wpAny_all (rs := [0, 5]) (by kernel_rfl) (by decide) (AllReady.cons rfl (fun K hK => ?_) (AllReady.cons rfl (fun K hK => ?_) AllReady.nil))
        · go_simp
          refine hK _ _ ?_
          clear hK K
          refine wpAny_all (rs := [5]) (by kernel_rfl) (by decide) (AllReady.cons rfl (fun K hK => ?_) AllReady.nil)
          · go_simp
            refine hK _ _ ?_
            clear hK K
            refine wpAny_all (rs := [6]) (by kernel_rfl) (by decide) (AllReady.cons rfl (fun K hK => ?_) AllReady.nil)
            · refine step_append_lies (W5.drew.alloc (.cells #[.string ⟨y.toArray⟩] 9)) rfl (.tmp 26) (.tmp 31) 22 rfl 0 9 i0 (.string ⟨#[]⟩) 1 16 Tryd.underlying22 hi hz0 hz1 hz2 rfl (by decide) v5 pl px rfl ((row_keptB HR5.out HC9.out).alloc _) ⟨W5.drew.heap.size, 0, none⟩ 1 1 [.string ⟨y.toArray⟩] rfl rfl (fun j u hj => by rw [addr_add, Nat.zero_add]; exact (Blk.new W5.drew [.string ⟨y.toArray⟩] _).cell hj) (by intro u hu; simp at hu; rw [hu]; rfl) (by decide) (by unfold maxLen; omega) (by omega) (Nat.zero_le _) _ rfl (fun g9 cap9 w10 hown hgrow hat hlt10 => ?_)
              have e2 : w10.cell? ⟨bi + 1, 0, none⟩ = some v5 := (hgrow.cell_far ⟨bi + 1, 0, none⟩ (by simp; omega) (fun e => hqp e.symm)).trans ((World.cell?_alloc_past _ (bi + 1) 0 l9).trans c9)
              have ef : w10.frozen? ⟨bi + 1, 0, none⟩ = false := (hgrow.frozen_far ⟨bi + 1, 0, none⟩ (by simp; omega) (fun e => hqp e.symm)).trans ((World.frozen?_alloc_past _ (bi + 1) 0 l9).trans ((HC9.out.blk HB5.out (by simp)).free 0))
              refine hK _ _ ?_
              clear hK K
              refine wpAny_all (rs := [7]) (by kernel_rfl) (by decide) (AllReady.cons rfl (fun K hK => ?_) AllReady.nil)
              · go_simp
                refine hK _ _ ?_
                clear hK K
                refine wpAny_done (by kernel_rfl) ?_ _
                obtain ⟨k1, k2, k3, k4, k5⟩ := path_app HBO1.out HB5.out HR5.out hown hgrow (by simpa using hat) hqp
                clear e2 ef hown hgrow hat hlt10
                generalize w10.setCell ⟨bi + 1, 0, none⟩ (.slice (some ⟨g9, 0, none⟩) (pl + 1) cap9) = w11 at *
                have hb11 : Blk w11 bi [.int .i64 (j : Int)] 3 := k5.blk HI5.out (by simpa using hqi)
                have c11 := hb11.cell (i := 0) rfl
                have f11 := hb11.free 0
                have l11 := hb11.lt
                have K1 := Lib.hid k1
                have K2 := Lib.hid k2
                have K3 := Lib.hid k3
                have K4 := Lib.hid k4
                have K5 := Lib.hid k5
                have KB := Lib.hid hb11
                clear k1 k2 k3 k4 k5 hb11
                gi_wp2
                exact path_end HBO1 HB5 HO5 HC5 K1 K2 K3 K4 K5 KB HBW HSN2 HJS HP0 HX0
        · go_simp
          refine hK _ _ ?_
          clear hK K
          refine wpAny_all (rs := [0]) (by kernel_rfl) (by decide) (AllReady.cons rfl (fun K hK => ?_) AllReady.nil)
          · go_simp
            refine hK _ _ ?_
            clear hK K
            refine wpAny_all (rs := [6]) (by kernel_rfl) (by decide) (AllReady.cons rfl (fun K hK => ?_) AllReady.nil)
            · refine step_append_lies (W5.drew.alloc (.cells #[.string ⟨y.toArray⟩] 9)) rfl (.tmp 26) (.tmp 31) 22 rfl 0 9 i0 (.string ⟨#[]⟩) 1 16 Tryd.underlying22 hi hz0 hz1 hz2 rfl (by decide) v5 pl px rfl ((row_keptB HR5.out HC9.out).alloc _) ⟨W5.drew.heap.size, 0, none⟩ 1 1 [.string ⟨y.toArray⟩] rfl rfl (fun j u hj => by rw [addr_add, Nat.zero_add]; exact (Blk.new W5.drew [.string ⟨y.toArray⟩] _).cell hj) (by intro u hu; simp at hu; rw [hu]; rfl) (by decide) (by unfold maxLen; omega) (by omega) (Nat.zero_le _) _ rfl (fun g9 cap9 w10 hown hgrow hat hlt10 => ?_)
              have e2 : w10.cell? ⟨bi + 1, 0, none⟩ = some v5 := (hgrow.cell_far ⟨bi + 1, 0, none⟩ (by simp; omega) (fun e => hqp e.symm)).trans ((World.cell?_alloc_past _ (bi + 1) 0 l9).trans c9)
              have ef : w10.frozen? ⟨bi + 1, 0, none⟩ = false := (hgrow.frozen_far ⟨bi + 1, 0, none⟩ (by simp; omega) (fun e => hqp e.symm)).trans ((World.frozen?_alloc_past _ (bi + 1) 0 l9).trans ((HC9.out.blk HB5.out (by simp)).free 0))
              refine hK _ _ ?_
              clear hK K
              refine wpAny_all (rs := [7]) (by kernel_rfl) (by decide) (AllReady.cons rfl (fun K hK => ?_) AllReady.nil)
              · go_simp
                refine hK _ _ ?_
                clear hK K
                refine wpAny_done (by kernel_rfl) ?_ _
                obtain ⟨k1, k2, k3, k4, k5⟩ := path_app HBO1.out HB5.out HR5.out hown hgrow (by simpa using hat) hqp
                clear e2 ef hown hgrow hat hlt10
                generalize w10.setCell ⟨bi + 1, 0, none⟩ (.slice (some ⟨g9, 0, none⟩) (pl + 1) cap9) = w11 at *
                have hb11 : Blk w11 bi [.int .i64 (j : Int)] 3 := k5.blk HI5.out (by simpa using hqi)
                have c11 := hb11.cell (i := 0) rfl
                have f11 := hb11.free 0
                have l11 := hb11.lt
                have K1 := Lib.hid k1
                have K2 := Lib.hid k2
                have K3 := Lib.hid k3
                have K4 := Lib.hid k4
                have K5 := Lib.hid k5
                have KB := Lib.hid hb11
                clear k1 k2 k3 k4 k5 hb11
                gi_wp2
                exact path_end HBO1 HB5 HO5 HC5 K1 K2 K3 K4 K5 KB HBW HSN2 HJS HP0 HX0
      -- end of region 8
    · have HSN2 : Hid (Tr.pathL (List.map Prod.snd pre2 ++ [lev]) i = Tr.pathL (List.map Prod.snd pre2) i) := Lib.hid (by rw [HSN.out, if_neg (by rw [← HQ.out]; exact hsq), List.append_nil])
      have HBO1 : Hid (bi ≠ bi + 1) := Lib.hid (by omega)
      have HQI : Hid (v5.ownBlock ≠ some bi) := Lib.hid (fun e => by have := HO5.out bi (by rw [e]; simp); have := HBI.out.lt; omega)
      gi_wp2
      exact path_end0 HBO1 HB5 HR5 HO5 HC5 HI5 HQI HSN2 HJS
  case done =>
    rintro D xs W6 hD hxs ⟨v6, hb6, hr6, hi6, ho6, hc6⟩ hd6
    rw [hxs] at hr6
    have c6 := hb6.cell (i := 0) rfl
    have HC6 : Hid (Chg [] w W6) := Lib.hid (HC4.out.trans hc6 (fun k hk => .inr (by simp at hk; have := HBIE.out; omega)))
    have HMK : Hid (Marked w.heap.size [D] W6) := Lib.hid ((Marked.nil _ _).cons (by simp) (Nat.le_trans HC4.out.size hD) hd6)
    have HS6 : Hid (Strs W6 v6 (Tr.path leaves i)) := Lib.hid (strs_row hr6)
    clear hb6 hc6 hd6 hr6 hi6 ho6 hxs
    gi_wp2
    refine leaves_mark1 (B := w.heap.size) (J := fun W => Chg [] w W ∧ Strs W v6 (Tr.path leaves i)) (fun A D' hD' ho hA => ⟨⟨hA.1.os, hA.1.tape, hA.1.output, by simpa using hA.1.size, fun k hk hn => (World.putObj_heap_other (by omega)).trans (hA.1.block k hk hn)⟩, strs_put ho rfl hA.2⟩) (fun W hW => ⟨_, by simp [results, Tryd.results11, go_sem], ⟨_, rfl, hW.2⟩, hW.1⟩) D W6 HMK.out ⟨HC6.out, HS6.out⟩
end Go.Proofs.YtpeehlflhnhhjaaDoor
