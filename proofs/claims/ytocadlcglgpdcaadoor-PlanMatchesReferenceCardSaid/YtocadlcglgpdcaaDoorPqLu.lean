/-
 Layer 23: the reference's Lex.
-/
import Derived.Test.YtocadlcglgpdcaaDoorPqLw
import Derived.Test.YtocadlcglgpdcaaDoorPqLd
namespace Go.Proofs.YtocadlcglgpdcaaDoor
set_option linter.unusedVariables false
set_option linter.unusedSimpArgs false
open Go Go.RowKit Go.Shelf
attribute [local irreducible] Lx.tab Lx.tab0 Lx.cls Lx.sc

theorem lnext_spec (w : World) (s : Bytes) (hs : s.length ≤ 1000000) (i : Nat) (hi : i < s.length) (HT : Hid (Lx.cls s[i] ≠ 1 ∧ Lx.cls s[i] ≠ 2)) :
 Calls Tryd.prog 38 #[.string ⟨s.toArray⟩, .int .i64 (i : Int)] w (NextR s i w) := by
 by_cases h3 : Lx.at' s i = 3
 · exact next_letter w s hs i hi HT h3
 · by_cases h4 : Lx.at' s i = 4
   · exact next_digit w s hs i hi HT h4
   · exact next_sym w s hs i hi HT ⟨h3, h4⟩
namespace Lx
theorem lex_fin {s : Bytes} (h : s.length ≤ 20000) : lex s = fin 0 [] (sc 0 s) := by
 unfold lex sc
 rw [if_neg (by omega)]
theorem fst_good {p : List (Tk × Nat)} (h : good p = true) : ∀ y ∈ p, y.2 = 0 := good_iff.1 h
/-- What stands at the next token. -/
theorem sc_here {s : Bytes} {e : Nat} (h : e < s.length) (ha : cls s[e] ≠ 1 ∧ cls s[e] ≠ 2) :
 sc e (s.drop e) = if (tok (s.drop e)).2.2 ≠ 0 then [(mk e (s.drop e), (tok (s.drop e)).2.2)] else (mk e (s.drop e), 0) :: sc (e + (tok (s.drop e)).2.1) (s.drop (e + (tok (s.drop e)).2.1)) := by
 have hd := List.drop_eq_getElem_cons h
 by_cases h0 : (tok (s.drop e)).2.2 = 0
 · rw [if_neg (by simpa using h0), ← List.drop_drop]
   rw [hd] at h0 ⊢
   rw [sc_tok ha.1 ha.2 h0]
 · rw [if_pos h0]
   rw [hd] at h0 ⊢
   rw [sc_err ha.1 ha.2 h0]
theorem tok_within {s : Bytes} {e : Nat} (h : e < s.length) (h0 : (tok (s.drop e)).2.2 = 0) : (mk e (s.drop e)).text.length = (tok (s.drop e)).2.1 ∧ e + (tok (s.drop e)).2.1 ≤ s.length ∧ 0 < (tok (s.drop e)).2.1 := by
 have hd := List.drop_eq_getElem_cons h
 have hl : (s.drop e).length = s.length - e := List.length_drop
 have hp : 0 < (tok (s.drop e)).2.1 ∧ (tok (s.drop e)).2.1 ≤ (s.drop e).length := by
  rw [hd] at h0 ⊢
  exact tok_pos h0
 refine ⟨?_, by omega, hp.1⟩
 show ((s.drop e).take _).length = _
 rw [List.length_take]
 omega
end Lx
theorem owns_base {w : World} {base : Nat} {e : TypeId} {size : Nat} {v : Value} {n : Nat} {xs : List Value} (h : w.ownsRow base e size v n xs) : ∀ k, v.ownBlock = some k → base ≤ k ∧ k < w.heap.size := by
 intro k hk
 rcases h.2 with ⟨rfl, _⟩ | ⟨g, cap, cur, rfl, hb, hg, _⟩
 · cases hk
 · simp [Value.ownBlock] at hk
   subst hk
   exact ⟨hb, (Array.getElem?_eq_some_iff.1 hg).1⟩
theorem ref_long (w : World) (s : Bytes) (hs : 20000 < s.length) :
 Calls Tryd.prog 25 #[.string ⟨s.toArray⟩] w fun e w' => e = .returned (.tuple #[.slice none 0 0, .int .i64 3, .int .i64 (-1)]) ∧ w' = w := by
 obtain ⟨sb, hsb⟩ : ∃ sb : ByteArray, sb = ⟨s.toArray⟩ := ⟨_, rfl⟩
 have hsz : (20000 : Int) < (sb.size : Int) := by rw [hsb, size_of9]; omega
 rw [← hsb]
 clear hsb hs
 go_enter Tryd.func25, Tryd.ntmps25
 go_wp2_with fail
 exact bodyPost_ret (v := .tuple #[.slice none 0 0, .int .i64 3, .int .i64 (-1)]) (by simp [results, Tryd.results25, go_sem]) rfl ⟨rfl, rfl⟩
set_option maxRecDepth 100000 in
set_option maxHeartbeats 2000000 in
theorem ref_short (w : World) (s : Bytes) (hs : s.length ≤ 20000) :
 Calls Tryd.prog 25 #[.string ⟨s.toArray⟩] w fun e w' => ∃ v, e = .returned (.tuple #[v, .int .i64 (Lx.lex s).2.1, .int .i64 (Lx.lex s).2.2]) ∧ TokS w' v (Lx.lex s).1 ∧ Chg [] w w' := by
 obtain ⟨sb, hsb⟩ : ∃ sb : ByteArray, sb = ⟨s.toArray⟩ := ⟨_, rfl⟩
 have HSB := Lib.hid hsb
 have HSZ : Hid (sb.size = s.length) := Lib.hid (by rw [hsb]; exact size_of9 s)
 rw [← hsb]
 clear hsb
 have q0 : ¬ (20000 : Int) < (sb.size : Int) := by rw [HSZ.out]; omega
 have HS := Lib.hid hs
 obtain ⟨R, hR⟩ : ∃ R, R = Lx.lex s := ⟨_, rfl⟩
 have HR : Hid (R = Lx.fin 0 [] (Lx.sc 0 s)) := Lib.hid (by rw [hR]; exact Lx.lex_fin hs)
 rw [← hR]
 clear hR hs
 go_enter Tryd.func25, Tryd.ntmps25
 go_wp2_with fail
 rw [HSB.out]
 refine (gap_spec _ s (by have := HS.out; omega) 0 0 rfl (Nat.zero_le _)).mono ?_
 rintro e w1 ⟨⟨j, rfl, _, hj, ha, hsc⟩, rfl⟩
 rw [← HSB.out]
 have hsc0 := hsc 0
 rw [List.drop_zero, Nat.zero_add, Nat.zero_add] at hsc0
 have H0 := Lib.hid (And.intro ha hsc0)
 clear ha hsc hsc0
 go_upto_region 5 with fail
 go_loopw [5, 6] (fun v at_ wr => ∃ (pre : List (Lx.Tk × Nat)) (e : Nat), at_ = .int .i64 (e : Int) ∧ e ≤ s.length ∧ Hid (Lx.atTok s e ∧ Lx.sc 0 s = pre ++ Lx.sc e (s.drop e) ∧ Lx.good pre = true ∧ pre.length ≤ 5000) ∧
  Hid (wr.ownsRow w1.heap.size 40 4 v pre.length ((pre.map Prod.fst).flatMap tkc)) ∧ Chg [] w1 wr) (fun _ at_ _ => s.length - (intOf at_).toNat)
 case atStart => exact ⟨[], j, rfl, hj, Lib.hid ⟨H0.out.1, H0.out.2, rfl, Nat.zero_le _⟩, Lib.hid ⟨rfl, .inl ⟨rfl, rfl⟩⟩, Chg.refl _ _⟩
 case round =>
  obtain ⟨pre, e, rfl, hes, HP, HO, hc⟩ := hrel
  have HC := Lib.hid hc
  clear hc
  obtain ⟨ao, cap, rfl⟩ := owns_form HO.out
  obtain ⟨q, hq⟩ : ∃ q, q = pre.length := ⟨_, rfl⟩
  have hq5 : q ≤ 5000 := by rw [hq]; exact HP.out.2.2.2
  by_cases hlt : e < s.length
  · have q1 : (e : Int) < (sb.size : Int) := by rw [HSZ.out]; omega
    have HLT := Lib.hid hlt
    have HHERE := Lib.hid (Lx.sc_here hlt (HP.out.1 hlt))
    go_wp2_with fail
    rw [HSB.out]
    refine (lnext_spec _ s (by have := HS.out; omega) e hlt (Lib.hid (HP.out.1 hlt))).mono ?_
    rintro _ w2 ⟨tk, er, rfl, HN, hc2⟩
    rw [← HSB.out]
    have HC2 := Lib.hid (HC.out.trans hc2 (by simp))
    have HO2 : Hid (w2.ownsRow w1.heap.size 40 4 (.slice ao pre.length cap) pre.length ((pre.map Prod.fst).flatMap tkc)) := Lib.hid (row_keptB HO.out hc2)
    obtain ⟨k, x, n, a, rfl, htk⟩ := HN.out.2
    have HTK := Lib.hid htk
    have HER := Lib.hid HN.out.1
    rw [← hq]
    have HQ := Lib.hid hq
    clear hc2 HN htk hq
    by_cases h0 : er = 0
    · subst h0
      have hmk := HTK.out rfl
      obtain ⟨T, hT⟩ : ∃ T, T = Lx.mk e (s.drop e) := ⟨_, rfl⟩
      rw [← hT] at hmk
      have hh := HHERE.out
      rw [← HER.out, if_neg (by simp), ← hT] at hh
      have HH := Lib.hid hh
      unfold tkv at hmk
      simp only [Value.agg.injEq, Array.mk.injEq, List.cons.injEq, and_true, Value.int.injEq, Value.string.injEq, true_and] at hmk
      obtain ⟨rfl, rfl, rfl, rfl⟩ := hmk
      obtain ⟨tl, htl⟩ : ∃ tl, T.text.length = tl := ⟨_, rfl⟩
      have hlen : tl = (Lx.tok (s.drop e)).2.1 ∧ e + tl ≤ s.length ∧ 0 < tl := by
       have h9 := Lx.tok_within hlt HER.out.symm
       rw [← hT, htl] at h9
       obtain ⟨x1, x2, x3⟩ := h9
       rw [← x1] at x2 x3
       exact ⟨x1, x2, x3⟩
      have HLEN := Lib.hid hlen
      have htle := hlen.2.1
      have HTA : Hid (T.at_ = e) := Lib.hid (by rw [hT]; rfl)
      clear hh hT hlen HHERE
      by_cases h5 : q = 5000
      · have n5 : ((q : Int) == 5000) = true := by rw [h5]; rfl
        have HFIN : Hid (R = ([], 3, (e : Int))) := Lib.hid (by
         rw [HR.out, HP.out.2.1, HH.out, Lx.fin_stop pre (T, 0) _ 0 [] (Lx.fst_good HP.out.2.2.1) (by have := HP.out.2.2.2; omega), if_neg (by simp), if_pos (by rw [← HQ.out]; omega), HTA.out])
        clear h5
        go_wp2_with fail
        exact bodyPost_ret (v := .tuple #[.slice none 0 0, .int .i64 3, .int .i64 (e : Int)]) (by simp [results, Tryd.results25, go_sem]) rfl ⟨.slice none 0 0, by rw [HFIN.out]; rfl, by rw [HFIN.out]; exact ⟨none, 0, rfl, Nat.le_refl _, fun i t h => by simp at h⟩, HC2.out.alloc _⟩
      · have n5 : ((q : Int) == 5000) = false := beq_eq_false_iff_ne.2 (by omega)
        obtain ⟨i0, hi, hz0, hz1, hz2⟩ := info_parts info_tok
        go_upto_region 12 with fail
        obtain ⟨W2, hW2⟩ : ∃ W2, W2 = w2.alloc (.cells #[.int .i64 T.kind, .string ⟨T.text.toArray⟩, .int .i64 T.n, .int .i64 T.at_] 40) := ⟨_, rfl⟩
        rw [← hW2]
        have hb7 : Blk W2 w2.heap.size (tkc T) 40 := by rw [hW2]; exact Blk.new w2 (tkc T) _
        have hcw : Chg [] w2 W2 := by rw [hW2]; exact (Chg.refl _ _).alloc _
        obtain ⟨b7, hb7e⟩ : ∃ b7, b7 = w2.heap.size := ⟨_, rfl⟩
        rw [← hb7e] at hb7 ⊢
        have HB7 := Lib.hid hb7
        have HCW := Lib.hid (HC2.out.trans hcw (by simp))
        have HOW : Hid (W2.ownsRow w1.heap.size 40 4 (.slice ao q cap) q ((pre.map Prod.fst).flatMap tkc)) := Lib.hid (by rw [HQ.out]; exact row_keptB HO2.out hcw)
        have hfar : ∀ k, (Value.slice ao q cap).ownBlock = some k → k ≠ b7 := fun k hk => by
         have := (owns_base HO2.out k (by rw [← HQ.out]; exact hk)).2
         omega
        have HFAR := Lib.hid hfar
        have p0 := hb7.cell (i := 0) rfl
        have p1 := hb7.cell (i := 1) rfl
        have p2 := hb7.cell (i := 2) rfl
        have p3 := hb7.cell (i := 3) rfl
        have lb7 := hb7.lt
        clear hW2 hb7 hcw hfar hb7e
        go_wp2_with (at_builtin; refine wpList_append_lies (W2.alloc (.cells (tkc T).toArray 40)) rfl (.tmp 35) (.tmp 37) 33 rfl w1.heap.size 40 i0 (.agg #[.int .i64 0, .string ⟨#[]⟩, .int .i64 0, .int .i64 0]) 4 40 Tryd.underlying33 hi hz0 hz1 hz2 rfl (by decide) (.slice ao q cap) q ((pre.map Prod.fst).flatMap tkc) rfl (row_keptB HOW.out ((Chg.refl _ _).alloc _)) ⟨W2.heap.size, 0, none⟩ 1 1 (tkc T) rfl rfl (fun j u hj => by rw [addr_add, Nat.zero_add]; exact (Blk.new W2 (tkc T) _).cell hj) (by intro u hu; simp [tkc] at hu; rcases hu with rfl | rfl | rfl | rfl <;> rfl) (by decide) (by unfold maxLen; omega) (by omega) (by have := HCW.out.size; simp; omega) _ rfl ?kk)
        case' kk => intro g9 cap9 w10 hown hgrow hat hlt10
        have c1 : w10.cell? ⟨b7, 1, none⟩ = some (.string ⟨T.text.toArray⟩) := (hgrow.cell_far ⟨b7, 1, none⟩ (by simp; omega) (fun e => HFAR.out _ e.symm rfl)).trans ((World.cell?_alloc_past _ b7 1 lb7).trans p1)
        have HC10 : Hid (Chg [] w1 w10) := Lib.hid ((HCW.out.alloc _).grown hgrow (fun k hk => .inr (owns_base HOW.out k hk).1))
        have HO10 : Hid (w10.ownsRow w1.heap.size 40 4 (.slice (some ⟨g9, 0, none⟩) (q + 1) cap9) (q + 1) ((pre.map Prod.fst).flatMap tkc ++ tkc T)) := Lib.hid hown
        clear hown hgrow hat p0 p1 p2 p3 n5
        have hss := HS.out
        go_wp2_with fail
        rw [HSB.out]
        refine (gap_spec _ s (by omega) ((e : Int) + (tl : Int)) (e + tl) (by omega) htle).mono ?_
        rintro _ w11 ⟨⟨j2, rfl, hj1, hj2, ha2, hsc2⟩, rfl⟩
        rw [← HSB.out]
        have HNEW : Hid (Lx.atTok s j2 ∧ Lx.sc 0 s = (pre ++ [(T, 0)]) ++ Lx.sc j2 (s.drop j2) ∧ Lx.good (pre ++ [(T, 0)]) = true ∧ (pre ++ [(T, 0)]).length ≤ 5000) := Lib.hid (by
         have h8 := hsc2 0
         rw [Nat.zero_add, Nat.zero_add] at h8
         refine ⟨ha2, ?_, ?_, ?_⟩
         · rw [← h8, List.append_assoc, List.singleton_append, HLEN.out.1, ← HH.out]
           exact HP.out.2.1
         · rw [Lx.good_iff]
           intro y hy
           rcases List.mem_append.1 hy with h | h
           · exact Lx.fst_good HP.out.2.2.1 y h
           · rw [List.mem_singleton.1 h]
         · rw [List.length_append, ← HQ.out]
           simp
           omega)
        have hpos := HLEN.out.2.2
        clear ha2 hsc2
        go_wp2_with fail
        refine ⟨⟨pre ++ [(T, 0)], j2, rfl, hj2, HNEW, Lib.hid ?_, HC10.out⟩, by simp [intOf]; omega⟩
        simp only [List.length_append, List.length_cons, List.length_nil, List.map_append, List.map_cons, List.map_nil, List.flatMap_append, List.flatMap_cons, List.flatMap_nil, List.append_nil]
        rw [← HQ.out]
        exact HO10.out
    · have n0 : ((er : Int) != 0) = true := bne_iff_ne.2 (by omega)
      have HFIN : Hid (R = ([], er, (e : Int))) := Lib.hid (by
       rw [HR.out, HP.out.2.1, HHERE.out, if_pos (by rw [← HER.out]; exact h0), Lx.fin_stop pre _ [] 0 [] (Lx.fst_good HP.out.2.2.1) (by have := HP.out.2.2.2; omega), if_pos (by rw [← HER.out]; exact h0), ← HER.out]
       rfl)
      go_wp2_with fail
      exact bodyPost_ret (v := .tuple #[.slice none 0 0, .int .i64 er, .int .i64 (e : Int)]) (by simp [results, Tryd.results25, go_sem]) rfl ⟨.slice none 0 0, by rw [HFIN.out], by rw [HFIN.out]; exact ⟨none, 0, rfl, Nat.le_refl _, fun i t h => by simp at h⟩, HC2.out.alloc _⟩
  · have q1 : ¬ (e : Int) < (sb.size : Int) := by rw [HSZ.out]; omega
    have HFIN : Hid (R = (pre.map Prod.fst, 0, 0)) := Lib.hid (by
     have he : s.drop e = [] := List.drop_eq_nil_of_le (by omega)
     rw [HR.out, HP.out.2.1, he, Lx.sc_nil, List.append_nil, Lx.fin_good pre 0 [] HP.out.2.2.1 (by have := HP.out.2.2.2; omega)]
     rfl)
    clear hq
    go_wp2_with fail
    exact bodyPost_ret (v := .tuple #[.slice ao pre.length cap, .int .i64 0, .int .i64 0]) (by simp [results, Tryd.results25, go_sem]) rfl ⟨.slice ao pre.length cap, by rw [HFIN.out]; rfl, by rw [HFIN.out]; exact toks_of_owns (by rw [List.length_map]; exact HO.out), HC.out⟩
theorem ref_spec (w : World) (s : Bytes) (hs : s.length ≤ 1000000) :
 Calls Tryd.prog 25 #[.string ⟨s.toArray⟩] w fun e w' => ∃ v, e = .returned (.tuple #[v, .int .i64 (Lx.lex s).2.1, .int .i64 (Lx.lex s).2.2]) ∧ TokS w' v (Lx.lex s).1 ∧ Chg [] w w' := by
 by_cases h : s.length ≤ 20000
 · exact ref_short w s h
 · refine (ref_long w s (by omega)).mono ?_
   rintro e w' ⟨rfl, rfl⟩
   have hl : Lx.lex s = ([], 3, -1) := by unfold Lx.lex; rw [if_pos (by omega)]
   rw [hl]
   exact ⟨_, rfl, ⟨none, 0, rfl, Nat.le_refl _, fun i t h => by simp at h⟩, Chg.refl _ _⟩
end Go.Proofs.YtocadlcglgpdcaaDoor
