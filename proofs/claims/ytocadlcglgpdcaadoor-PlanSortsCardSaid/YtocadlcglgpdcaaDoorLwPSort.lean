/-
  Plan, the law PlanSorts: the walk.
-/
import Derived.Test.YtocadlcglgpdcaaDoorPnZe
import Derived.Test.YtocadlcglgpdcaaDoorPoJ
namespace Go.Proofs.YtocadlcglgpdcaaDoor
set_option linter.unusedVariables false
set_option linter.unusedSimpArgs false
open Go Go.RowKit Go.Shelf
open Lx (Tk)
attribute [local go_sem ↓] Go.wp_at_zero Go.wp_at_succ
theorem count_r {w : World} {l : List Tk} {ao : Option Addr} {n cap : Nat} (HT : Hid (TokS w (.slice ao n cap) l)) (HN : Hid (l.length = n)) (hn : n ≤ 100000) {v : Value} {R : Ending → World → Prop} (h1 : Hid (Pn.CP l) → R (.returned (.int .i64 1)) w) (h2 : R (.returned (.int .i64 (-1))) w) :
    Calls Tryd.prog 17 #[.slice ao n cap, v] w R := by
  refine (count_spec w l ao n cap HT HN hn v).mono ?_
  rintro e w' ⟨h | h, rfl⟩
  · rw [h.2]
    exact h1 (Lib.hid h.1)
  · rw [h.2]
    exact h2
def txq (xs : List Bytes) : Bytes := Pn.H1 ++ xs.flatMap (fun x => 10 :: x)
theorem txq_len {xs : List Bytes} (h : ∀ x ∈ xs, x.length ≤ 200) (hl : xs.length ≤ 30) : (txq xs).length ≤ 6100 := by
  have h1 := Pn.txt_len h hl
  rw [← Pn.txt_eq] at h1
  unfold txq
  simp only [List.length_append] at h1 ⊢
  omega
theorem txq_snoc {xs : List Bytes} {j : Nat} {x : Bytes} (hx : xs[j]? = some x) {tb : ByteArray} (ht : tb = ⟨(txq (xs.take j)).toArray⟩) : tb ++ (⟨#[10]⟩ : ByteArray) ++ ⟨x.toArray⟩ = ⟨(txq (xs.take (j + 1))).toArray⟩ := by
  rw [take_snoc hx, ht]
  unfold txq
  apply ByteArray.ext
  apply Array.ext'
  simp
theorem txq_end {xs : List Bytes} {tb : ByteArray} (ht : tb = ⟨(txq xs).toArray⟩) : tb ++ (⟨#[10, 125, 32, 125]⟩ : ByteArray) = ⟨(Pn.txt xs).toArray⟩ := by
  rw [ht, ← Pn.txt_eq]
  unfold txq
  apply ByteArray.ext
  apply Array.ext'
  simp
theorem one_cat (x : Bytes) : (⟨#[104, 97, 108, 108, 32, 104, 32, 115, 116, 97, 103, 101, 32, 48, 32, 48, 32, 123, 32, 108, 101, 118, 101, 108, 32, 97, 32, 104, 101, 105, 103, 104, 116, 32, 48, 32, 123, 10]⟩ : ByteArray) ++ ⟨x.toArray⟩ ++ (⟨#[10, 125, 32, 125]⟩ : ByteArray) = ⟨(Pn.txt [x]).toArray⟩ := by
  rw [← Pn.txt_eq]
  apply ByteArray.ext
  apply Array.ext'
  simp [Pn.H1]
set_option maxHeartbeats 8000000 in
set_option maxRecDepth 100000 in
theorem planSorts_walk (w : World) (v : Value) (xs : List Bytes) (HV : Hid (Strs w v xs)) (HSM : Hid (Small xs)) (a : Nat) (ha : a < 256) :
    Calls Tryd.prog 8 #[v, .int .u8 (a : Int)] w fun e w' => e = .returned (.bool true) ∧ Chg [] w w' := by
  obtain ⟨ao, cap, rfl, hcap, -⟩ := HV.out
  obtain ⟨n, hn⟩ : ∃ n, xs.length = n := ⟨_, rfl⟩
  rw [hn] at HV hcap ⊢
  have HN := Lib.hid hn
  obtain ⟨ims, hims, mz0, mz1, mz2⟩ := info_parts info_str
  clear hn
  go_enter Tryd.func8, Tryd.ntmps8
  go_wp2_with fail
  refine (head_spec06 _).mono ?_
  rintro e w1 ⟨rfl, hc1⟩
  have HC1 := Lib.hid hc1
  clear hc1
  by_cases hl : n ≤ 30
  · have q1 : ¬ (30 : Int) < (n : Int) := by omega
    obtain ⟨k, hk⟩ : ∃ k, k = a % 5 := ⟨_, rfl⟩
    obtain ⟨word, hword⟩ : ∃ x, Pn.sortsL[k]? = some x := by
      have : k < Pn.sortsL.length := by rw [hk]; exact Nat.mod_lt _ (by decide)
      exact ⟨Pn.sortsL[k], by simp⟩
    have HWD := Lib.hid hword
    have hk5 : k < 5 := by omega
    have k1 : (a : Int) % 5 = (k : Int) := by omega
    have k2 : (0 : Int) ≤ (k : Int) := by omega
    have k3 : (k : Int) < 5 := by omega
    have k4 : ((k : Int)).toNat = k := by omega
    have HK := Lib.hid hk
    clear hword hk
    have hld : (w1.alloc (.cells #[.string ⟨#[98, 108, 111, 99, 107]⟩, .string ⟨#[97, 114, 101, 97]⟩, .string ⟨#[97, 105, 115, 108, 101]⟩, .string ⟨#[112, 105, 108, 108, 97, 114]⟩, .string ⟨#[100, 111, 111, 114]⟩] 9)).cell? ⟨w1.heap.size, k, none⟩ = some (.string ⟨word.toArray⟩) := (Blk.new w1 [.string ⟨#[98, 108, 111, 99, 107]⟩, .string ⟨#[97, 114, 101, 97]⟩, .string ⟨#[97, 105, 115, 108, 101]⟩, .string ⟨#[112, 105, 108, 108, 97, 114]⟩, .string ⟨#[100, 111, 111, 114]⟩] 9).cell (by
      have h : (Pn.sortsL.map (fun t : Bytes => Value.string ⟨t.toArray⟩))[k]? = some (.string ⟨word.toArray⟩) := by rw [List.getElem?_map, HWD.out]; rfl
      exact h)
    go_upto_region 5 with fail
    obtain ⟨W0, hW0⟩ : ∃ W, W = w1.alloc (.cells #[.string ⟨#[98, 108, 111, 99, 107]⟩, .string ⟨#[97, 114, 101, 97]⟩, .string ⟨#[97, 105, 115, 108, 101]⟩, .string ⟨#[112, 105, 108, 108, 97, 114]⟩, .string ⟨#[100, 111, 111, 114]⟩] 9) := ⟨_, rfl⟩
    rw [← hW0]
    have HC0 : Hid (Chg [] w W0) := Lib.hid (by rw [hW0]; exact HC1.out.alloc _)
    clear hW0 hld k1 k2 k3 k4
    obtain ⟨B, hB⟩ : ∃ B, B = W0.heap.size := ⟨_, rfl⟩
    have HB := Lib.hid hB
    clear hB
    obtain ⟨F, hF⟩ : ∃ F : Bytes → Bool, F = fun x => decide (Pn.headText (Lx.lex x).1 = word) := ⟨_, rfl⟩
    obtain ⟨G, hG⟩ : ∃ G : Bytes → Bool, G = fun x => !decide (Pn.headText (Lx.lex x).1 = word) := ⟨_, rfl⟩
    have HF := Lib.hid hF
    have HG := Lib.hid hG
    clear hF hG
    go_wp2_with fail
    go_loopw [7, 8, 9, 10, 11, 12, 13, 14, 15, 16] (fun fv rv tv iv _ _ _ _ _ _ wr => ∃ (j nf nr cf cr : Nat) (af ar : Option Addr) (tb : ByteArray), fv = .slice af nf cf ∧ rv = .slice ar nr cr ∧ tv = .string tb ∧ iv = .int .i64 (j : Int) ∧ j ≤ n ∧ Hid (Chg [] W0 wr) ∧ Hid (ListS B 9 1 Cst ((xs.take j).filter F) (.slice af nf cf) wr) ∧ Hid (ListS B 9 1 Cst ((xs.take j).filter G) (.slice ar nr cr) wr) ∧ Hid (Apart2 (.slice af nf cf) (.slice ar nr cr)) ∧ Hid (nf = ((xs.take j).filter F).length ∧ nr = ((xs.take j).filter G).length) ∧ Hid (tb = ⟨(txq (xs.take j)).toArray⟩) ∧ Hid (∀ x ∈ xs.take j, Pn.Okx x)) (fun _ _ _ iv _ _ _ _ _ _ _ => n - intN iv)
    case atStart => exact ⟨0, 0, 0, 0, 0, none, none, _, rfl, rfl, rfl, rfl, Nat.zero_le _, Lib.hid (Chg.refl _ _), Lib.hid (ListS.nil _ _ _ _ _), Lib.hid (ListS.nil _ _ _ _ _), Lib.hid (fun k hk => by cases hk), Lib.hid ⟨rfl, rfl⟩, Lib.hid (by rfl), Lib.hid (fun x hx => by simp at hx)⟩
    case round =>
      obtain ⟨j, nf, nr, cf, cr, af, ar, tb, rfl, rfl, rfl, rfl, hj, HCR, HLF, HLR, HAP, HNF, HTB, HOK⟩ := hrel
      by_cases hlt : j < n
      · obtain ⟨x, hx⟩ : ∃ x, xs[j]? = some x := ⟨xs[j]'(by rw [HN.out]; exact hlt), by simp⟩
        have HX := Lib.hid hx
        obtain ⟨ao', cap', hv, -, hst⟩ := HV.out
        obtain ⟨g, off, e1, e2⟩ := hst j x hx
        rw [HN.out] at hv
        simp only [Value.slice.injEq, true_and] at hv
        obtain ⟨rfl, rfl⟩ := hv
        subst e1
        have HE2 := Lib.hid e2
        have hcl : ∀ W, Chg [] w W → W.cell? ⟨g, off + j, none⟩ = some (.string ⟨x.toArray⟩) := fun W hc => cell_quiet hc HE2.out (by simp)
        have HCL := Lib.hid hcl
        have y0 := HCL.out wr (HC0.out.trans HCR.out (by simp))
        obtain ⟨xb, hxb⟩ : ∃ xb : ByteArray, xb = ⟨x.toArray⟩ := ⟨_, rfl⟩
        rw [← hxb] at y0
        have HXB := Lib.hid hxb
        have hxz : xb.size = x.length := hsize HXB
        have hxm : x.length ≤ 9223372036854775807 := HSM.out.2 x (List.mem_of_getElem? hx)
        have q0 : (0 : Int) ≤ (j : Int) := by omega
        have q2 : (j : Int) < (n : Int) := by omega
        have q3 : (j : Int) ≤ (cap : Int) := by omega
        have qj : ((j : Int)).toNat = j := by omega
        have hw2 : IntKind.i64.wrap ((j : Int) + 1) = ((j + 1 : Nat) : Int) := by rw [IntWalk.i64_in _ (by omega)]; omega
        clear hx hst e2 hcl hxb
        by_cases hxl : x.length ≤ 200
        · have p1 : ¬ (200 : Int) < (xb.size : Int) := by rw [hxz]; omega
          have HXL := Lib.hid hxl
          have HXZ := Lib.hid hxz
          clear hxl hxz hxm
          go_wp2_with fail
          refine lex_r (s := x) (by have := HXL.out; omega) HXB (fun ao3 n3 cap3 E0 A0 w2 HT2 HC2 HE0 => ?_)
          clear p1 y0
          have y1 := HCL.out w2 ((HC0.out.trans HCR.out (by simp)).trans HC2.out (by simp))
          rw [← HXB.out] at y1
          have hcat : (⟨#[104, 97, 108, 108, 32, 104, 32, 115, 116, 97, 103, 101, 32, 48, 32, 48, 32, 123, 32, 108, 101, 118, 101, 108, 32, 97, 32, 104, 101, 105, 103, 104, 116, 32, 48, 32, 123, 10]⟩ : ByteArray) ++ xb ++ (⟨#[10, 125, 32, 125]⟩ : ByteArray) = ⟨(Pn.txt [x]).toArray⟩ := by rw [HXB.out]; exact one_cat x
          have HCAT := Lib.hid hcat
          have u1 : ¬ 9223372036854775807 < 38 + xb.size := by rw [HXZ.out]; have := HXL.out; omega
          have u2 : ¬ 9223372036854775807 < 38 + xb.size + 4 := by rw [HXZ.out]; have := HXL.out; omega
          clear hcat
          go_wp2_with fail
          refine parse_hl (s := Pn.txt [x]) (by have h1 := Pn.txt_len (xs := [x]) (fun y hy => by simp at hy; rw [hy]; exact HXL.out) (by simp); omega) HCAT (fun h er A aoh nh caph w3 HPA HNL HL3 HC3 => ?_)
          clear u1 u2 y1
          go_upto_region 14 with fail
          obtain ⟨W3, hW3⟩ : ∃ W, W = w3.alloc (.cells #[.string ⟨h.name.toArray⟩, .int .i64 (h.sx : Nat), .int .i64 (h.sy : Nat), .slice aoh nh caph] 27) := ⟨_, rfl⟩
          rw [← hW3]
          have HCR3 : Hid (Chg [] wr W3) := Lib.hid ((HC2.out.trans HC3.out (by simp)).trans (by rw [hW3]; exact (Chg.refl [] w3).alloc _) (by simp))
          have HT3 : Hid (TokS W3 (.slice ao3 n3 cap3) (Lx.lex x).1) := Lib.hid (HT2.out.quiet (HC3.out.trans (by rw [hW3]; exact (Chg.refl [] w3).alloc _) (by simp)))
          have HCW3 : Hid (Chg [] W0 W3) := Lib.hid (HCR.out.trans HCR3.out (by simp))
          have HCX : Hid (Chg [] w W3) := Lib.hid (HC0.out.trans HCW3.out (by simp))
          clear hW3
          by_cases f1 : E0 = 0
          · have b1 : ((E0 : Int) != 0) = false := by rw [f1]; rfl
            by_cases f2 : er = 0
            · have b2 : ((er : Int) != 0) = false := by rw [f2]; rfl
              by_cases f3 : n3 = 0
              · have b3 : ((n3 : Int) == 0) = true := by rw [f3]; rfl
                clear f1 f2 f3
                go_wp2_with fail
                go_ret
                exact ⟨rfl, HCX.out⟩
              · have b3 : ((n3 : Int) == 0) = false := beq_eq_false_iff_ne.2 (by omega)
                have hn3 : n3 ≤ 100000 := by have h1 := Lx.lex_len x; have h2 := HE0.out.1; omega
                have HOX : Hid (Pn.CP (Lx.lex x).1 → Pn.Okx x) := Lib.hid (fun hcp => ⟨HXL.out, HE0.out.2.1.trans f1, by rw [HPA.out]; exact f2, by intro h9; apply f3; rw [← HE0.out.1, h9]; rfl, hcp⟩)
                obtain ⟨t, ht⟩ : ∃ t, (Lx.lex x).1[0]? = some t := ⟨(Lx.lex x).1[0]'(by rw [HE0.out.1]; omega), by simp⟩
                have HTT := Lib.hid ht
                have hn0 : (0 : Int) < (n3 : Int) := by omega
                clear f1 f2 f3 ht
                go_wp2_with fail
                refine count_r HT3 (Lib.hid HE0.out.1) hn3 (fun HCP => ?_) ?_
                · have HOX2 := Lib.hid (HOX.out HCP.out)
                  obtain ⟨g3, off3, e1, e2, e3, -, i1, -, -⟩ := HT3.out.get HTT.out
                  subst e1
                  have hc3 : (0 : Int) ≤ (cap3 : Int) := by omega
                  have i1' : W3.cell? ⟨g3, off3 + 1, none⟩ = some (.string ⟨t.text.toArray⟩) := by simpa using i1
                  have y2 := HCL.out W3 HCX.out
                  rw [← HXB.out] at y2
                  have htz : tb.size ≤ 6100 := by
                    rw [HTB.out, size_of]
                    exact txq_len (fun y hy => (HOK.out y hy).len) (by rw [List.length_take]; omega)
                  have u1 : ¬ 9223372036854775807 < tb.size + 1 := by omega
                  have u2 : ¬ 9223372036854775807 < tb.size + 1 + xb.size := by rw [HXZ.out]; have := HXL.out; omega
                  have HTB2 : Hid (tb ++ (⟨#[10]⟩ : ByteArray) ++ xb = ⟨(txq (xs.take (j + 1))).toArray⟩) := Lib.hid (by rw [HXB.out]; exact txq_snoc HX.out HTB.out)
                  have HOK2 : Hid (∀ y ∈ xs.take (j + 1), Pn.Okx y) := Lib.hid (fun y hy => by
                    rw [take_snoc HX.out] at hy
                    rcases List.mem_append.1 hy with hy | hy
                    · exact HOK.out y hy
                    · simp at hy
                      rw [hy]
                      exact HOX2.out)
                  have HFX : Hid (Pn.headText (Lx.lex x).1 = t.text) := Lib.hid (by
                    have h9 := HTT.out
                    cases hL : (Lx.lex x).1 with
                    | nil => rw [hL] at h9; cases h9
                    | cons t' r => rw [hL] at h9; cases h9; rfl)
                  have HLFk : Hid (ListS B 9 1 Cst ((xs.take j).filter F) (.slice af nf cf) (W3.alloc (.cells #[.string xb] 9))) := Lib.hid ((HLF.out.keep (kp_st _) HCR3.out (TyB.nil _ _ _)).keep (kp_st _) ((Chg.refl [] W3).alloc _) (TyB.nil _ _ _))
                  have HLRk : Hid (ListS B 9 1 Cst ((xs.take j).filter G) (.slice ar nr cr) (W3.alloc (.cells #[.string xb] 9))) := Lib.hid ((HLR.out.keep (kp_st _) HCR3.out (TyB.nil _ _ _)).keep (kp_st _) ((Chg.refl [] W3).alloc _) (TyB.nil _ _ _))
                  have HBS : Hid (B ≤ (W3.alloc (.cells #[.string xb] 9)).heap.size) := Lib.hid (by rw [HB.out]; exact (HCW3.out.alloc (.cells #[.string xb] 9)).size)
                  have HCK : Hid (Chg [] W0 (W3.alloc (.cells #[.string xb] 9))) := Lib.hid (HCW3.out.alloc _)
                  have hnf : nf ≤ 30 ∧ nr ≤ 30 := by
                    have h1 := HNF.out
                    have h2 := List.length_filter_le F (xs.take j)
                    have h3 := List.length_filter_le G (xs.take j)
                    rw [List.length_take] at h2 h3
                    omega
                  have hnf1 := hnf.1
                  have hnf2 := hnf.2
                  clear e2 e3 i1 hnf htz
                  by_cases hw : t.text = word
                  · have b5 : (t.text == word) = true := by rw [hw]; exact beq_self_eq_true _
                    have HFT : Hid (F x = true ∧ G x = false) := Lib.hid (by rw [HF.out, HG.out]; simp [HFX.out, hw])
                    clear hw
                    go_upto_region 18 with fail
                    go_wp2_with (at_builtin; refine wpList_snoc2 rfl (.tmp 100) (.tmp 105) 60 rfl 9 ims (.string ⟨#[]⟩) 1 16 Tryd.underlying60 hims mz0 mz1 mz2 rfl (by decide) (C := Cst) (Es := []) (.slice af nf cf) nf rfl HLFk.out HNF.out.1.symm (kp_st _) (by simp) x [.string xb] (by rw [HXB.out]; rfl) rfl (by intro u hu; simp at hu; rcases hu with rfl; rfl) W3.heap.size rfl (Blk.new W3 [.string xb] 9) (by unfold maxLen; omega) (by omega) HBS.out ?kk)
                    case kk =>
                      intro g' cap9 v8 hl8 hg h6 h7
                      obtain ⟨k5, k6⟩ := two_lists HLFk.out HLRk.out HAP.out hg (h6.imp_right fun h => by rw [h]; simp) rfl
                      have HL8 : Hid (ListS B 9 1 Cst ((xs.take (j + 1)).filter F) (.slice (some ⟨g', 0, none⟩) (nf + 1) cap9) v8) := Lib.hid (by
                        rw [take_snoc HX.out, List.filter_append, List.filter_cons_of_pos HFT.out.1]
                        exact hl8)
                      have HL9 : Hid (ListS B 9 1 Cst ((xs.take (j + 1)).filter G) (.slice ar nr cr) v8) := Lib.hid (by
                        rw [take_snoc HX.out, List.filter_append, List.filter_cons_of_neg (by simp [HFT.out.2])]
                        simpa using k5)
                      have HA9 : Hid (Apart2 (.slice (some ⟨g', 0, none⟩) (nf + 1) cap9) (.slice ar nr cr)) := Lib.hid k6
                      have HN9 : Hid (nf + 1 = ((xs.take (j + 1)).filter F).length ∧ nr = ((xs.take (j + 1)).filter G).length) := Lib.hid (by
                        rw [take_snoc HX.out, List.filter_append, List.filter_append, List.filter_cons_of_pos HFT.out.1, List.filter_cons_of_neg (by simp [HFT.out.2])]
                        have h1 := HNF.out
                        simp
                        exact h1)
                      have HC8 : Hid (Chg [] W0 v8) := Lib.hid (by
                        obtain ⟨css, -, -, h3⟩ := HLFk.out
                        exact HCK.out.grown hg (fun k hk => .inr (by rw [← HB.out]; exact own_ge h3 k hk)))
                      clear hl8 hg h6 h7 k5 k6
                      go_wp2_with fail
                      refine ⟨?_, by simp [intN]; omega⟩
                      first | exact ⟨j + 1, nf + 1, nr, cap9, cr, some ⟨g', 0, none⟩, ar, _, rfl, rfl, rfl, vintP (by omega), by omega, HC8, HL8, HL9, HA9, HN9, HTB2, HOK2⟩ | ((repeat apply Exists.intro); exact ⟨⟨j + 1, nf + 1, nr, cap9, cr, some ⟨g', 0, none⟩, ar, _, rfl, rfl, rfl, vintP (by omega), by omega, HC8, HL8, HL9, HA9, HN9, HTB2, HOK2⟩, rfl⟩)
                  · have b5 : (t.text == word) = false := beq_eq_false_iff_ne.2 hw
                    have HFT : Hid (F x = false ∧ G x = true) := Lib.hid (by rw [HF.out, HG.out]; simp [HFX.out, hw])
                    clear hw
                    go_upto_region 19 with fail
                    go_wp2_with (at_builtin; refine wpList_snoc2 rfl (.tmp 107) (.tmp 112) 60 rfl 9 ims (.string ⟨#[]⟩) 1 16 Tryd.underlying60 hims mz0 mz1 mz2 rfl (by decide) (C := Cst) (Es := []) (.slice ar nr cr) nr rfl HLRk.out HNF.out.2.symm (kp_st _) (by simp) x [.string xb] (by rw [HXB.out]; rfl) rfl (by intro u hu; simp at hu; rcases hu with rfl; rfl) W3.heap.size rfl (Blk.new W3 [.string xb] 9) (by unfold maxLen; omega) (by omega) HBS.out ?kk)
                    case kk =>
                      intro g' cap9 v8 hl8 hg h6 h7
                      obtain ⟨k5, k6⟩ := two_lists HLRk.out HLFk.out (fun k hk hk2 => HAP.out k hk2 hk) hg (h6.imp_right fun h => by rw [h]; simp) rfl
                      have HL8 : Hid (ListS B 9 1 Cst ((xs.take (j + 1)).filter G) (.slice (some ⟨g', 0, none⟩) (nr + 1) cap9) v8) := Lib.hid (by
                        rw [take_snoc HX.out, List.filter_append, List.filter_cons_of_pos HFT.out.2]
                        exact hl8)
                      have HL9 : Hid (ListS B 9 1 Cst ((xs.take (j + 1)).filter F) (.slice af nf cf) v8) := Lib.hid (by
                        rw [take_snoc HX.out, List.filter_append, List.filter_cons_of_neg (by simp [HFT.out.1])]
                        simpa using k5)
                      have HA9 : Hid (Apart2 (.slice af nf cf) (.slice (some ⟨g', 0, none⟩) (nr + 1) cap9)) := Lib.hid (fun k hk hk2 => k6 k hk2 hk)
                      have HN9 : Hid (nf = ((xs.take (j + 1)).filter F).length ∧ nr + 1 = ((xs.take (j + 1)).filter G).length) := Lib.hid (by
                        rw [take_snoc HX.out, List.filter_append, List.filter_append, List.filter_cons_of_pos HFT.out.2, List.filter_cons_of_neg (by simp [HFT.out.1])]
                        have h1 := HNF.out
                        simp
                        exact h1)
                      have HC8 : Hid (Chg [] W0 v8) := Lib.hid (by
                        obtain ⟨css, -, -, h3⟩ := HLRk.out
                        exact HCK.out.grown hg (fun k hk => .inr (by rw [← HB.out]; exact own_ge h3 k hk)))
                      clear hl8 hg h6 h7 k5 k6
                      go_wp2_with fail
                      refine ⟨?_, by simp [intN]; omega⟩
                      first | exact ⟨j + 1, nf, nr + 1, cf, cap9, af, some ⟨g', 0, none⟩, _, rfl, rfl, rfl, vintP (by omega), by omega, HC8, HL9, HL8, HA9, HN9, HTB2, HOK2⟩ | ((repeat apply Exists.intro); exact ⟨⟨j + 1, nf, nr + 1, cf, cap9, af, some ⟨g', 0, none⟩, _, rfl, rfl, rfl, vintP (by omega), by omega, HC8, HL9, HL8, HA9, HN9, HTB2, HOK2⟩, rfl⟩)
                · go_wp2_with fail
                  go_ret
                  exact ⟨rfl, HCX.out⟩
            · have b2 : ((er : Int) != 0) = true := bne_iff_ne.2 (by omega)
              clear f1 f2
              go_wp2_with fail
              go_ret
              exact ⟨rfl, HCX.out⟩
          · have b1 : ((E0 : Int) != 0) = true := bne_iff_ne.2 (by omega)
            clear f1
            go_wp2_with fail
            go_ret
            exact ⟨rfl, HCX.out⟩
        · have p1 : (200 : Int) < (xb.size : Int) := by rw [hxz]; omega
          clear hxl
          go_wp2_with fail
          go_ret
          exact ⟨rfl, HC0.out.trans HCR.out (by simp)⟩
      · have q2 : ¬ (j : Int) < (n : Int) := by omega
        have hjn : xs.take j = xs := List.take_of_length_le (by rw [HN.out]; omega)
        rw [hjn] at HLF HLR HNF HTB HOK
        have HCE : Hid (Chg [] w wr) := Lib.hid (HC0.out.trans HCR.out (by simp))
        obtain ⟨ys, hys⟩ : ∃ ys, ys = xs.filter F ++ xs.filter G := ⟨_, rfl⟩
        have HYS := Lib.hid hys
        have hyl : ys.length = nf + nr := by rw [hys, List.length_append, HNF.out.1, HNF.out.2]
        have hylen : ys.length ≤ 30 := by
          rw [hys, HF.out, HG.out]
          have h1 := HN.out
          have h2 : ∀ zs : List Bytes, (zs.filter (fun x => decide (Pn.headText (Lx.lex x).1 = word)) ++ zs.filter (fun x => !decide (Pn.headText (Lx.lex x).1 = word))).length = zs.length := fun zs => by
            rw [List.length_append]
            induction zs with
            | nil => rfl
            | cons z zs ih =>
              by_cases hf : Pn.headText (Lx.lex z).1 = word
              · rw [List.filter_cons_of_pos (by simp [hf]), List.filter_cons_of_neg (by simp [hf])]
                simp only [List.length_cons]
                omega
              · rw [List.filter_cons_of_neg (by simp [hf]), List.filter_cons_of_pos (by simp [hf])]
                simp only [List.length_cons]
                omega
          rw [h2]
          omega
        have hyo : ∀ y ∈ ys, Pn.Okx y := fun y hy => by
          rw [hys] at hy
          rcases List.mem_append.1 hy with hy | hy <;> exact HOK.out y (List.mem_filter.1 hy).1
        have HYO := Lib.hid hyo
        have HYL := Lib.hid (show ys.length = nf + nr ∧ ys.length ≤ 30 from ⟨hyl, hylen⟩)
        have HBZ : Hid (∀ (m : Nat) (b : ByteArray), b = ⟨(txq (ys.take m)).toArray⟩ → b.size ≤ 6100) := Lib.hid (fun m b hb => by
          rw [hb, size_of]
          exact txq_len (fun y hy => (HYO.out y (List.mem_of_mem_take hy)).len) (by rw [List.length_take]; have := HYL.out; omega))
        clear hjn hys hyl hylen hyo
        obtain ⟨V, hV⟩ : ∃ V, V = wr := ⟨_, rfl⟩
        subst hV
        go_wp2_with fail
        go_loopw [17, 18] (fun tv iv wr2 => ∃ (m : Nat) (ub : ByteArray), tv = .string ub ∧ iv = .int .i64 (m : Int) ∧ m ≤ nf ∧ Hid (ub = ⟨(txq (ys.take m)).toArray⟩) ∧ Hid (Chg [] V wr2)) (fun _ iv _ => nf - intN iv)
        case atStart => exact ⟨0, _, rfl, rfl, Nat.zero_le _, Lib.hid (by rfl), Lib.hid (Chg.refl _ _)⟩
        case round =>
          obtain ⟨m, ub, rfl, rfl, hm, HUB, HWQ⟩ := hrel
          by_cases hlm : m < nf
          · obtain ⟨y, hy⟩ : ∃ y, (xs.filter F)[m]? = some y := ⟨(xs.filter F)[m]'(by rw [← HNF.out.1]; exact hlm), by simp⟩
            obtain ⟨g2, c2, e1, e2, e3⟩ := str_get (HLF.out.keep (kp_st _) HWQ.out (TyB.nil _ _ _)) hy
            rw [← HNF.out.1] at e1 e2
            simp only [Value.slice.injEq, true_and] at e1
            obtain ⟨rfl, rfl⟩ := e1
            have hyy : ys[m]? = some y := by rw [HYS.out, List.getElem?_append_left (by rw [← HNF.out.1]; exact hlm)]; exact hy
            have hyz : y.length ≤ 200 := (HYO.out y (List.mem_of_getElem? hyy)).len
            have HCT : Hid (ub ++ (⟨#[10]⟩ : ByteArray) ++ ⟨y.toArray⟩ = ⟨(txq (ys.take (m + 1))).toArray⟩) := Lib.hid (txq_snoc hyy HUB.out)
            have hub := HBZ.out m ub HUB.out
            obtain ⟨yb, hyb⟩ : ∃ yb : ByteArray, yb = ⟨y.toArray⟩ := ⟨_, rfl⟩
            rw [← hyb] at e3 HCT
            have hybz : yb.size = y.length := by rw [hyb, size_of]
            have q0 : (0 : Int) ≤ (m : Int) := by omega
            have q2 : (m : Int) < (nf : Int) := by omega
            have q3 : (m : Int) ≤ (cf : Int) := by omega
            have qj : ((m : Int)).toNat = m := by omega
            have hw2 : IntKind.i64.wrap ((m : Int) + 1) = ((m + 1 : Nat) : Int) := by rw [IntWalk.i64_in _ (by have := HYL.out; omega)]; omega
            have u1 : ¬ 9223372036854775807 < ub.size + 1 := by omega
            have u2 : ¬ 9223372036854775807 < ub.size + 1 + yb.size := by omega
            clear hy hyy hyz hub hyb hybz e2
            go_wp2_with fail
            refine ⟨?_, by simp [intN]; omega⟩
            first | exact ⟨m + 1, _, rfl, vintP (by omega), by omega, HCT, HWQ⟩ | ((repeat apply Exists.intro); exact ⟨⟨m + 1, _, rfl, vintP (by omega), by omega, HCT, HWQ⟩, rfl⟩)
          · have q2 : ¬ (m : Int) < (nf : Int) := by omega
            have hmn : m = nf := by omega
            subst hmn
            go_wp2_with fail
            go_loopw [17, 19] (fun tv iv wr2 => ∃ (r : Nat) (ub : ByteArray), tv = .string ub ∧ iv = .int .i64 (r : Int) ∧ r ≤ nr ∧ Hid (ub = ⟨(txq (ys.take (m + r))).toArray⟩) ∧ Hid (Chg [] V wr2)) (fun _ iv _ => nr - intN iv)
            case atStart => exact ⟨0, ub, rfl, rfl, Nat.zero_le _, HUB, HWQ⟩
            case round =>
              obtain ⟨r, ub2, rfl, rfl, hr, HUB2, HWQ2⟩ := hrel
              by_cases hlr : r < nr
              · obtain ⟨y, hy⟩ : ∃ y, (xs.filter G)[r]? = some y := ⟨(xs.filter G)[r]'(by rw [← HNF.out.2]; exact hlr), by simp⟩
                obtain ⟨g2, c2, e1, e2, e3⟩ := str_get (HLR.out.keep (kp_st _) HWQ2.out (TyB.nil _ _ _)) hy
                rw [← HNF.out.2] at e1 e2
                simp only [Value.slice.injEq, true_and] at e1
                obtain ⟨rfl, rfl⟩ := e1
                have hyy : ys[m + r]? = some y := by rw [HYS.out, List.getElem?_append_right (by rw [← HNF.out.1]; omega), ← HNF.out.1, Nat.add_sub_cancel_left]; exact hy
                have hyz : y.length ≤ 200 := (HYO.out y (List.mem_of_getElem? hyy)).len
                have HCT : Hid (ub2 ++ (⟨#[10]⟩ : ByteArray) ++ ⟨y.toArray⟩ = ⟨(txq (ys.take (m + (r + 1)))).toArray⟩) := Lib.hid (txq_snoc hyy HUB2.out)
                have hub := HBZ.out (m + r) ub2 HUB2.out
                obtain ⟨yb, hyb⟩ : ∃ yb : ByteArray, yb = ⟨y.toArray⟩ := ⟨_, rfl⟩
                rw [← hyb] at e3 HCT
                have hybz : yb.size = y.length := by rw [hyb, size_of]
                have q0 : (0 : Int) ≤ (r : Int) := by omega
                have q2 : (r : Int) < (nr : Int) := by omega
                have q3 : (r : Int) ≤ (cr : Int) := by omega
                have qj : ((r : Int)).toNat = r := by omega
                have hw2 : IntKind.i64.wrap ((r : Int) + 1) = ((r + 1 : Nat) : Int) := by rw [IntWalk.i64_in _ (by have := HYL.out; omega)]; omega
                have u1 : ¬ 9223372036854775807 < ub2.size + 1 := by omega
                have u2 : ¬ 9223372036854775807 < ub2.size + 1 + yb.size := by omega
                clear hy hyy hyz hub hyb hybz e2
                go_wp2_with fail
                refine ⟨?_, by simp [intN]; omega⟩
                first | exact ⟨r + 1, _, rfl, vintP (by omega), by omega, HCT, HWQ2⟩ | ((repeat apply Exists.intro); exact ⟨⟨r + 1, _, rfl, vintP (by omega), by omega, HCT, HWQ2⟩, rfl⟩)
              · have q2 : ¬ (r : Int) < (nr : Int) := by omega
                have hrn : r = nr := by omega
                have hty : ys.take (m + r) = ys := List.take_of_length_le (by have := HYL.out; omega)
                have hub := HBZ.out (m + r) ub2 HUB2.out
                rw [hty] at HUB2
                have htbz : tb.size ≤ 6100 := by
                  rw [HTB.out, size_of]
                  exact txq_len (fun y hy => (HOK.out y hy).len) (by rw [HN.out]; exact hl)
                have HE1 : Hid (tb ++ (⟨#[10, 125, 32, 125]⟩ : ByteArray) = ⟨(Pn.txt xs).toArray⟩) := Lib.hid (txq_end HTB.out)
                have HE2 : Hid (ub2 ++ (⟨#[10, 125, 32, 125]⟩ : ByteArray) = ⟨(Pn.txt ys).toArray⟩) := Lib.hid (txq_end HUB2.out)
                have u1 : ¬ 9223372036854775807 < tb.size + 4 := by omega
                have u2 : ¬ 9223372036854775807 < ub2.size + 4 := by omega
                have HZX : Hid ((Pn.txt xs).length ≤ 1000000 ∧ (Pn.txt ys).length ≤ 1000000) := Lib.hid (by
                  have h1 := Pn.txt_len (fun y hy => (HOK.out y hy).len) (by rw [HN.out]; exact hl)
                  have h2 := Pn.txt_len (fun y hy => (HYO.out y hy).len) HYL.out.2
                  omega)
                have HLAW : Hid (((Pn.parse (Pn.txt xs)).2.1 = (Pn.parse (Pn.txt ys)).2.1 ∧ SimH false (Pn.parse (Pn.txt xs)).1 (Pn.parse (Pn.txt ys)).1)) := Lib.hid (Pn.sorts_law (word := word) HOK.out (by rw [HN.out]; exact hl) (by rw [HYS.out, HF.out, HG.out]))
                clear hub htbz hty hrn
                go_wp2_with fail
                refine parse_hl (s := Pn.txt xs) HZX.out.1 HE1 (fun h er A aoh nh caph w5 HPA HNL HL5 HC5 => ?_)
                clear u1
                go_upto_region 30 with fail
                obtain ⟨W5, hW⟩ : ∃ W, W = w5.alloc (.cells #[.string ⟨h.name.toArray⟩, .int .i64 (h.sx : Nat), .int .i64 (h.sy : Nat), .slice aoh nh caph] 27) := ⟨_, rfl⟩
                rw [← hW]
                obtain ⟨H, hH⟩ : ∃ H, H = w5.heap.size := ⟨_, rfl⟩
                rw [← hH]
                have HHB : Hid (Blk W5 H [.string ⟨h.name.toArray⟩, .int .i64 (h.sx : Nat), .int .i64 (h.sy : Nat), .slice aoh nh caph] 27) := Lib.hid (by rw [hW, hH]; exact Blk.new w5 _ _)
                have HW5 : Hid (Chg [] w5 W5) := Lib.hid (by rw [hW]; exact (Chg.refl [] w5).alloc _)
                clear hW hH
                go_wp2_with fail
                refine parse_hl (s := Pn.txt ys) HZX.out.2 HE2 (fun h7 er7 A7 ao7 n7 cap7 w7 HPA7 HNL7 HL7 HC7 => ?_)
                clear u2
                go_upto_region 31 with fail
                obtain ⟨W7, hW⟩ : ∃ W, W = w7.alloc (.cells #[.string ⟨h7.name.toArray⟩, .int .i64 (h7.sx : Nat), .int .i64 (h7.sy : Nat), .slice ao7 n7 cap7] 27) := ⟨_, rfl⟩
                rw [← hW]
                obtain ⟨H7, hH⟩ : ∃ H, H = w7.heap.size := ⟨_, rfl⟩
                rw [← hH]
                have HHB7 : Hid (Blk W7 H7 [.string ⟨h7.name.toArray⟩, .int .i64 (h7.sx : Nat), .int .i64 (h7.sy : Nat), .slice ao7 n7 cap7] 27) := Lib.hid (by rw [hW, hH]; exact Blk.new w7 _ _)
                have HW7 : Hid (Chg [] w7 W7) := Lib.hid (by rw [hW]; exact (Chg.refl [] w7).alloc _)
                have HC57 : Hid (Chg [] W5 W7) := Lib.hid (HC7.out.trans HW7.out (by simp))
                have HCE7 : Hid (Chg [] w W7) := Lib.hid ((((HCE.out.trans HWQ2.out (by simp)).trans HC5.out (by simp)).trans HW5.out (by simp)).trans HC57.out (by simp))
                clear hW hH
                have hlaw := HLAW.out
                rw [HPA.out, HPA7.out] at hlaw
                obtain ⟨hl1, hl2⟩ := hlaw
                have he7 : er7 = er := hl1.symm
                subst he7
                have HS : Hid (SimH false h h7) := Lib.hid hl2
                have b0 : ((er7 : Int) == (er7 : Int)) = true := beq_self_eq_true _
                have x0 := (HC57.out.blk HHB.out (by simp)).cell (i := 0) rfl
                have x1 := (HC57.out.blk HHB.out (by simp)).cell (i := 1) rfl
                have x2 := (HC57.out.blk HHB.out (by simp)).cell (i := 2) rfl
                have x3 := (HC57.out.blk HHB.out (by simp)).cell (i := 3) rfl
                have y0 := HHB7.out.cell (i := 0) rfl
                have y1 := HHB7.out.cell (i := 1) rfl
                have y2 := HHB7.out.cell (i := 2) rfl
                have y3 := HHB7.out.cell (i := 3) rfl
                clear hl1 hl2
                go_wp2_with fail
                refine same_r (p := h) (q := h7) HS HNL HNL7 (Lib.hid (HL5.out.keep (kp_lv _) (HW5.out.trans HC57.out (by simp)) (TyB.nil _ _ _))) (Lib.hid (HL7.out.keep (kp_lv _) HW7.out (TyB.nil _ _ _))) (fun w8 hc8 => ?_)
                have HC8 := Lib.hid hc8
                clear hc8 x0 x1 x2 x3 y0 y1 y2 y3
                go_wp2_with fail
                go_ret
                exact ⟨rfl, HCE7.out.trans HC8.out (by simp)⟩
  · have q1 : (30 : Int) < (n : Int) := by omega
    go_wp2_with fail
    go_ret
    exact ⟨rfl, HC1.out⟩
end Go.Proofs.YtocadlcglgpdcaaDoor
