/-
  Plan, the law PlanGaps: the walk.
-/
import Derived.Test.YtocadlcglgpdcaaDoorPnZc
namespace Go.Proofs.YtocadlcglgpdcaaDoor
set_option linter.unusedVariables false
set_option linter.unusedSimpArgs false
open Go Go.RowKit Go.Shelf
open Lx (Tk)
attribute [local go_sem ↓] Go.wp_at_zero Go.wp_at_succ
theorem Pn.parse_lexbad {s : Bytes} (h : (Lx.lex s).2.1 ≠ 0) : Pn.parse s = (Pn.hl0, (Lx.lex s).2.1, (Lx.lex s).2.2) := by
  unfold Pn.parse
  rw [if_pos h]
theorem spaced_r {w : World} {l : List Tk} (hl : (Lx.spc l).length ≤ 100000) {ao : Option Addr} {n cap : Nat} (HT : Hid (TokS w (.slice ao n cap) l)) (HN : Hid (l.length = n)) (hn : n ≤ 100000) {R : Ending → World → Prop}
    (h : ∀ (mb : ByteArray) (vo : Option Addr) (vc : Nat) (w' : World), Hid (mb = ⟨(Lx.spc l).toArray⟩) → Hid (ListS w.heap.size 3 1 Cn (ats l n) (.slice vo n vc) w') → Hid (Chg [] w w') → R (.returned (.tuple #[.string mb, .slice vo n vc])) w') :
    Calls Tryd.prog 14 #[.slice ao n cap] w R := by
  refine (spaced_spec w l hl ao n cap HT HN hn).mono ?_
  rintro e w' ⟨vo, vc, rfl, h1, h2⟩
  exact h _ vo vc w' (Lib.hid rfl) (Lib.hid h1) (Lib.hid h2)
set_option maxHeartbeats 4000000 in
set_option maxRecDepth 100000 in
theorem planGaps_walk (w : World) (s : Bytes) (hs0 : s.length ≤ 9223372036854775807) :
    Calls Tryd.prog 4 #[.string ⟨s.toArray⟩] w fun e w' => e = .returned (.bool true) ∧ Chg [] w w' := by
  obtain ⟨sb, hsb⟩ : ∃ sb : ByteArray, sb = ⟨s.toArray⟩ := ⟨_, rfl⟩
  rw [← hsb]
  have HSB := Lib.hid hsb
  have hsz := hsize HSB
  clear hsb
  go_enter Tryd.func4, Tryd.ntmps4
  go_wp2_with fail
  refine (head_spec06 _).mono ?_
  rintro e w1 ⟨rfl, hc1⟩
  have HC1 := Lib.hid hc1
  clear hc1
  by_cases hl : s.length ≤ 2000
  · have q1 : ¬ (2000 : Int) < (sb.size : Int) := by rw [hsz]; omega
    have HL := Lib.hid hl
    have HZ := Lib.hid hsz
    clear hl hs0 hsz
    go_wp2_with fail
    refine lex_r (by have := HL.out; omega) HSB (fun ao3 n3 cap3 E0 A0 w2 HT2 HC2 HE0 => ?_)
    clear q1
    go_wp2_with fail
    refine parse_hl (by have := HL.out; omega) HSB (fun h er A ao n cap w3 HPA HNL HL3 HC3 => ?_)
    go_upto_region 6 with fail
    obtain ⟨W, hW⟩ : ∃ W, W = w3.alloc (.cells #[.string ⟨h.name.toArray⟩, .int .i64 (h.sx : Nat), .int .i64 (h.sy : Nat), .slice ao n cap] 27) := ⟨_, rfl⟩
    rw [← hW]
    obtain ⟨H, hH⟩ : ∃ H, H = w3.heap.size := ⟨_, rfl⟩
    rw [← hH]
    have HHB : Hid (Blk W H [.string ⟨h.name.toArray⟩, .int .i64 (h.sx : Nat), .int .i64 (h.sy : Nat), .slice ao n cap] 27) := Lib.hid (by rw [hW, hH]; exact Blk.new w3 _ _)
    have HW3 : Hid (Chg [] w3 W) := Lib.hid (by rw [hW]; exact (Chg.refl [] w3).alloc _)
    have HCW : Hid (Chg [] w W) := Lib.hid (((HC1.out.trans HC2.out (by simp)).trans HC3.out (by simp)).trans HW3.out (by simp))
    clear hW hH
    by_cases h0 : E0 = 0
    · have n0 : ((E0 : Int) != 0) = false := by subst h0; rfl
      have hlex := HE0.out.2.1.trans h0
      obtain ⟨a1, a2, a3⟩ := Pn.gaps_law hlex HL.out
      have hspl := (Lx.lex_spc hlex HL.out).1
      have hn3 : n3 ≤ 100000 := by have h1 := Lx.lex_len s; have h2 := HE0.out.1; omega
      obtain ⟨m, hm⟩ : ∃ m, m = Lx.spc (Lx.lex s).1 := ⟨_, rfl⟩
      rw [← hm] at a1 a2 a3
      have HM := Lib.hid hm
      have HA1 := Lib.hid a1
      have HA2 := Lib.hid a2
      have HA3 := Lib.hid a3
      have HSPL := Lib.hid hspl
      have HTW : Hid (TokS W (.slice ao3 n3 cap3) (Lx.lex s).1) := Lib.hid (HT2.out.quiet (HC3.out.trans HW3.out (by simp)))
      clear h0 hlex a1 a2 a3 hm hspl
      go_wp2_with fail
      refine spaced_r (l := (Lx.lex s).1) (by have := HSPL.out; omega) HTW (Lib.hid HE0.out.1) hn3 (fun mb vo vc w4 HMB HLN HC4 => ?_)
      have HMB' : Hid (mb = ⟨m.toArray⟩) := Lib.hid (by rw [HM.out]; exact HMB.out)
      have hmz := hsize HMB'
      have HMZ := Lib.hid hmz
      clear hmz
      go_wp2_with fail
      refine parse_hl (s := m) (by rw [HM.out]; have := HSPL.out; omega) HMB' (fun h5 er5 A5 ao5 n5 cap5 w5 HPA5 HNL5 HL5 HC5 => ?_)
      go_upto_region 10 with fail
      obtain ⟨V, hV⟩ : ∃ V, V = w5.alloc (.cells #[.string ⟨h5.name.toArray⟩, .int .i64 (h5.sx : Nat), .int .i64 (h5.sy : Nat), .slice ao5 n5 cap5] 27) := ⟨_, rfl⟩
      rw [← hV]
      obtain ⟨G, hG⟩ : ∃ G, G = w5.heap.size := ⟨_, rfl⟩
      rw [← hG]
      have HGB : Hid (Blk V G [.string ⟨h5.name.toArray⟩, .int .i64 (h5.sx : Nat), .int .i64 (h5.sy : Nat), .slice ao5 n5 cap5] 27) := Lib.hid (by rw [hV, hG]; exact Blk.new w5 _ _)
      have HV5 : Hid (Chg [] w5 V) := Lib.hid (by rw [hV]; exact (Chg.refl [] w5).alloc _)
      have HWV : Hid (Chg [] W V) := Lib.hid ((HC4.out.trans HC5.out (by simp)).trans HV5.out (by simp))
      have HCV : Hid (Chg [] w V) := Lib.hid (HCW.out.trans HWV.out (by simp))
      have HHV := Lib.hid (HWV.out.blk HHB.out (by simp))
      have HLV := Lib.hid (HL3.out.keep (kp_lv _) (HW3.out.trans HWV.out (by simp)) (TyB.nil _ _ _))
      have HLV5 := Lib.hid (HL5.out.keep (kp_lv _) HV5.out (TyB.nil _ _ _))
      have HLNV := Lib.hid (HLN.out.keep (kp_n _) (HC5.out.trans HV5.out (by simp)) (TyB.nil _ _ _))
      have HTV : Hid (TokS V (.slice ao3 n3 cap3) (Lx.lex s).1) := Lib.hid (HTW.out.quiet HWV.out)
      clear hV hG
      have hA1 := HA1.out
      have hA2 := HA2.out
      have hA3 := HA3.out
      rw [HPA.out, HPA5.out] at hA1 hA2 hA3
      have he5 : er5 = er := hA1.symm
      subst he5
      have HS : Hid (SimH false h h5) := Lib.hid hA2
      have HA4 := Lib.hid hA3
      have b0 : ((er5 : Int) != (er5 : Int)) = false := by simp
      have x0 := HHV.out.cell (i := 0) rfl
      have x1 := HHV.out.cell (i := 1) rfl
      have x2 := HHV.out.cell (i := 2) rfl
      have x3 := HHV.out.cell (i := 3) rfl
      have y0 := HGB.out.cell (i := 0) rfl
      have y1 := HGB.out.cell (i := 1) rfl
      have y2 := HGB.out.cell (i := 2) rfl
      have y3 := HGB.out.cell (i := 3) rfl
      clear hA1 hA2 hA3
      go_wp2_with fail
      refine same_r (p := h) (q := h5) HS HNL HNL5 HLV HLV5 (fun w6 hc6 => ?_)
      have HC6 := Lib.hid hc6
      have HCE : Hid (Chg [] w w6) := Lib.hid (HCV.out.trans hc6 (by simp))
      clear hc6 x0 x1 x2 x3 y0 y1 y2 y3
      by_cases g0 : er5 = 0
      · have b1 : ((er5 : Int) == 0) = true := by rw [g0]; rfl
        have hz : A = 0 ∧ A5 = 0 := by
          rcases HA4.out with ⟨_, h2, h3⟩ | ⟨h1, _⟩ | ⟨h1, _⟩
          · exact ⟨h2, h3⟩
          · exact absurd (show er5 = 7 from h1) (by omega)
          · exact absurd (show er5 = 4 from h1) (by omega)
        obtain ⟨rfl, rfl⟩ := hz
        clear g0
        go_wp2_with fail
        go_ret
        exact ⟨rfl, HCE.out⟩
      · have b1 : ((er5 : Int) == 0) = false := beq_eq_false_iff_ne.2 (by omega)
        by_cases g7 : er5 = 7
        · have b2 : ((er5 : Int) == 7) = true := by rw [g7]; rfl
          have hz : A = (s.length : Int) ∧ A5 = (m.length : Int) := by
            rcases HA4.out with ⟨h1, _⟩ | ⟨_, h2, h3⟩ | ⟨h1, _⟩
            · exact absurd (show er5 = 0 from h1) (by omega)
            · exact ⟨h2, h3⟩
            · exact absurd (show er5 = 4 from h1) (by omega)
          obtain ⟨rfl, rfl⟩ := hz
          have hsz := HZ.out
          have hmz := HMZ.out
          clear g0 g7
          go_wp2_with fail
          go_ret
          exact ⟨rfl, HCE.out⟩
        · have b2 : ((er5 : Int) == 7) = false := beq_eq_false_iff_ne.2 (by omega)
          have hz : ∃ k u, (Lx.lex s).1[k]? = some u ∧ A = (u.at_ : Int) ∧ A5 = ((Lx.spc ((Lx.lex s).1.take k)).length : Int) := by
            rcases HA4.out with ⟨h1, _⟩ | ⟨h1, _⟩ | ⟨_, h2⟩
            · exact absurd (show er5 = 0 from h1) (by omega)
            · exact absurd (show er5 = 7 from h1) (by omega)
            · exact h2
          obtain ⟨k, u, hu, rfl, rfl⟩ := hz
          have HTK : Hid (∀ i t, (Lx.lex s).1[i]? = some t → (t.at_ = u.at_ ↔ i = k)) := Lib.hid (fun i t ht => rising_at (Lx.lex_rising s) hu ht)
          have hkn : k < n3 := by rw [← HE0.out.1]; exact (List.getElem?_eq_some_iff.1 hu).1
          obtain ⟨at9, hat⟩ : ∃ a, u.at_ = a := ⟨_, rfl⟩
          obtain ⟨z9, hz9⟩ : ∃ a, a = (Lx.spc ((Lx.lex s).1.take k)).length := ⟨_, rfl⟩
          rw [hat] at HTK ⊢
          rw [← hz9]
          have HAT : Hid ((ats (Lx.lex s).1 n3)[k]? = some z9) := Lib.hid (by rw [hz9]; exact ats_get _ hkn)
          clear g0 g7 hu hat hz9
          go_wp2_with fail
          go_loopw [15] (fun i wr => ∃ j : Nat, i = .int .i64 (j : Int) ∧ j ≤ k ∧ Hid (Chg [] w6 wr)) (fun i _ => n3 - (intN i))
          case atStart => exact ⟨0, rfl, Nat.zero_le _, Lib.hid (Chg.refl _ _)⟩
          case round =>
            obtain ⟨j, rfl, hj, HCR⟩ := hrel
            have HC7 : Hid (Chg [] V wr) := Lib.hid (HC6.out.trans HCR.out (by simp))
            have hlt : j < n3 := by omega
            obtain ⟨t, ht⟩ : ∃ t, (Lx.lex s).1[j]? = some t := ⟨(Lx.lex s).1[j]'(by rw [HE0.out.1]; exact hlt), by simp⟩
            obtain ⟨g, off, e1, e2, e3, k0, k1, k2, k3⟩ := (HTV.out.quiet HC7.out).get ht
            have q0 : (0 : Int) ≤ (j : Int) := by omega
            have q1 : (j : Int) < (n3 : Int) := by omega
            have q2 : (j : Int) ≤ (cap3 : Int) := by omega
            have qj : ((j : Int)).toNat = j := by omega
            have hw2 : IntKind.i64.wrap ((j : Int) + 1) = ((j + 1 : Nat) : Int) := by rw [IntWalk.i64_in _ (by omega)]; omega
            subst e1
            by_cases hjk : j = k
            · have hta := (HTK.out j t ht).2 hjk
              have b3 : ((t.at_ : Int) == (at9 : Int)) = true := by rw [hta]; exact beq_self_eq_true _
              obtain ⟨g2, c2, f1, f2, f3⟩ := num_get (HLNV.out.keep (kp_n _) HC7.out (TyB.nil _ _ _)) (hjk ▸ HAT.out)
              rw [ats_len] at f1 f2
              simp only [Value.slice.injEq, true_and] at f1
              obtain ⟨rfl, rfl⟩ := f1
              have q3 : (j : Int) ≤ (vc : Int) := by omega
              clear ht hta e2 e3 hjk f2
              go_wp2_with fail
              go_ret
              exact ⟨rfl, HCE.out.trans HCR.out (by simp)⟩
            · have b3 : ((t.at_ : Int) == (at9 : Int)) = false := beq_eq_false_iff_ne.2 (fun h => hjk ((HTK.out j t ht).1 (by omega)))
              have hj2 : j + 1 ≤ k := by omega
              clear ht e2 e3 hjk
              go_wp2_with fail
              refine ⟨?_, by simp [intN]; omega⟩
              first | exact ⟨j + 1, vintP (by omega), hj2, HCR⟩ | ((repeat apply Exists.intro); exact ⟨⟨j + 1, vintP (by omega), hj2, HCR⟩, rfl⟩)
    · have n0 : ((E0 : Int) != 0) = true := bne_iff_ne.2 (by omega)
      have hb : er = E0 := by
        have h1 := Pn.parse_lexbad (s := s) (by rw [HE0.out.2.1]; exact h0)
        rw [HPA.out, HE0.out.2.1] at h1
        exact congrArg (fun x => x.2.1) h1
      subst hb
      have b0 : ((er : Int) == (er : Int)) = true := beq_self_eq_true _
      clear h0
      go_wp2_with fail
      go_ret
      exact ⟨rfl, HCW.out⟩
  · have q1 : (2000 : Int) < (sb.size : Int) := by rw [hsz]; omega
    go_wp2_with fail
    go_ret
    exact ⟨rfl, HC1.out⟩
end Go.Proofs.YtocadlcglgpdcaaDoor
