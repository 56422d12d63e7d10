/-
  Layer 4: the examples of the chapter hold (head).
-/
import Derived.Test.YtpeehlflhnhhjaaDoorTrK
namespace Go.Proofs.YtpeehlflhnhhjaaDoor
set_option linter.unusedVariables false
set_option linter.unusedSimpArgs false
open Go Go.RowKit Go.Shelf

namespace Tr
def la : Bytes := leaf [97]
def lb : Bytes := leaf [98]
def lc : Bytes := leaf [99]
def nab : Bytes := node la lb
def rt : Bytes := node nab lc
theorem root_abc : root [[97], [98], [99]] = rt := rfl
theorem root_a : root [[97]] = la := rfl
theorem path_2 : path [[97], [98], [99]] 2 = [nab] := rfl
theorem path_0 : path [[97], [98], [99]] 0 = [lb, lc] := rfl
theorem la_lb : (la == lb) = false := by decide +kernel
theorem check_1 : check rt ((3 : Nat) : Int) ((2 : Nat) : Int) [99] [nab] = true := by decide +kernel
theorem check_2 : check rt ((3 : Nat) : Int) ((2 : Nat) : Int) [98] [nab] = false := by decide +kernel
theorem check_3 : check rt ((3 : Nat) : Int) ((1 : Nat) : Int) [99] [nab] = false := by decide +kernel
end Tr
theorem leaf_a (w : World) (HL : Hid (Laid w)) : Calls Tryd.prog 20 #[.string ⟨#[97]⟩] w fun e w' => e = .returned (.string ⟨Tr.la.toArray⟩) ∧ Chg [] w w' := leaf_spec w HL [97] (by decide)
theorem leaf_b (w : World) (HL : Hid (Laid w)) : Calls Tryd.prog 20 #[.string ⟨#[98]⟩] w fun e w' => e = .returned (.string ⟨Tr.lb.toArray⟩) ∧ Chg [] w w' := leaf_spec w HL [98] (by decide)
theorem leaf_c (w : World) (HL : Hid (Laid w)) : Calls Tryd.prog 20 #[.string ⟨#[99]⟩] w fun e w' => e = .returned (.string ⟨Tr.lc.toArray⟩) ∧ Chg [] w w' := leaf_spec w HL [99] (by decide)
theorem leaf_le (t : Bytes) : (Tr.leaf t).length ≤ 1000000 := by rw [Tr.leaf_len]; decide
theorem node_le (a b : Bytes) : (Tr.node a b).length ≤ 1000000 := by rw [Tr.node_len]; decide
theorem node_ab (w : World) (HL : Hid (Laid w)) : Calls Tryd.prog 19 #[.string ⟨Tr.la.toArray⟩, .string ⟨Tr.lb.toArray⟩] w fun e w' => e = .returned (.string ⟨Tr.nab.toArray⟩) ∧ Chg [] w w' := node_spec w HL _ _ (leaf_le _) (leaf_le _)
theorem node_rt (w : World) (HL : Hid (Laid w)) : Calls Tryd.prog 19 #[.string ⟨Tr.nab.toArray⟩, .string ⟨Tr.lc.toArray⟩] w fun e w' => e = .returned (.string ⟨Tr.rt.toArray⟩) ∧ Chg [] w w' := node_spec w HL _ _ (node_le _ _) (leaf_le _)
theorem abc_small : ∀ x ∈ ([[97], [98], [99]] : List Bytes), x.length ≤ 1000000 := by decide
theorem root_abc_spec (w : World) (HL : Hid (Laid w)) (v : Value) (HV : Hid (Strs w v [[97], [98], [99]])) : Calls Tryd.prog 13 #[v] w fun e w' => e = .returned (.string ⟨Tr.rt.toArray⟩) ∧ Chg [] w w' := root_cons w HL v _ HV (by decide) (by decide) (Lib.hid abc_small)
theorem root_a_spec (w : World) (HL : Hid (Laid w)) (v : Value) (HV : Hid (Strs w v [[97]])) : Calls Tryd.prog 13 #[v] w fun e w' => e = .returned (.string ⟨Tr.la.toArray⟩) ∧ Chg [] w w' := root_cons w HL v _ HV (by decide) (by decide) (Lib.hid (by decide))
theorem path_2_spec (w : World) (HL : Hid (Laid w)) (v : Value) (HV : Hid (Strs w v [[97], [98], [99]])) : Calls Tryd.prog 11 #[v, .int .i64 2] w fun e w' => (∃ u, e = .returned (.tuple #[u, .int .i64 0]) ∧ Strs w' u [Tr.nab]) ∧ Chg [] w w' := path_in w HL v _ HV (by decide) (Lib.hid abc_small) 2 (by decide)
theorem path_0_spec (w : World) (HL : Hid (Laid w)) (v : Value) (HV : Hid (Strs w v [[97], [98], [99]])) : Calls Tryd.prog 11 #[v, .int .i64 0] w fun e w' => (∃ u, e = .returned (.tuple #[u, .int .i64 0]) ∧ Strs w' u [Tr.lb, Tr.lc]) ∧ Chg [] w w' := path_in w HL v _ HV (by decide) (Lib.hid abc_small) 0 (by decide)
theorem nab_small : ∀ x ∈ [Tr.nab], x.length ≤ 1000000 := by
  intro x hx
  simp at hx
  rw [hx]
  exact node_le _ _
theorem check_1_spec (w : World) (HL : Hid (Laid w)) (v : Value) (HV : Hid (Strs w v [Tr.nab])) : Calls Tryd.prog 16 #[.string ⟨Tr.rt.toArray⟩, .int .i64 3, .int .i64 2, .string ⟨#[99]⟩, v] w fun e w' => e = .returned (.bool true) ∧ Chg [] w w' := by
  have h := check_in w HL Tr.rt [99] 3 2 _ v HV (by decide) (by decide) (Lib.hid nab_small) (by decide) (by decide)
  rw [Tr.check_1] at h
  exact h
theorem check_2_spec (w : World) (HL : Hid (Laid w)) (v : Value) (HV : Hid (Strs w v [Tr.nab])) : Calls Tryd.prog 16 #[.string ⟨Tr.rt.toArray⟩, .int .i64 3, .int .i64 2, .string ⟨#[98]⟩, v] w fun e w' => e = .returned (.bool false) ∧ Chg [] w w' := by
  have h := check_in w HL Tr.rt [98] 3 2 _ v HV (by decide) (by decide) (Lib.hid nab_small) (by decide) (by decide)
  rw [Tr.check_2] at h
  exact h
theorem check_3_spec (w : World) (HL : Hid (Laid w)) (v : Value) (HV : Hid (Strs w v [Tr.nab])) : Calls Tryd.prog 16 #[.string ⟨Tr.rt.toArray⟩, .int .i64 3, .int .i64 1, .string ⟨#[99]⟩, v] w fun e w' => e = .returned (.bool false) ∧ Chg [] w w' := by
  have h := check_in w HL Tr.rt [99] 3 1 _ v HV (by decide) (by decide) (Lib.hid nab_small) (by decide) (by decide)
  rw [Tr.check_3] at h
  exact h
theorem none_spec (w : World) (HL : Hid (Laid w)) (v : Value) (HV : Hid (Strs w v [[110, 111, 110, 101]])) : Calls Tryd.prog 21 #[v] w fun e w' => e = .returned (.string ⟨(Tr.root []).toArray⟩) ∧ Chg [] w w' := list_spec w HL v _ HV (by decide) (Lib.hid (by decide))
theorem same_1_spec (w : World) (HL : Hid (Laid w)) (v u : Value) (HV : Hid (Strs w v [Tr.nab])) (HU : Hid (Strs w u [Tr.nab])) : Calls Tryd.prog 15 #[v, u] w fun e w' => e = .returned (.bool true) ∧ Chg [] w w' := by
  have h := same_spec w v u _ _ HV HU (Lib.hid (by decide)) (Lib.hid (by decide))
  rwa [decide_eq_true rfl] at h
theorem same_2_spec (w : World) (HL : Hid (Laid w)) (v u : Value) (HV : Hid (Strs w v [Tr.lb, Tr.lc])) (HU : Hid (Strs w u [Tr.lb, Tr.lc])) : Calls Tryd.prog 15 #[v, u] w fun e w' => e = .returned (.bool true) ∧ Chg [] w w' := by
  have h := same_spec w v u _ _ HV HU (Lib.hid (by decide)) (Lib.hid (by decide))
  rwa [decide_eq_true rfl] at h

/-- The first element alone: 'l[:1]'. -/
theorem Strs.front {w : World} {ao : Option Addr} {n cap : Nat} {l : List Bytes} (h : Strs w (.slice ao n cap) l) {k : Nat} (hk : k ≤ l.length) : Strs w (.slice ao k cap) (l.take k) := by
  obtain ⟨ao', cap', he, hle, h2⟩ := h
  cases he
  refine ⟨ao, cap, by rw [List.length_take, Nat.min_eq_left hk], by rw [List.length_take]; omega, fun i x hx => ?_⟩
  rw [List.getElem?_take] at hx
  split at hx
  · exact h2 i x hx
  · cases hx
set_option maxRecDepth 100000 in
set_option maxHeartbeats 2000000 in
theorem head_spec (w : World) (HL : Hid (Laid w)) : Calls Tryd.prog 9 #[] w fun e w' => e = .returned (.bool true) ∧ Chg [] w w' := by
  go_enter Tryd.func9, Tryd.ntmps9
  go_wp2_with fail
  have HC0 : Hid (Chg [] w (w.alloc (.cells #[.string ⟨#[97]⟩, .string ⟨#[98]⟩, .string ⟨#[99]⟩] 9))) := Lib.hid ((Chg.refl _ _).alloc _)
  have S0 : Hid (Strs (w.alloc (.cells #[.string ⟨#[97]⟩, .string ⟨#[98]⟩, .string ⟨#[99]⟩] 9)) (.slice (some ⟨w.heap.size, 0, none⟩) 3 3) [[97], [98], [99]]) := Lib.hid (three_strs w [97] [98] [99])
  obtain ⟨B, hB⟩ : ∃ B, B = w.heap.size := ⟨_, rfl⟩
  rw [← hB] at S0 ⊢
  generalize w.alloc (.cells #[.string ⟨#[97]⟩, .string ⟨#[98]⟩, .string ⟨#[99]⟩] 9) = w0 at *
  clear hB
  refine (leaf_c _ (Lib.hid (HL.out.quiet HC0.out))).mono ?_
  rintro e w1 ⟨rfl, hc⟩
  have HK1 := Lib.hid (hc)
  clear hc
  have HC1 := Lib.hid (HC0.out.trans HK1.out (by simp))
  have S1 := Lib.hid (S0.out.quiet HK1.out)
  clear HK1 HC0 S0
  go_wp2_with fail
  refine (leaf_a _ (Lib.hid (HL.out.quiet HC1.out))).mono ?_
  rintro e w2 ⟨rfl, hc⟩
  have HK2 := Lib.hid (hc)
  clear hc
  have HC2 := Lib.hid (HC1.out.trans HK2.out (by simp))
  have S2 := Lib.hid (S1.out.quiet HK2.out)
  clear HK2 HC1 S1
  go_wp2_with fail
  refine (leaf_b _ (Lib.hid (HL.out.quiet HC2.out))).mono ?_
  rintro e w3 ⟨rfl, hc⟩
  have HK3 := Lib.hid (hc)
  clear hc
  have HC3 := Lib.hid (HC2.out.trans HK3.out (by simp))
  have S3 := Lib.hid (S2.out.quiet HK3.out)
  clear HK3 HC2 S2
  go_wp2_with fail
  refine (node_ab _ (Lib.hid (HL.out.quiet HC3.out))).mono ?_
  rintro e w4 ⟨rfl, hc⟩
  have HK4 := Lib.hid (hc)
  clear hc
  have HC4 := Lib.hid (HC3.out.trans HK4.out (by simp))
  have S4 := Lib.hid (S3.out.quiet HK4.out)
  clear HK4 HC3 S3
  go_wp2_with fail
  refine (node_rt _ (Lib.hid (HL.out.quiet HC4.out))).mono ?_
  rintro e w5 ⟨rfl, hc⟩
  have HK5 := Lib.hid (hc)
  clear hc
  have HC5 := Lib.hid (HC4.out.trans HK5.out (by simp))
  have S5 := Lib.hid (S4.out.quiet HK5.out)
  clear HK5 HC4 S4
  go_wp2_with fail
  refine (path_2_spec _ (Lib.hid (HL.out.quiet HC5.out)) _ S5).mono ?_
  rintro e w6 ⟨⟨u, rfl, hs⟩, hc⟩
  have HK6 := Lib.hid (hc)
  clear hc
  have HC6 := Lib.hid (HC5.out.trans HK6.out (by simp))
  have S6 := Lib.hid (S5.out.quiet HK6.out)
  clear HK6 HC5 S5
  have P6 := Lib.hid hs
  clear hs
  go_wp2_with fail
  refine (path_0_spec _ (Lib.hid (HL.out.quiet HC6.out)) _ S6).mono ?_
  rintro e w7 ⟨⟨q, rfl, hs⟩, hc⟩
  have HK7 := Lib.hid (hc)
  clear hc
  have HC7 := Lib.hid (HC6.out.trans HK7.out (by simp))
  have S7 := Lib.hid (S6.out.quiet HK7.out)
  have P7 := Lib.hid (P6.out.quiet HK7.out)
  clear HK7 HC6 S6 P6
  have Q7 := Lib.hid hs
  clear hs
  go_wp2_with fail
  refine (path_out _ _ _ S7 (by decide) 3 (by decide)).mono ?_
  rintro e w8 ⟨rfl, hc⟩
  have HK8 := Lib.hid (hc)
  clear hc
  have HC8 := Lib.hid (HC7.out.trans HK8.out (by simp))
  have S8 := Lib.hid (S7.out.quiet HK8.out)
  have P8 := Lib.hid (P7.out.quiet HK8.out)
  have Q8 := Lib.hid (Q7.out.quiet HK8.out)
  clear HK8 HC7 S7 P7 Q7
  go_wp2_with fail
  refine (root_abc_spec _ (Lib.hid (HL.out.quiet HC8.out)) _ S8).mono ?_
  rintro e w9 ⟨rfl, hc⟩
  have HK9 := Lib.hid (hc)
  clear hc
  have HC9 := Lib.hid (HC8.out.trans HK9.out (by simp))
  have S9 := Lib.hid (S8.out.quiet HK9.out)
  have P9 := Lib.hid (P8.out.quiet HK9.out)
  have Q9 := Lib.hid (Q8.out.quiet HK9.out)
  clear HK9 HC8 S8 P8 Q8
  go_wp2_with fail
  refine (root_a_spec _ (Lib.hid (HL.out.quiet HC9.out)) _ (Lib.hid (S9.out.front (by decide)))).mono ?_
  rintro e w10 ⟨rfl, hc⟩
  have HK10 := Lib.hid (hc)
  clear hc
  have HC10 := Lib.hid (HC9.out.trans HK10.out (by simp))
  have S10 := Lib.hid (S9.out.quiet HK10.out)
  have P10 := Lib.hid (P9.out.quiet HK10.out)
  have Q10 := Lib.hid (Q9.out.quiet HK10.out)
  clear HK10 HC9 S9 P9 Q9
  go_wp2_with fail
  refine (leaf_a _ (Lib.hid (HL.out.quiet HC10.out))).mono ?_
  rintro e w11 ⟨rfl, hc⟩
  have HK11 := Lib.hid (hc)
  clear hc
  have HC11 := Lib.hid (HC10.out.trans HK11.out (by simp))
  have S11 := Lib.hid (S10.out.quiet HK11.out)
  have P11 := Lib.hid (P10.out.quiet HK11.out)
  have Q11 := Lib.hid (Q10.out.quiet HK11.out)
  clear HK11 HC10 S10 P10 Q10
  go_wp2_with fail
  refine (root_nil _ (Lib.hid (HL.out.quiet HC11.out)) _ (Lib.hid (Strs.nil _))).mono ?_
  rintro e w12 ⟨rfl, hc⟩
  have HK12 := Lib.hid (hc)
  clear hc
  have HC12 := Lib.hid (HC11.out.trans HK12.out (by simp))
  have S12 := Lib.hid (S11.out.quiet HK12.out)
  have P12 := Lib.hid (P11.out.quiet HK12.out)
  have Q12 := Lib.hid (Q11.out.quiet HK12.out)
  clear HK12 HC11 S11 P11 Q11
  go_wp2_with fail
  have HA12 : Hid (Chg [] w12 (w12.alloc (.cells #[.string ⟨#[110, 111, 110, 101]⟩] 9))) := Lib.hid ((Chg.refl _ _).alloc _)
  have SA12 := Lib.hid (one_strs w12 [110, 111, 110, 101])
  refine (none_spec _ (Lib.hid ((HL.out.quiet HC12.out).quiet HA12.out)) _ SA12).mono ?_
  rintro e w13 ⟨rfl, hc⟩
  have HK13 := Lib.hid (HA12.out.trans hc (by simp))
  clear hc HA12
  have HC13 := Lib.hid (HC12.out.trans HK13.out (by simp))
  have S13 := Lib.hid (S12.out.quiet HK13.out)
  have P13 := Lib.hid (P12.out.quiet HK13.out)
  have Q13 := Lib.hid (Q12.out.quiet HK13.out)
  clear HK13 HC12 S12 P12 Q12
  go_wp2_with fail
  refine (leaf_a _ (Lib.hid (HL.out.quiet HC13.out))).mono ?_
  rintro e w14 ⟨rfl, hc⟩
  have HK14 := Lib.hid (hc)
  clear hc
  have HC14 := Lib.hid (HC13.out.trans HK14.out (by simp))
  have S14 := Lib.hid (S13.out.quiet HK14.out)
  have P14 := Lib.hid (P13.out.quiet HK14.out)
  have Q14 := Lib.hid (Q13.out.quiet HK14.out)
  clear HK14 HC13 S13 P13 Q13
  go_wp2_with fail
  have hne1 : ¬ Tr.la = Tr.lb := by simpa using Tr.la_lb
  have hne2 : (!Tr.la == Tr.lb) = true := by rw [Tr.la_lb]; rfl
  refine (leaf_b _ (Lib.hid (HL.out.quiet HC14.out))).mono ?_
  rintro e w15 ⟨rfl, hc⟩
  have HK15 := Lib.hid (hc)
  clear hc
  have HC15 := Lib.hid (HC14.out.trans HK15.out (by simp))
  have S15 := Lib.hid (S14.out.quiet HK15.out)
  have P15 := Lib.hid (P14.out.quiet HK15.out)
  have Q15 := Lib.hid (Q14.out.quiet HK15.out)
  clear HK15 HC14 S14 P14 Q14
  go_wp2_with fail
  clear hne1 hne2
  refine (leaf_a _ (Lib.hid (HL.out.quiet HC15.out))).mono ?_
  rintro e w16 ⟨rfl, hc⟩
  have HK16 := Lib.hid (hc)
  clear hc
  have HC16 := Lib.hid (HC15.out.trans HK16.out (by simp))
  have S16 := Lib.hid (S15.out.quiet HK16.out)
  have P16 := Lib.hid (P15.out.quiet HK16.out)
  have Q16 := Lib.hid (Q15.out.quiet HK16.out)
  clear HK16 HC15 S15 P15 Q15
  go_wp2_with fail
  refine (leaf_b _ (Lib.hid (HL.out.quiet HC16.out))).mono ?_
  rintro e w17 ⟨rfl, hc⟩
  have HK17 := Lib.hid (hc)
  clear hc
  have HC17 := Lib.hid (HC16.out.trans HK17.out (by simp))
  have S17 := Lib.hid (S16.out.quiet HK17.out)
  have P17 := Lib.hid (P16.out.quiet HK17.out)
  have Q17 := Lib.hid (Q16.out.quiet HK17.out)
  clear HK17 HC16 S16 P16 Q16
  go_wp2_with fail
  refine (node_ab _ (Lib.hid (HL.out.quiet HC17.out))).mono ?_
  rintro e w18 ⟨rfl, hc⟩
  have HK18 := Lib.hid (hc)
  clear hc
  have HC18 := Lib.hid (HC17.out.trans HK18.out (by simp))
  have S18 := Lib.hid (S17.out.quiet HK18.out)
  have P18 := Lib.hid (P17.out.quiet HK18.out)
  have Q18 := Lib.hid (Q17.out.quiet HK18.out)
  clear HK18 HC17 S17 P17 Q17
  go_wp2_with fail
  have HA18 : Hid (Chg [] w18 (w18.alloc (.cells #[.string ⟨Tr.nab.toArray⟩] 9))) := Lib.hid ((Chg.refl _ _).alloc _)
  have SA18 := Lib.hid (one_strs w18 Tr.nab)
  refine (same_1_spec _ (Lib.hid ((HL.out.quiet HC18.out).quiet HA18.out)) _ _ (Lib.hid (P18.out.quiet HA18.out)) SA18).mono ?_
  rintro e w19 ⟨rfl, hc⟩
  have HK19 := Lib.hid (HA18.out.trans hc (by simp))
  clear hc HA18
  have HC19 := Lib.hid (HC18.out.trans HK19.out (by simp))
  have S19 := Lib.hid (S18.out.quiet HK19.out)
  have P19 := Lib.hid (P18.out.quiet HK19.out)
  have Q19 := Lib.hid (Q18.out.quiet HK19.out)
  clear HK19 HC18 S18 P18 Q18
  go_wp2_with fail
  refine (leaf_b _ (Lib.hid (HL.out.quiet HC19.out))).mono ?_
  rintro e w20 ⟨rfl, hc⟩
  have HK20 := Lib.hid (hc)
  clear hc
  have HC20 := Lib.hid (HC19.out.trans HK20.out (by simp))
  have S20 := Lib.hid (S19.out.quiet HK20.out)
  have P20 := Lib.hid (P19.out.quiet HK20.out)
  have Q20 := Lib.hid (Q19.out.quiet HK20.out)
  clear HK20 HC19 S19 P19 Q19
  go_wp2_with fail
  have HA20 : Hid (Chg [] w20 (w20.alloc (.cells #[.string ⟨Tr.lb.toArray⟩, .string ⟨Tr.lc.toArray⟩] 9))) := Lib.hid ((Chg.refl _ _).alloc _)
  have SA20 := Lib.hid (two_strs w20 Tr.lb Tr.lc)
  refine (same_2_spec _ (Lib.hid ((HL.out.quiet HC20.out).quiet HA20.out)) _ _ (Lib.hid (Q20.out.quiet HA20.out)) SA20).mono ?_
  rintro e w21 ⟨rfl, hc⟩
  have HK21 := Lib.hid (HA20.out.trans hc (by simp))
  clear hc HA20
  have HC21 := Lib.hid (HC20.out.trans HK21.out (by simp))
  have S21 := Lib.hid (S20.out.quiet HK21.out)
  have P21 := Lib.hid (P20.out.quiet HK21.out)
  have Q21 := Lib.hid (Q20.out.quiet HK21.out)
  clear HK21 HC20 S20 P20 Q20
  go_wp2_with fail
  refine (check_1_spec _ (Lib.hid (HL.out.quiet HC21.out)) _ P21).mono ?_
  rintro e w22 ⟨rfl, hc⟩
  have HK22 := Lib.hid (hc)
  clear hc
  have HC22 := Lib.hid (HC21.out.trans HK22.out (by simp))
  have S22 := Lib.hid (S21.out.quiet HK22.out)
  have P22 := Lib.hid (P21.out.quiet HK22.out)
  have Q22 := Lib.hid (Q21.out.quiet HK22.out)
  clear HK22 HC21 S21 P21 Q21
  go_wp2_with fail
  refine (check_2_spec _ (Lib.hid (HL.out.quiet HC22.out)) _ P22).mono ?_
  rintro e w23 ⟨rfl, hc⟩
  have HK23 := Lib.hid (hc)
  clear hc
  have HC23 := Lib.hid (HC22.out.trans HK23.out (by simp))
  have S23 := Lib.hid (S22.out.quiet HK23.out)
  have P23 := Lib.hid (P22.out.quiet HK23.out)
  have Q23 := Lib.hid (Q22.out.quiet HK23.out)
  clear HK23 HC22 S22 P22 Q22
  go_wp2_with fail
  refine (check_3_spec _ (Lib.hid (HL.out.quiet HC23.out)) _ P23).mono ?_
  rintro e w24 ⟨rfl, hc⟩
  have HK24 := Lib.hid (hc)
  clear hc
  have HC24 := Lib.hid (HC23.out.trans HK24.out (by simp))
  have S24 := Lib.hid (S23.out.quiet HK24.out)
  have P24 := Lib.hid (P23.out.quiet HK24.out)
  have Q24 := Lib.hid (Q23.out.quiet HK24.out)
  clear HK24 HC23 S23 P23 Q23
  go_wp2_with fail
  go_ret
  exact ⟨rfl, HC24.out⟩
end Go.Proofs.YtpeehlflhnhhjaaDoor
