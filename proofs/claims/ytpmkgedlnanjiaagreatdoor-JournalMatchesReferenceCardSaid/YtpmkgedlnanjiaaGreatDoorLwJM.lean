/-
  Journal: the walk of JournalMatchesReference.
-/
import Derived.Test.YtpmkgedlnanjiaaGreatDoorJuG
namespace Go.Proofs.YtpmkgedlnanjiaaGreatDoor
set_option linter.unusedVariables false
set_option linter.unusedSimpArgs false
set_option maxRecDepth 100000
open Go Go.RowKit
attribute [local irreducible] Go.wpStill
abbrev OJ := Option (Nat × Jn.J × Value)
def jp : OJ → Option Addr
  | none => none
  | some x => some ⟨x.1, 0, none⟩
def jj (o : OJ) : Option Jn.J := o.map (fun x => x.2.1)
theorem KZ.form {w0 w : World} {A A2 : List Nat} {p p2 b : Nat} {D D2 : DK} {o : OJ} {j : Jn.J} {v : Value} (T : TW w0 w A A2 p p2 D D2 o (some (b, j, v))) : ∃ ao cap, v = .slice ao j.l.length cap := by
  obtain ⟨own, rfl, h1⟩ := (show KZ w0.heap.size w A2 p2 b D2 j v from T.qz)
  exact h1.kr.own.form
/-- What Open leaves, on the program's side. -/
theorem opened_t {w0 w : World} {A A2 : List Nat} {p p2 : Nat} {D D2 : DK} {o o2 : OJ} {R : Ending → World → Prop} (T : Hid (TW w0 w A A2 p p2 D D2 o o2)) (hq : D.q = []) (hn4 : D.n ≤ 40)
    (h : ∀ (e : Int) E o' l uo un uc A' w', un = l.length → Jn.openJ Dg.sum D = ((e, jj o'), E) → (∀ j, jj o' = some j → l = j.l ∧ e = 0) → (jj o' = none → l = []) → To A w A' w' → TW w0 w' A' A2 p p2 E D2 o' o2 → L2 A' A2 w' (.slice uo un uc) l → R (.returned (.tuple #[.pointer (jp o'), .slice uo un uc, .int .i64 e])) w') :
    Calls Tryz.prog 7 #[.pointer (some ⟨p, 0, none⟩)] w R := by
  refine open_t T (by rw [hq]; exact Nat.zero_le _) (by omega) (fun e E A' w' h1 h2 h3 => h e E none [] none 0 0 A' w' rfl h1 (fun j hj => by cases hj) (fun _ => rfl) h2 h3 (L2.nil _ _ _)) (fun j E b v u A' w' h1 h2 h3 h4 => ?_)
  obtain ⟨ao, cap, rfl, h5⟩ := h4.1.1
  exact h 0 E (some (b, j, v)) j.l ao _ cap A' w' rfl h1 (fun j' hj => by cases hj; exact ⟨rfl, rfl⟩) (fun h => by cases h) h2 h3 h4
theorem ropened_t {w0 w : World} {A A2 : List Nat} {p p2 : Nat} {D D2 : DK} {o o2 : OJ} {R : Ending → World → Prop} (T : Hid (TW w0 w A A2 p p2 D D2 o o2)) (hq : D2.q = []) (hn4 : D2.n ≤ 40)
    (h : ∀ (e : Int) E o' l uo un uc A' w', un = l.length → Jn.openJ Dg.sum D2 = ((e, jj o'), E) → (∀ j, jj o' = some j → l = j.l ∧ e = 0) → (jj o' = none → l = []) → To A2 w A' w' → TW w0 w' A A' p p2 D E o o' → L2 A A' w' (.slice uo un uc) l → R (.returned (.tuple #[.pointer (jp o'), .slice uo un uc, .int .i64 e])) w') :
    Calls Tryz.prog 17 #[.pointer (some ⟨p2, 0, none⟩)] w R := by
  refine ropen_t T (by rw [hq]; exact Nat.zero_le _) (by omega) (fun e E A' w' h1 h2 h3 => h e E none [] none 0 0 A' w' rfl h1 (fun j hj => by cases hj) (fun _ => rfl) h2 h3 (L2.nil _ _ _)) (fun j E b v u A' w' h1 h2 h3 h4 => ?_)
  obtain ⟨ao, cap, rfl, h5⟩ := h4.1.1
  exact h 0 E (some (b, j, v)) j.l ao _ cap A' w' rfl h1 (fun j' hj => by cases hj; exact ⟨rfl, rfl⟩) (fun h => by cases h) h2 h3 h4
theorem jj_some {o o2 : OJ} (h : jj o = jj o2) : (o = none ∧ o2 = none) ∨ ∃ b j v b2 v2, o = some (b, j, v) ∧ o2 = some (b2, j, v2) := by
  cases o with
  | none => cases o2 with
    | none => exact .inl ⟨rfl, rfl⟩
    | some x => cases h
  | some x => cases o2 with
    | none => cases h
    | some y =>
      obtain ⟨b, j, v⟩ := x
      obtain ⟨b2, j2, v2⟩ := y
      injection h with h
      have h : j = j2 := h
      subst h
      exact .inr ⟨_, _, _, _, _, rfl, rfl⟩
theorem same_l {o o2 : OJ} {l l2 : List Bytes} {e e2 : Int} (h : jj o = jj o2) (h1 : ∀ j, jj o = some j → l = j.l ∧ e = 0) (h2 : jj o = none → l = []) (h3 : ∀ j, jj o2 = some j → l2 = j.l ∧ e2 = 0) (h4 : jj o2 = none → l2 = []) : l2 = l := by
  cases hj : jj o with
  | none => rw [h2 hj, h4 (h ▸ hj)]
  | some j => rw [(h1 j hj).1, (h3 j (h ▸ hj)).1]
/-- What holds between the operations. -/
def Mid (N k : Nat) (D : DK) (o o2 : OJ) : Prop := D.q = [] ∧ D.n = N ∧ jj o = jj o2 ∧ ∀ j, jj o = some j → Jn.JI N (2000 + 20 * k) j
theorem opened_mid {N : Nat} (hN : N ≤ 40) {D E : DK} {e : Int} {o o2 : OJ} {l : List Bytes} (hD : D.q = [] ∧ D.n = N) (h : Jn.openJ Dg.sum D = ((e, jj o), E)) (h1 : ∀ j, jj o = some j → l = j.l ∧ e = 0) (h2 : jj o = none → l = []) (hjj : jj o = jj o2) (k : Nat) : Mid N k E o o2 ∧ l.length ≤ 3000 := by
  obtain ⟨a, b, c⟩ := Jn.open_inv Dg.sum_len hD.1 (by rw [hD.2]; exact hN) h
  refine ⟨⟨a, b.trans hD.2, hjj, fun j hj => ?_⟩, ?_⟩
  · have h9 := c j hj
    exact ⟨h9.1.trans hD.2, by have := h9.2.1; have := hD.2; omega, by have := h9.2.2; omega⟩
  · cases hj : jj o with
    | none => rw [h2 hj]; exact Nat.zero_le _
    | some j => rw [(h1 j hj).1]; have := (c j hj).2.2; omega
set_option maxHeartbeats 4000000 in
theorem journalMatchesReference_walk (w : World) (HL : Hid (Laid w)) (s : Int) (hs : I64 s) (v : Value) (L : List OpV) (HL0 : Hid (RdS 5 ROp w v L)) :
    Calls Tryz.prog 4 #[.int .i64 s, v] w fun e w' => e = .returned (.bool true) ∧ Chg [] w w' := by
  obtain ⟨lo, lc, rfl, hle, hrc⟩ := HL0.out.form
  unfold Rch at hrc
  go_enter Tryz.func4, Tryz.ntmps4
  go_wp2_with fail
  refine head_r HL (fun w1 hc => ?_)
  have C1 := Lib.hid hc
  clear hc
  go_wp2_with fail
  refine light_r s hs (.slice lo L.length lc) L (Lib.hid (HL0.out.keep kq_op C1.out)) (fun q hq => ?_)
  have HQ := Lib.hid hq
  clear hq
  cases q with
  | false =>
    go_wp2_with fail
    go_ret
    exact ⟨rfl, C1.out⟩
  | true =>
    have HLT : Hid (Light s L) := Lib.hid (HQ.out rfl)
    clear HQ
    obtain ⟨n, hn⟩ : ∃ n, n = L.length := ⟨_, rfl⟩
    rw [← hn] at HL0 hle hrc ⊢
    have HN := Lib.hid hn
    have h40 := HLT.out.1
    have h16 : n ≤ 16 := by rw [hn]; exact HLT.out.2.1
    clear hn
    go_wp2_with fail
    by_cases hs1 : s < 1
    · refine (new_bad w1 s (.inl hs1)).mono ?_
      rintro e w9 ⟨rfl, rfl⟩
      go_wp2_with fail
      refine (rnew_bad w1 s hs1).mono ?_
      rintro e w9 ⟨rfl, rfl⟩
      go_wp2_with fail
      refine open_nil _ ?_
      go_wp2_with fail
      go_ret
      exact ⟨rfl, C1.out⟩
    obtain ⟨N, rfl⟩ : ∃ N : Nat, s = (N : Int) := ⟨s.toNat, by omega⟩
    have HB0 : Hid (Base w w1 []) := Lib.hid ⟨C1.out, by simp, HL.out⟩
    refine new_d HB0 N (by omega) (by omega) (fun p A w2 ht hd => ?_)
    have HB1 := Lib.hid (HB0.out.to ht)
    have HD1 := Lib.hid hd
    clear ht hd HB0
    go_wp2_with fail
    refine (rnew_calls w2 N (by omega) (by omega)).mono ?_
    rintro e w3 ⟨p2, own2, rfl, hr, hc, hn2⟩
    have HT : Hid (TW w w3 A own2 p p2 (DK.new N) (DK.new N) none none) := Lib.hid ⟨HB1.out.to (To.quiet hc), ⟨HB1.out.chg.trans hc (by simp), fun k hk => Nat.le_trans HB1.out.chg.size (hn2 k hk), HL.out⟩, fun k hk hm => by have h1 := HD1.out.lt k hk; have h2 := hn2 k hm; omega, HD1.out.kept hc (by simp), hr⟩
    clear hr hc hn2 HB1 HD1
    obtain ⟨D, hD⟩ : ∃ D, D = DK.new N := ⟨_, rfl⟩
    rw [← hD] at HT
    have HDQ : Hid (D.q = [] ∧ D.n = N) := Lib.hid (by rw [hD]; exact ⟨rfl, rfl⟩)
    clear hD
    go_upto_region 9 with fail
    go_cut [11, 12, 13] (fun jv uv ev wx => ∃ (e : Int) (E : DK) (o : OJ) (l : List Bytes) (uo : Option Addr) (un uc : Nat) (A9 : List Nat), jv = .pointer (jp o) ∧ uv = .slice uo un uc ∧ ev = .int .i64 e ∧ Hid (un = l.length ∧ Jn.openJ Dg.sum D = ((e, jj o), E) ∧ (∀ j, jj o = some j → l = j.l ∧ e = 0) ∧ (jj o = none → l = [])) ∧ Hid (TW w wx A9 own2 p p2 E D o none) ∧ Hid (L2 A9 own2 wx (.slice uo un uc) l))
    case first =>
      go_wp2_with fail
      refine opened_t HT HDQ.out.1 (by rw [HDQ.out.2]; omega) (fun e E o l uo un uc A9 w9 h1 h2 h3 h4 h5 h6 h7 => ?_)
      have HA := Lib.hid (And.intro h1 (And.intro h2 (And.intro h3 h4)))
      have HB := Lib.hid h6
      have HC := Lib.hid h7
      clear h1 h2 h3 h4 h5 h6 h7
      go_wp2_with fail
      go_meet
      exact ⟨e, E, o, l, uo, un, uc, A9, rfl, rfl, rfl, HA, HB, HC⟩
    case rest =>
      obtain ⟨e, E, o, l, uo, un, uc, A9, rfl, rfl, rfl, HA, HT1, HU⟩ := hcut
      clear HT
      go_upto_region 10 with fail
      go_cut [14, 15, 16] (fun jv uv ev wx => ∃ (o9 : OJ) (vo : Option Addr) (vc : Nat) (A8 : List Nat), jv = .pointer (jp o9) ∧ uv = .slice vo un vc ∧ ev = .int .i64 e ∧ Hid (jj o = jj o9) ∧ Hid (TW w wx A9 A8 p p2 E E o o9) ∧ Hid (L2 A9 A8 wx (.slice uo un uc) l) ∧ Hid (L2 A9 A8 wx (.slice vo un vc) l))
      case first =>
        go_wp2_with fail
        refine ropened_t HT1 HDQ.out.1 (by rw [HDQ.out.2]; omega) (fun e9 E9 o9 l9 vo un9 vc A8 w9 h1 h2 h3 h4 h5 h6 h7 => ?_)
        obtain ⟨rfl, hjj, rfl⟩ := pair3 (HA.out.2.1.symm.trans h2)
        have hll := same_l hjj HA.out.2.2.1 HA.out.2.2.2 h3 h4
        subst hll
        obtain rfl : un9 = un := h1.trans HA.out.1.symm
        have HX := Lib.hid hjj
        have HY := Lib.hid h6
        have HZ := Lib.hid h7
        have HW := Lib.hid (HU.out.right h5)
        clear h1 h2 h3 h4 h5 h6 h7 hjj
        go_wp2_with fail
        go_meet
        exact ⟨o9, vo, vc, A8, rfl, rfl, rfl, HX, HY, HW, HZ⟩
      case rest =>
        obtain ⟨o2, vo, vc, A10, rfl, rfl, rfl, HJJ, HT2, HU2, HV2⟩ := hcut
        clear HT1 HU
        have HMID : Hid (∀ k, Mid N k E o o2 ∧ l.length ≤ 3000) := Lib.hid (opened_mid (by omega) HDQ.out HA.out.2.1 HA.out.2.2.1 HA.out.2.2.2 HJJ.out)
        have HUN : Hid (un = l.length) := Lib.hid HA.out.1
        clear HA HJJ HDQ
        go_wp2_with fail
        go_loopw [11, 12, 13, 14, 15, 16, 17] (fun jv uv ev jv2 uv2 ev2 iv wr => ∃ (k : Nat) (e : Int) (E : DK) (o o2 : OJ) (l : List Bytes) (uo : Option Addr) (un uc : Nat) (vo : Option Addr) (vc : Nat) (A A2 : List Nat), k ≤ n ∧ jv = .pointer (jp o) ∧ uv = .slice uo un uc ∧ ev = .int .i64 e ∧ jv2 = .pointer (jp o2) ∧ uv2 = .slice vo un vc ∧ ev2 = .int .i64 e ∧ iv = .int .i64 (k : Int) ∧ Hid (TW w wr A A2 p p2 E E o o2) ∧ Hid (L2 A A2 wr (.slice uo un uc) l) ∧ Hid (L2 A A2 wr (.slice vo un vc) l) ∧ Hid (Mid N k E o o2 ∧ un = l.length ∧ l.length ≤ 3000)) (fun _ _ _ _ _ _ iv _ => n + 1 - (intOf iv).toNat)
        case atStart => exact ⟨0, e, E, o, o2, l, uo, un, uc, vo, vc, A9, A10, Nat.zero_le _, rfl, rfl, rfl, rfl, rfl, rfl, rfl, HT2, HU2, HV2, Lib.hid ⟨(HMID.out 0).1, HUN.out, (HMID.out 0).2⟩⟩
        case round =>
          clear HT2 HU2 HV2 HMID HUN
          rename World => wr
          skip
          obtain ⟨k, e, D, o, o2, l, uo, un, uc, vo, vc, A, A2, hk, rfl, rfl, rfl, rfl, rfl, rfl, rfl, HT, HU, HV, HM⟩ := hrel
          have z1 : (k : Int) ≤ (n : Int) := by omega
          go_upto_region 14 with fail
          clear z1
          go_cut [106] (fun bv wx => bv = .bool false ∧ Hid (Chg [] wr wx))
          case first =>
            as_aux_lemma =>
              have HLN : Hid (l.length ≤ 1000000) := Lib.hid (by have := HM.out.2.2; omega)
              go_wp2_with fail
              refine same_z _ _ l l (Lib.hid HU.out.1) (Lib.hid HV.out.1) HLN.out HLN.out (fun wq1 hc => ?_)
              have HT1 := Lib.hid (HT.out.quiet hc)
              have HC1 : Hid (Chg [] wr wq1) := Lib.hid (hc)
              clear hc
              rw [decide_eq_true rfl]
              rcases jj_some HM.out.1.2.2.1 with ⟨ho, ho2⟩ | ⟨b, j, v, b2, v2, ho, ho2⟩
              · subst ho
                subst ho2
                rw [show jp none = none from rfl]
                go_wp2_with fail
                refine records_jnil _ (fun wq2 hc => ?_)
                have HT2 := Lib.hid (HT1.out.quiet hc)
                have HC2 : Hid (Chg [] wr wq2) := Lib.hid (HC1.out.trans hc (by simp))
                clear hc
                go_wp2_with fail
                refine rrecords_nil _ ?_
                go_wp2_with fail
                refine same_z _ _ [] [] (Lib.hid (L2.nil [] [] _).1) (Lib.hid (L2.nil [] [] _).1) (by decide) (by decide) (fun wq3 hc => ?_)
                have HT3 := Lib.hid (HT2.out.quiet hc)
                have HC3 : Hid (Chg [] wr wq3) := Lib.hid (HC2.out.trans hc (by simp))
                clear hc
                rw [decide_eq_true rfl]
                go_wp2_with fail
                refine room_jnil _ (fun wq4 hc => ?_)
                have HT4 := Lib.hid (HT3.out.quiet hc)
                have HC4 : Hid (Chg [] wr wq4) := Lib.hid (HC3.out.trans hc (by simp))
                clear hc
                go_wp2_with fail
                refine rroom_nil _ ?_
                go_wp2_with fail
                go_meet
                exact ⟨rfl, HC4⟩
              · subst ho
                subst ho2
                obtain ⟨q1, q2, rfl⟩ := KZ.form HT1.out
                have HJI : Hid (Jn.JI N (2000 + 20 * k) j) := Lib.hid (HM.out.1.2.2.2 j rfl)
                have HJL : Hid (j.l.length ≤ 1000000) := Lib.hid (by have := HJI.out.2.2; omega)
                obtain ⟨jn, hjn⟩ : ∃ z, z = j.l.length := ⟨_, rfl⟩
                have HJN := Lib.hid hjn
                rw [← hjn] at HT1 ⊢
                clear hjn
                rw [show jp (some (b, j, v)) = some ⟨b, 0, none⟩ from rfl, show jp (some (b2, j, Value.slice q1 jn q2)) = some ⟨b2, 0, none⟩ from rfl]
                go_wp2_with fail
                refine records_t HT1 HJL.out (fun v9 wr9 hl hc => ?_)
                have HT5 := Lib.hid (HT1.out.quiet hc)
                have HC5 : Hid (Chg [] wr wr9) := Lib.hid (HC1.out.trans hc (by simp))
                have HR9 := Lib.hid hl
                obtain ⟨a9, c9, rfl, -⟩ := hl.1.1
                rw [← HJN.out] at HR9 ⊢
                clear hl hc
                go_wp2_with fail
                refine rrecords_t HT5 (fun hl => ?_)
                have HR8 := Lib.hid hl
                clear hl
                go_wp2_with fail
                refine same_z _ _ j.l j.l (Lib.hid HR9.out.1) (Lib.hid HR8.out.1) HJL.out HJL.out (fun wq6 hc => ?_)
                have HT6 := Lib.hid (HT5.out.quiet hc)
                have HC6 : Hid (Chg [] wr wq6) := Lib.hid (HC5.out.trans hc (by simp))
                clear hc
                rw [decide_eq_true rfl]
                go_wp2_with fail
                refine room_t HT6 (by have := HJI.out.1; omega) (by have := HJI.out.1; have := HJI.out.2.1; omega) (fun wq7 hc => ?_)
                have HT7 := Lib.hid (HT6.out.quiet hc)
                have HC7 : Hid (Chg [] wr wq7) := Lib.hid (HC6.out.trans hc (by simp))
                clear hc
                obtain ⟨rm, hrm⟩ : ∃ z, z = Jn.room j := ⟨_, rfl⟩
                have HRM := Lib.hid hrm
                rw [← hrm]
                clear hrm
                go_wp2_with fail
                refine rroom_t HT7 (by have := HJI.out.1; omega) (by have := HJI.out.1; have := HJI.out.2.1; omega) (fun wq8 hc => ?_)
                have HT8 := Lib.hid (HT7.out.quiet hc)
                have HC8 : Hid (Chg [] wr wq8) := Lib.hid (HC7.out.trans hc (by simp))
                clear hc
                rw [← HRM.out]
                go_wp2_with fail
                go_meet
                exact ⟨rfl, HC8⟩
          case rest =>
            obtain ⟨rfl, HCC⟩ := hcut
            have HTC := Lib.hid (HT.out.quiet HCC.out)
            clear HT HCC
            by_cases hkn : k = n
            · subst hkn
              as_aux_lemma =>
                have HQE : Hid (D.q = []) := Lib.hid HM.out.1.1
                have HDQ2 : Hid (D.q.length ≤ 1000000) := Lib.hid (by rw [HM.out.1.1]; exact Nat.zero_le _)
                clear HU HV HM
                go_wp2_with fail
                refine fail_t HTC HDQ2.out 0 0 (fun Aa wa _ h => ?_)
                have HTa := Lib.hid h
                clear h HTC
                go_wp2_with fail
                refine rfail_t HTa HDQ2.out 0 0 (fun Ab wb _ h => ?_)
                have HTb := Lib.hid h
                clear h HTa
                go_wp2_with fail
                refine start_t HTb (fun Ac wd _ h => ?_)
                have HTc := Lib.hid h
                clear h HTb
                go_wp2_with fail
                refine rstart_t HTc (fun Ad we _ h => ?_)
                have HTd := Lib.hid h
                clear h HTc
                obtain ⟨G, hG⟩ : ∃ G, G = (D.fail 0 0).start := ⟨_, rfl⟩
                have HGQ : Hid (G.q.length ≤ 1000000) := Lib.hid (by rw [hG]; show (D.fail 0 0).q.length ≤ _; rw [Jn.fail_qe HQE.out]; exact Nat.zero_le _)
                rw [← hG] at HTd
                clear hG HDQ2
                go_wp2_with fail
                go_loopw [19] (fun iv wx => ∃ i : Nat, i ≤ N ∧ iv = .int .i64 (i : Int) ∧ Hid (Chg [] we wx)) (fun iv _ => N - (intOf iv).toNat)
                case atStart => exact ⟨0, Nat.zero_le _, rfl, Lib.hid (Chg.refl _ _)⟩
                case round =>
                  rename World => wf
                  obtain ⟨i, hi, rfl, HC⟩ := hrel
                  by_cases hlt : i < N
                  · have z1 : (i : Int) < (N : Int) := by omega
                    have HTe := Lib.hid (HTd.out.quiet HC.out)
                    go_wp2_with fail
                    refine read_t HTe HGQ.out (i : Int) (fun wg hc => ?_)
                    have HTf := Lib.hid (HTe.out.quiet hc)
                    have HCg : Hid (Chg [] we wg) := Lib.hid (HC.out.trans hc (by simp))
                    obtain ⟨r1, hr1⟩ : ∃ z, z = (G.read (i : Int)).1 := ⟨_, rfl⟩
                    obtain ⟨r2, hr2⟩ : ∃ z, z = (G.read (i : Int)).2 := ⟨_, rfl⟩
                    have HR1 := Lib.hid hr1
                    have HR2 := Lib.hid hr2
                    rw [← hr1, ← hr2]
                    clear hc hr1 hr2
                    go_wp2_with fail
                    refine rread_t HTf HGQ.out (i : Int) (fun wh hc => ?_)
                    have HCh : Hid (Chg [] we wh) := Lib.hid (HCg.out.trans hc (by simp))
                    rw [← HR1.out, ← HR2.out]
                    clear hc
                    go_wp2_with fail
                    go_roundw
                    case rel => exact ⟨i + 1, by omega, by go_num, HCh⟩
                    case measure => simp [intOf]; omega
                  obtain rfl : i = N := by omega
                  have z1 : ¬ (i : Int) < (i : Int) := by omega
                  go_wp2_with fail
                  go_ret
                  exact ⟨rfl, HTd.out.b.chg.trans HC.out (by simp)⟩
            have hlt : k < n := by omega
            have z1 : ((k : Int) == (n : Int)) = false := by rw [beq_eq_false_iff_ne]; omega
            have z1b : (k == n) = false := by rw [beq_eq_false_iff_ne]; exact hkn
            obtain ⟨po, hpo⟩ : ∃ o, L[k]? = some o := ⟨L[k]'(by rw [← HN.out]; exact hlt), by simp⟩
            obtain ⟨gg, off, cs, hag, hgl, -, ⟨rv, rfl, hrv, hi0, hi1, hi2, hi3⟩, hcc⟩ := HL0.out.elem hpo
            subst hag
            obtain ⟨ra, rc, rfl, hrle, -⟩ := hrv.form
            obtain ⟨m, hm⟩ : ∃ m, m = po.list.length := ⟨_, rfl⟩
            rw [← hm] at hrv hrle hcc
            have HMM := Lib.hid hm
            obtain ⟨rs, hrs⟩ : ∃ z, z = po.list := ⟨_, rfl⟩
            have HRL : Hid (L2 A A2 wc (.slice ra m rc) rs) := Lib.hid (by rw [hrs]; exact ⟨HTC.out.b.lst hrv.strs (fun hne ad n0 c0 he => by obtain ⟨x, hx⟩ : ∃ x, po.list[0]? = some x := ⟨po.list[0]'(List.length_pos_iff.2 hne), by simp⟩; cases he; obtain ⟨g9, off9, h9, h10, _⟩ := hrv.str_at hx; cases h9; exact block_lt_of_cell h10), HTC.out.b2.lst hrv.strs (fun hne ad n0 c0 he => by obtain ⟨x, hx⟩ : ∃ x, po.list[0]? = some x := ⟨po.list[0]'(List.length_pos_iff.2 hne), by simp⟩; cases he; obtain ⟨g9, off9, h9, h10, _⟩ := hrv.str_at hx; cases h9; exact block_lt_of_cell h10)⟩)
            have HOL : Hid (rs.length ≤ 20 ∧ ∀ x ∈ rs, x.length ≤ 6000) := Lib.hid (by rw [hrs]; exact HLT.out.2.2 po (List.mem_of_getElem? hpo))
            obtain ⟨kd, hkd⟩ : ∃ z, z = po.kind := ⟨_, rfl⟩
            obtain ⟨x2, hx2⟩ : ∃ z, z = po.at_ := ⟨_, rfl⟩
            obtain ⟨x3, hx3⟩ : ∃ z, z = po.w := ⟨_, rfl⟩
            obtain ⟨x4, hx4⟩ : ∃ z, z = po.b := ⟨_, rfl⟩
            rw [← hkd, ← hx2, ← hx3, ← hx4] at hcc
            rw [← hx2] at hi1
            have HI1 := Lib.hid hi1
            have c0 := cell_quiet HTC.out.b.chg (hcc 0 _ rfl) (by simp)
            have c1 := cell_quiet HTC.out.b.chg (hcc 1 _ rfl) (by simp)
            have c2 := cell_quiet HTC.out.b.chg (hcc 2 _ rfl) (by simp)
            have c3 := cell_quiet HTC.out.b.chg (hcc 3 _ rfl) (by simp)
            have c4 := cell_quiet HTC.out.b.chg (hcc 4 _ rfl) (by simp)
            rw [Nat.add_zero] at c0
            have z0 : (0 : Int) ≤ (k : Int) := by omega
            have z2 : (k : Int) < (n : Int) := by omega
            clear hcc hrv hi0 hi1 hi2 hi3 hpo hm hrs hkd hx2 hx3 hx4 hgl HU HV
            go_upto_region 18 with fail
            obtain ⟨wo, hwo⟩ : ∃ W, W = wc.alloc (.cells #[.int .i64 kd, .slice ra m rc, .int .i64 x2, .int .i64 x3, .int .i64 x4] 36) := ⟨_, rfl⟩
            obtain ⟨ob, hob⟩ : ∃ z, z = wc.heap.size := ⟨_, rfl⟩
            rw [← hwo, ← hob]
            have HOB : Hid (Blk wo ob [.int .i64 kd, .slice ra m rc, .int .i64 x2, .int .i64 x3, .int .i64 x4] 36 ∧ w.heap.size ≤ ob ∧ ob ∉ A ∧ ob ∉ A2) := Lib.hid ⟨by rw [hwo, hob]; exact Blk.new wc [.int .i64 kd, .slice ra m rc, .int .i64 x2, .int .i64 x3, .int .i64 x4] _, by rw [hob]; exact HTC.out.b.size, by rw [hob]; exact fun hm => Nat.lt_irrefl _ (HTC.out.pz.lt _ hm), by rw [hob]; exact fun hm => Nat.lt_irrefl _ (HTC.out.qz.lt _ hm)⟩
            have CO : Hid (Chg [] wc wo) := Lib.hid (by rw [hwo]; exact (Chg.refl _ _).alloc _)
            have HTO := Lib.hid (HTC.out.quiet CO.out)
            have HRO := Lib.hid (HRL.out.quiet CO.out)
            clear hwo hob c0 c1 c2 c3 c4 HTC HRL z0 z1 z1b z2 CO
            have HQE : Hid (D.q = [] ∧ D.n = N) := Lib.hid ⟨HM.out.1.1, HM.out.1.2.1⟩
            have HQL : Hid (D.q.length ≤ 1000) := Lib.hid (by rw [HQE.out.1]; exact Nat.zero_le _)
            by_cases h1 : kd = 1
            · subst h1
              as_aux_lemma =>
                have c0 := HOB.out.1.cell (i := 0) rfl
                have c1 := HOB.out.1.cell (i := 1) rfl
                have c2 := HOB.out.1.cell (i := 2) rfl
                have c3 := HOB.out.1.cell (i := 3) rfl
                have c4 := HOB.out.1.cell (i := 4) rfl
                go_wp2_with fail
                clear c0 c1 c2 c3 c4
                refine fail_t HTO (by have := HQL.out; omega) x3 x4 (fun Ax1 wx1 ht h => ?_)
                have HTx1 : Hid (TW w wx1 Ax1 A2 p p2 (D.fail x3 x4) (D) o o2) := Lib.hid h
                have HOBx1 : Hid (Blk wx1 ob [.int .i64 1, .slice ra m rc, .int .i64 x2, .int .i64 x3, .int .i64 x4] 36 ∧ w.heap.size ≤ ob ∧ ob ∉ Ax1 ∧ ob ∉ A2) := Lib.hid ⟨ht.1.blk HOB.out.1 HOB.out.2.2.1, HOB.out.2.1, fun hm => by rcases ht.2 ob hm with h9 | h9; exact HOB.out.2.2.1 h9; have := HOB.out.1.lt; omega, HOB.out.2.2.2⟩
                clear ht h
                have c0 := HOBx1.out.1.cell (i := 0) rfl
                have c1 := HOBx1.out.1.cell (i := 1) rfl
                have c2 := HOBx1.out.1.cell (i := 2) rfl
                have c3 := HOBx1.out.1.cell (i := 3) rfl
                have c4 := HOBx1.out.1.cell (i := 4) rfl
                go_wp2_with fail
                clear c0 c1 c2 c3 c4
                refine rfail_t HTx1 (by have := HQL.out; omega) x3 x4 (fun Ax2 wx2 ht h => ?_)
                have HTx2 : Hid (TW w wx2 Ax1 Ax2 p p2 (D.fail x3 x4) (D.fail x3 x4) o o2) := Lib.hid h
                have HOBx2 : Hid (Blk wx2 ob [.int .i64 1, .slice ra m rc, .int .i64 x2, .int .i64 x3, .int .i64 x4] 36 ∧ w.heap.size ≤ ob ∧ ob ∉ Ax1 ∧ ob ∉ Ax2) := Lib.hid ⟨ht.1.blk HOBx1.out.1 HOBx1.out.2.2.2, HOBx1.out.2.1, HOBx1.out.2.2.1, fun hm => by rcases ht.2 ob hm with h9 | h9; exact HOBx1.out.2.2.2 h9; have := HOBx1.out.1.lt; omega⟩
                clear ht h
                go_wp2_with fail
                refine start_t HTx2 (fun Ax3 wx3 ht h => ?_)
                have HTx3 : Hid (TW w wx3 Ax3 Ax2 p p2 ((D.fail x3 x4).start) (D.fail x3 x4) o o2) := Lib.hid h
                have HOBx3 : Hid (Blk wx3 ob [.int .i64 1, .slice ra m rc, .int .i64 x2, .int .i64 x3, .int .i64 x4] 36 ∧ w.heap.size ≤ ob ∧ ob ∉ Ax3 ∧ ob ∉ Ax2) := Lib.hid ⟨ht.1.blk HOBx2.out.1 HOBx2.out.2.2.1, HOBx2.out.2.1, fun hm => by rcases ht.2 ob hm with h9 | h9; exact HOBx2.out.2.2.1 h9; have := HOBx2.out.1.lt; omega, HOBx2.out.2.2.2⟩
                clear ht h
                go_wp2_with fail
                refine rstart_t HTx3 (fun Ax4 wx4 ht h => ?_)
                have HTx4 : Hid (TW w wx4 Ax3 Ax4 p p2 ((D.fail x3 x4).start) ((D.fail x3 x4).start) o o2) := Lib.hid h
                have HOBx4 : Hid (Blk wx4 ob [.int .i64 1, .slice ra m rc, .int .i64 x2, .int .i64 x3, .int .i64 x4] 36 ∧ w.heap.size ≤ ob ∧ ob ∉ Ax3 ∧ ob ∉ Ax4) := Lib.hid ⟨ht.1.blk HOBx3.out.1 HOBx3.out.2.2.2, HOBx3.out.2.1, HOBx3.out.2.2.1, fun hm => by rcases ht.2 ob hm with h9 | h9; exact HOBx3.out.2.2.2 h9; have := HOBx3.out.1.lt; omega⟩
                clear ht h
                obtain ⟨F, hF⟩ : ∃ F, F = (D.fail x3 x4).start := ⟨_, rfl⟩
                have HDF : Hid (F.q = [] ∧ F.n = N) := Lib.hid (by rw [hF]; exact ⟨Jn.fail_qe HQE.out.1 x3 x4, (DK.fail_n D x3 x4).trans HQE.out.2⟩)
                rw [← hF] at HTx4
                clear hF
                have HTF := HTx4
                clear HM HQE HQL HRO HOB HOL HMM HI1
                go_upto_region 37 with fail
                go_cut [11, 12, 13] (fun jv uv ev wx => ∃ (e : Int) (E : DK) (o : OJ) (l : List Bytes) (uo : Option Addr) (un uc : Nat) (A9 : List Nat), jv = .pointer (jp o) ∧ uv = .slice uo un uc ∧ ev = .int .i64 e ∧ Hid (un = l.length ∧ Jn.openJ Dg.sum F = ((e, jj o), E) ∧ (∀ j, jj o = some j → l = j.l ∧ e = 0) ∧ (jj o = none → l = [])) ∧ Hid (TW w wx A9 Ax4 p p2 E F o o2) ∧ Hid (L2 A9 Ax4 wx (.slice uo un uc) l))
                case first =>
                  go_wp2_with fail
                  refine opened_t HTF HDF.out.1 (by rw [HDF.out.2]; omega) (fun e E o l uo un uc A9 w9 h1 h2 h3 h4 h5 h6 h7 => ?_)
                  have HA := Lib.hid (And.intro h1 (And.intro h2 (And.intro h3 h4)))
                  have HB := Lib.hid h6
                  have HC := Lib.hid h7
                  clear h1 h2 h3 h4 h5 h6 h7
                  go_wp2_with fail
                  go_meet
                  exact ⟨e, E, o, l, uo, un, uc, A9, rfl, rfl, rfl, HA, HB, HC⟩
                case rest =>
                  rename World => wv
                  obtain ⟨e3, E3, o3, l3, uo3, un3, uc3, A93, rfl, rfl, rfl, HA, HT1, HU⟩ := hcut
                  clear HTF
                  go_wp2_with fail
                  refine ropened_t HT1 HDF.out.1 (by rw [HDF.out.2]; omega) (fun e9 E9 o4 l9 vo4 un9 vc4 A4 w9 h1 h2 h3 h4 h5 h6 h7 => ?_)
                  obtain ⟨rfl, hjj, rfl⟩ := pair3 (HA.out.2.1.symm.trans h2)
                  have hll := same_l hjj HA.out.2.2.1 HA.out.2.2.2 h3 h4
                  subst hll
                  obtain rfl : un9 = un3 := h1.trans HA.out.1.symm
                  have HJJ := Lib.hid hjj
                  have HT2 := Lib.hid h6
                  have HV2 := Lib.hid h7
                  have HU2 := Lib.hid (HU.out.right h5)
                  clear h1 h2 h3 h4 h5 h6 h7 hjj
                  have HMID := Lib.hid (opened_mid (by omega) HDF.out HA.out.2.1 HA.out.2.2.1 HA.out.2.2.2 HJJ.out (k + 1))
                  go_wp2_with fail
                  go_roundw
                  case rel => exact ⟨k + 1, _, _, o3, o4, _, uo3, _, uc3, vo4, vc4, A93, A4, by omega, rfl, rfl, rfl, rfl, rfl, rfl, by go_num, HT2, HU2, HV2, Lib.hid ⟨HMID.out.1, HA.out.1, HMID.out.2⟩⟩
                  case measure => simp [intOf]; omega
            by_cases h2 : kd = 2
            · subst h2
              as_aux_lemma =>
                have c0 := HOB.out.1.cell (i := 0) rfl
                have c1 := HOB.out.1.cell (i := 1) rfl
                have c2 := HOB.out.1.cell (i := 2) rfl
                have c3 := HOB.out.1.cell (i := 3) rfl
                have c4 := HOB.out.1.cell (i := 4) rfl
                go_wp2_with fail
                clear c0 c1 c2 c3 c4
                refine arm_t HTO x2 x3 x4 HI1.out.2 (fun Ax5 wx5 ht h => ?_)
                have HTx5 : Hid (TW w wx5 Ax5 A2 p p2 (D.setArm x2 x3 x4) (D) o o2) := Lib.hid h
                have HOBx5 : Hid (Blk wx5 ob [.int .i64 2, .slice ra m rc, .int .i64 x2, .int .i64 x3, .int .i64 x4] 36 ∧ w.heap.size ≤ ob ∧ ob ∉ Ax5 ∧ ob ∉ A2) := Lib.hid ⟨ht.1.blk HOB.out.1 HOB.out.2.2.1, HOB.out.2.1, fun hm => by rcases ht.2 ob hm with h9 | h9; exact HOB.out.2.2.1 h9; have := HOB.out.1.lt; omega, HOB.out.2.2.2⟩
                clear ht h
                have c0 := HOBx5.out.1.cell (i := 0) rfl
                have c1 := HOBx5.out.1.cell (i := 1) rfl
                have c2 := HOBx5.out.1.cell (i := 2) rfl
                have c3 := HOBx5.out.1.cell (i := 3) rfl
                have c4 := HOBx5.out.1.cell (i := 4) rfl
                go_wp2_with fail
                clear c0 c1 c2 c3 c4
                refine rarm_t HTx5 x2 x3 x4 HI1.out.2 (fun Ax6 wx6 ht h => ?_)
                have HTx6 : Hid (TW w wx6 Ax5 Ax6 p p2 (D.setArm x2 x3 x4) (D.setArm x2 x3 x4) o o2) := Lib.hid h
                have HOBx6 : Hid (Blk wx6 ob [.int .i64 2, .slice ra m rc, .int .i64 x2, .int .i64 x3, .int .i64 x4] 36 ∧ w.heap.size ≤ ob ∧ ob ∉ Ax5 ∧ ob ∉ Ax6) := Lib.hid ⟨ht.1.blk HOBx5.out.1 HOBx5.out.2.2.2, HOBx5.out.2.1, HOBx5.out.2.2.1, fun hm => by rcases ht.2 ob hm with h9 | h9; exact HOBx5.out.2.2.2 h9; have := HOBx5.out.1.lt; omega⟩
                clear ht h
                obtain ⟨F, hF⟩ : ∃ F, F = D.setArm x2 x3 x4 := ⟨_, rfl⟩
                have HDF : Hid (F.q = [] ∧ F.n = N) := Lib.hid (by rw [hF]; exact ⟨Jn.arm_qe HQE.out.1 x2 x3 x4, (DK.setArm_n D x2 x3 x4).trans HQE.out.2⟩)
                rw [← hF] at HTx6
                clear hF
                go_wp2_with fail
                go_roundw
                case rel => exact ⟨k + 1, e, F, o, o2, [], none, 0, 0, none, 0, Ax5, Ax6, by omega, rfl, rfl, rfl, rfl, rfl, rfl, by go_num, HTx6, Lib.hid (L2.nil _ _ _), Lib.hid (L2.nil _ _ _), Lib.hid ⟨⟨HDF.out.1, HDF.out.2, HM.out.1.2.2.1, fun j hj => by have h9 := HM.out.1.2.2.2 j hj; exact ⟨h9.1, h9.2.1, by have := h9.2.2; omega⟩⟩, rfl, Nat.zero_le _⟩⟩
                case measure => simp [intOf]; omega
            by_cases h3 : kd = 3
            · subst h3
              as_aux_lemma =>
                have c0 := HOB.out.1.cell (i := 0) rfl
                have c1 := HOB.out.1.cell (i := 1) rfl
                have c2 := HOB.out.1.cell (i := 2) rfl
                have c3 := HOB.out.1.cell (i := 3) rfl
                have c4 := HOB.out.1.cell (i := 4) rfl
                go_wp2_with fail
                clear c0 c1 c2 c3 c4
                refine rot_t HTO x2 x3 x4 (fun Ax7 wx7 ht h => ?_)
                have HTx7 : Hid (TW w wx7 Ax7 A2 p p2 (D.rot x2 x3 x4) (D) o o2) := Lib.hid h
                have HOBx7 : Hid (Blk wx7 ob [.int .i64 3, .slice ra m rc, .int .i64 x2, .int .i64 x3, .int .i64 x4] 36 ∧ w.heap.size ≤ ob ∧ ob ∉ Ax7 ∧ ob ∉ A2) := Lib.hid ⟨ht.1.blk HOB.out.1 HOB.out.2.2.1, HOB.out.2.1, fun hm => by rcases ht.2 ob hm with h9 | h9; exact HOB.out.2.2.1 h9; have := HOB.out.1.lt; omega, HOB.out.2.2.2⟩
                clear ht h
                have c0 := HOBx7.out.1.cell (i := 0) rfl
                have c1 := HOBx7.out.1.cell (i := 1) rfl
                have c2 := HOBx7.out.1.cell (i := 2) rfl
                have c3 := HOBx7.out.1.cell (i := 3) rfl
                have c4 := HOBx7.out.1.cell (i := 4) rfl
                go_wp2_with fail
                clear c0 c1 c2 c3 c4
                refine rrot_t HTx7 x2 x3 x4 (fun Ax8 wx8 ht h => ?_)
                have HTx8 : Hid (TW w wx8 Ax7 Ax8 p p2 (D.rot x2 x3 x4) (D.rot x2 x3 x4) o o2) := Lib.hid h
                have HOBx8 : Hid (Blk wx8 ob [.int .i64 3, .slice ra m rc, .int .i64 x2, .int .i64 x3, .int .i64 x4] 36 ∧ w.heap.size ≤ ob ∧ ob ∉ Ax7 ∧ ob ∉ Ax8) := Lib.hid ⟨ht.1.blk HOBx7.out.1 HOBx7.out.2.2.2, HOBx7.out.2.1, HOBx7.out.2.2.1, fun hm => by rcases ht.2 ob hm with h9 | h9; exact HOBx7.out.2.2.2 h9; have := HOBx7.out.1.lt; omega⟩
                clear ht h
                obtain ⟨F, hF⟩ : ∃ F, F = D.rot x2 x3 x4 := ⟨_, rfl⟩
                have HDF : Hid (F.q = [] ∧ F.n = N) := Lib.hid (by rw [hF]; exact ⟨(Jn.rot_q D x2 x3 x4).trans HQE.out.1, (DK.rot_n D x2 x3 x4).trans HQE.out.2⟩)
                rw [← hF] at HTx8
                clear hF
                have HTF := HTx8
                clear HM HQE HQL HRO HOB HOL HMM HI1
                go_upto_region 37 with fail
                go_cut [11, 12, 13] (fun jv uv ev wx => ∃ (e : Int) (E : DK) (o : OJ) (l : List Bytes) (uo : Option Addr) (un uc : Nat) (A9 : List Nat), jv = .pointer (jp o) ∧ uv = .slice uo un uc ∧ ev = .int .i64 e ∧ Hid (un = l.length ∧ Jn.openJ Dg.sum F = ((e, jj o), E) ∧ (∀ j, jj o = some j → l = j.l ∧ e = 0) ∧ (jj o = none → l = [])) ∧ Hid (TW w wx A9 Ax8 p p2 E F o o2) ∧ Hid (L2 A9 Ax8 wx (.slice uo un uc) l))
                case first =>
                  go_wp2_with fail
                  refine opened_t HTF HDF.out.1 (by rw [HDF.out.2]; omega) (fun e E o l uo un uc A9 w9 h1 h2 h3 h4 h5 h6 h7 => ?_)
                  have HA := Lib.hid (And.intro h1 (And.intro h2 (And.intro h3 h4)))
                  have HB := Lib.hid h6
                  have HC := Lib.hid h7
                  clear h1 h2 h3 h4 h5 h6 h7
                  go_wp2_with fail
                  go_meet
                  exact ⟨e, E, o, l, uo, un, uc, A9, rfl, rfl, rfl, HA, HB, HC⟩
                case rest =>
                  rename World => wv
                  obtain ⟨e3, E3, o3, l3, uo3, un3, uc3, A93, rfl, rfl, rfl, HA, HT1, HU⟩ := hcut
                  clear HTF
                  go_wp2_with fail
                  refine ropened_t HT1 HDF.out.1 (by rw [HDF.out.2]; omega) (fun e9 E9 o4 l9 vo4 un9 vc4 A4 w9 h1 h2 h3 h4 h5 h6 h7 => ?_)
                  obtain ⟨rfl, hjj, rfl⟩ := pair3 (HA.out.2.1.symm.trans h2)
                  have hll := same_l hjj HA.out.2.2.1 HA.out.2.2.2 h3 h4
                  subst hll
                  obtain rfl : un9 = un3 := h1.trans HA.out.1.symm
                  have HJJ := Lib.hid hjj
                  have HT2 := Lib.hid h6
                  have HV2 := Lib.hid h7
                  have HU2 := Lib.hid (HU.out.right h5)
                  clear h1 h2 h3 h4 h5 h6 h7 hjj
                  have HMID := Lib.hid (opened_mid (by omega) HDF.out HA.out.2.1 HA.out.2.2.1 HA.out.2.2.2 HJJ.out (k + 1))
                  go_wp2_with fail
                  go_roundw
                  case rel => exact ⟨k + 1, _, _, o3, o4, _, uo3, _, uc3, vo4, vc4, A93, A4, by omega, rfl, rfl, rfl, rfl, rfl, rfl, by go_num, HT2, HU2, HV2, Lib.hid ⟨HMID.out.1, HA.out.1, HMID.out.2⟩⟩
                  case measure => simp [intOf]; omega
            by_cases h4 : kd = 4
            · subst h4
              as_aux_lemma =>
                have c0 := HOB.out.1.cell (i := 0) rfl
                have c1 := HOB.out.1.cell (i := 1) rfl
                have c2 := HOB.out.1.cell (i := 2) rfl
                have c3 := HOB.out.1.cell (i := 3) rfl
                have c4 := HOB.out.1.cell (i := 4) rfl
                go_wp2_with fail
                clear c0 c1 c2 c3 c4
                refine stale_t HTO x2 (fun Ax9 wx9 ht h => ?_)
                have HTx9 : Hid (TW w wx9 Ax9 A2 p p2 (D.stale x2) (D) o o2) := Lib.hid h
                have HOBx9 : Hid (Blk wx9 ob [.int .i64 4, .slice ra m rc, .int .i64 x2, .int .i64 x3, .int .i64 x4] 36 ∧ w.heap.size ≤ ob ∧ ob ∉ Ax9 ∧ ob ∉ A2) := Lib.hid ⟨ht.1.blk HOB.out.1 HOB.out.2.2.1, HOB.out.2.1, fun hm => by rcases ht.2 ob hm with h9 | h9; exact HOB.out.2.2.1 h9; have := HOB.out.1.lt; omega, HOB.out.2.2.2⟩
                clear ht h
                have c0 := HOBx9.out.1.cell (i := 0) rfl
                have c1 := HOBx9.out.1.cell (i := 1) rfl
                have c2 := HOBx9.out.1.cell (i := 2) rfl
                have c3 := HOBx9.out.1.cell (i := 3) rfl
                have c4 := HOBx9.out.1.cell (i := 4) rfl
                go_wp2_with fail
                clear c0 c1 c2 c3 c4
                refine rstale_t HTx9 x2 (fun Ax10 wx10 ht h => ?_)
                have HTx10 : Hid (TW w wx10 Ax9 Ax10 p p2 (D.stale x2) (D.stale x2) o o2) := Lib.hid h
                have HOBx10 : Hid (Blk wx10 ob [.int .i64 4, .slice ra m rc, .int .i64 x2, .int .i64 x3, .int .i64 x4] 36 ∧ w.heap.size ≤ ob ∧ ob ∉ Ax9 ∧ ob ∉ Ax10) := Lib.hid ⟨ht.1.blk HOBx9.out.1 HOBx9.out.2.2.2, HOBx9.out.2.1, HOBx9.out.2.2.1, fun hm => by rcases ht.2 ob hm with h9 | h9; exact HOBx9.out.2.2.2 h9; have := HOBx9.out.1.lt; omega⟩
                clear ht h
                obtain ⟨F, hF⟩ : ∃ F, F = D.stale x2 := ⟨_, rfl⟩
                have HDF : Hid (F.q = [] ∧ F.n = N) := Lib.hid (by rw [hF]; exact ⟨(Jn.stale_q D x2).trans HQE.out.1, (DK.stale_n D x2).trans HQE.out.2⟩)
                rw [← hF] at HTx10
                clear hF
                have HTF := HTx10
                clear HM HQE HQL HRO HOB HOL HMM HI1
                go_upto_region 37 with fail
                go_cut [11, 12, 13] (fun jv uv ev wx => ∃ (e : Int) (E : DK) (o : OJ) (l : List Bytes) (uo : Option Addr) (un uc : Nat) (A9 : List Nat), jv = .pointer (jp o) ∧ uv = .slice uo un uc ∧ ev = .int .i64 e ∧ Hid (un = l.length ∧ Jn.openJ Dg.sum F = ((e, jj o), E) ∧ (∀ j, jj o = some j → l = j.l ∧ e = 0) ∧ (jj o = none → l = [])) ∧ Hid (TW w wx A9 Ax10 p p2 E F o o2) ∧ Hid (L2 A9 Ax10 wx (.slice uo un uc) l))
                case first =>
                  go_wp2_with fail
                  refine opened_t HTF HDF.out.1 (by rw [HDF.out.2]; omega) (fun e E o l uo un uc A9 w9 h1 h2 h3 h4 h5 h6 h7 => ?_)
                  have HA := Lib.hid (And.intro h1 (And.intro h2 (And.intro h3 h4)))
                  have HB := Lib.hid h6
                  have HC := Lib.hid h7
                  clear h1 h2 h3 h4 h5 h6 h7
                  go_wp2_with fail
                  go_meet
                  exact ⟨e, E, o, l, uo, un, uc, A9, rfl, rfl, rfl, HA, HB, HC⟩
                case rest =>
                  rename World => wv
                  obtain ⟨e3, E3, o3, l3, uo3, un3, uc3, A93, rfl, rfl, rfl, HA, HT1, HU⟩ := hcut
                  clear HTF
                  go_wp2_with fail
                  refine ropened_t HT1 HDF.out.1 (by rw [HDF.out.2]; omega) (fun e9 E9 o4 l9 vo4 un9 vc4 A4 w9 h1 h2 h3 h4 h5 h6 h7 => ?_)
                  obtain ⟨rfl, hjj, rfl⟩ := pair3 (HA.out.2.1.symm.trans h2)
                  have hll := same_l hjj HA.out.2.2.1 HA.out.2.2.2 h3 h4
                  subst hll
                  obtain rfl : un9 = un3 := h1.trans HA.out.1.symm
                  have HJJ := Lib.hid hjj
                  have HT2 := Lib.hid h6
                  have HV2 := Lib.hid h7
                  have HU2 := Lib.hid (HU.out.right h5)
                  clear h1 h2 h3 h4 h5 h6 h7 hjj
                  have HMID := Lib.hid (opened_mid (by omega) HDF.out HA.out.2.1 HA.out.2.2.1 HA.out.2.2.2 HJJ.out (k + 1))
                  go_wp2_with fail
                  go_roundw
                  case rel => exact ⟨k + 1, _, _, o3, o4, _, uo3, _, uc3, vo4, vc4, A93, A4, by omega, rfl, rfl, rfl, rfl, rfl, rfl, by go_num, HT2, HU2, HV2, Lib.hid ⟨HMID.out.1, HA.out.1, HMID.out.2⟩⟩
                  case measure => simp [intOf]; omega
            as_aux_lemma =>
              have f1 : (kd == 1) = false := by rw [beq_eq_false_iff_ne]; exact h1
              have f2 : (kd == 2) = false := by rw [beq_eq_false_iff_ne]; exact h2
              have f3 : (kd == 3) = false := by rw [beq_eq_false_iff_ne]; exact h3
              have f4 : (kd == 4) = false := by rw [beq_eq_false_iff_ne]; exact h4
              have HTS : Hid ((∀ x ∈ rs, x.length ≤ 1000000) ∧ (Jn.text rs).length ≤ 900000) := Lib.hid ⟨fun x hx => by have := HOL.out.2 x hx; omega, Jn.text_small HOL.out.1 HOL.out.2⟩
              rcases jj_some HM.out.1.2.2.1 with ⟨ho, ho2⟩ | ⟨b, j, v, b2, v2, ho, ho2⟩
              · subst ho
                subst ho2
                rw [show jp none = none from rfl]
                have c0 := HOB.out.1.cell (i := 0) rfl
                have c1 := HOB.out.1.cell (i := 1) rfl
                have c2 := HOB.out.1.cell (i := 2) rfl
                have c3 := HOB.out.1.cell (i := 3) rfl
                have c4 := HOB.out.1.cell (i := 4) rfl
                go_wp2_with fail
                clear c0 c1 c2 c3 c4
                refine append_nil _ _ (fun wy hc => ?_)
                have HTy := Lib.hid (HTO.out.quiet hc)
                have HBy : Hid (Blk wy ob [.int .i64 kd, .slice ra m rc, .int .i64 x2, .int .i64 x3, .int .i64 x4] 36) := Lib.hid (hc.blk HOB.out.1 (by simp))
                clear hc
                have c0 := HBy.out.cell (i := 0) rfl
                have c1 := HBy.out.cell (i := 1) rfl
                have c2 := HBy.out.cell (i := 2) rfl
                have c3 := HBy.out.cell (i := 3) rfl
                have c4 := HBy.out.cell (i := 4) rfl
                go_wp2_with fail
                clear c0 c1 c2 c3 c4
                refine rappend_nil _ _ ?_
                go_wp2_with fail
                go_roundw
                case rel => exact ⟨k + 1, 1, D, none, none, [], none, 0, 0, none, 0, A, A2, by omega, rfl, rfl, rfl, rfl, rfl, rfl, by go_num, HTy, Lib.hid (L2.nil _ _ _), Lib.hid (L2.nil _ _ _), Lib.hid ⟨⟨HQE.out.1, HQE.out.2, rfl, fun j hj => by cases hj⟩, rfl, Nat.zero_le _⟩⟩
                case measure => simp [intOf]; omega
              · subst ho
                subst ho2
                rw [show jp (some (b, j, v)) = some ⟨b, 0, none⟩ from rfl, show jp (some (b2, j, v2)) = some ⟨b2, 0, none⟩ from rfl]
                have HJI : Hid (Jn.JI N (2000 + 20 * k) j) := Lib.hid (HM.out.1.2.2.2 j rfl)
                have c0 := HOB.out.1.cell (i := 0) rfl
                have c1 := HOB.out.1.cell (i := 1) rfl
                have c2 := HOB.out.1.cell (i := 2) rfl
                have c3 := HOB.out.1.cell (i := 3) rfl
                have c4 := HOB.out.1.cell (i := 4) rfl
                go_wp2_with fail
                clear c0 c1 c2 c3 c4
                refine append_t HTO (.slice ra m rc) rs HRO (by have := HOL.out.1; omega) (Lib.hid HTS.out.1) (Lib.hid HTS.out.2) (by have := HJI.out.1; omega) (by have := HJI.out.1; have := HJI.out.2.1; omega) (by have := HJI.out.2.2; omega) HQL.out (fun e3 j3 E3 A3 v3 w3_ h1 h2 h3 => ?_)
                have HAP := Lib.hid h1
                have HT3 := Lib.hid h3
                have HR3 := Lib.hid (HRO.out.left h2)
                have HB3 : Hid (Blk w3_ ob [.int .i64 kd, .slice ra m rc, .int .i64 x2, .int .i64 x3, .int .i64 x4] 36) := Lib.hid (h2.1.blk HOB.out.1 HOB.out.2.2.1)
                clear h1 h2 h3
                have c0 := HB3.out.cell (i := 0) rfl
                have c1 := HB3.out.cell (i := 1) rfl
                have c2 := HB3.out.cell (i := 2) rfl
                have c3 := HB3.out.cell (i := 3) rfl
                have c4 := HB3.out.cell (i := 4) rfl
                go_wp2_with fail
                clear c0 c1 c2 c3 c4
                refine rappend_t HT3 (.slice ra m rc) rs HR3 (by have := HOL.out.1; omega) (Lib.hid HTS.out.1) (Lib.hid HTS.out.2) (by have := HJI.out.1; omega) (by have := HJI.out.1; have := HJI.out.2.1; omega) (by have := HJI.out.2.2; omega) HQL.out (fun e4 j4 E4 A4 v4 w4 h1 h2 h3 => ?_)
                obtain ⟨rfl, rfl, rfl⟩ := pair3 (HAP.out.symm.trans h1)
                have HT4 := Lib.hid h3
                clear h1 h2 h3
                have HIV := Lib.hid (Jn.append_inv Dg.sum_len HQE.out.1 HQE.out.2 HJI.out HAP.out)
                go_wp2_with fail
                go_roundw
                case rel => exact ⟨k + 1, e3, E3, some (b, j3, v3), some (b2, j3, v4), [], none, 0, 0, none, 0, A3, A4, by omega, rfl, rfl, rfl, rfl, rfl, rfl, by go_num, HT4, Lib.hid (L2.nil _ _ _), Lib.hid (L2.nil _ _ _), Lib.hid ⟨⟨HIV.out.1, HIV.out.2.1, rfl, fun jx hj => by have hj2 : some j3 = some jx := hj; injection hj2 with hj3; subst hj3; have h9 := HIV.out.2.2; have h8 := HOL.out.1; exact ⟨h9.1, h9.2.1, by have h7 := h9.2.2; omega⟩⟩, rfl, Nat.zero_le _⟩⟩
                case measure => simp [intOf]; omega
end Go.Proofs.YtpmkgedlnanjiaaGreatDoor
