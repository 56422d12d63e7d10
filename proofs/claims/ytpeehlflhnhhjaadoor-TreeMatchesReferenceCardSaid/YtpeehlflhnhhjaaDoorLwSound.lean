/-
  Layer 4: the walk of TreeSound.
-/
import Derived.Test.YtpeehlflhnhhjaaDoorTrO
namespace Go.Proofs.YtpeehlflhnhhjaaDoor
set_option linter.unusedVariables false
set_option linter.unusedSimpArgs false
open Go Go.RowKit Go.Shelf

theorem found_true (w : World) (HL : Hid (Laid w)) (v : Value) (l : List Bytes) (HV : Hid (Strs w v l)) (i : Nat) (hi : i < l.length) (hl : l.length ≤ 60) (HLS : Hid (∀ x ∈ l, x.length ≤ 1000000)) (t : Bytes) (ht : t.length ≤ 1000000) (u : Value) (ps : List Bytes) (HU : Hid (Strs w u ps)) (hps : ps.length ≤ 100) (HPS : Hid (∀ x ∈ ps, x.length ≤ 1000000)) (H : Hid (Tr.found l i t ps = true)) :
    Calls Tryd.prog 18 #[v, .int .i64 (i : Int), .string ⟨t.toArray⟩, u] w fun e w' => e = .returned (.bool true) ∧ Chg [] w w' := by
  have h := found_walk w HL v l HV i hi hl HLS t ht u ps HU hps HPS
  rwa [H.out] at h
theorem same_true (w : World) (v u : Value) (a b : List Bytes) (HV : Hid (Strs w v a)) (HU : Hid (Strs w u b)) (HA : Hid (a.length ≤ 9223372036854775807)) (HB : Hid (b.length ≤ 9223372036854775807)) (H : Hid (a = b)) :
    Calls Tryd.prog 15 #[v, u] w fun e w' => e = .returned (.bool true) ∧ Chg [] w w' := by
  have h := same_spec w v u a b HV HU HA HB
  rwa [decide_eq_true H.out] at h
theorem same_false (w : World) (v u : Value) (a b : List Bytes) (HV : Hid (Strs w v a)) (HU : Hid (Strs w u b)) (HA : Hid (a.length ≤ 9223372036854775807)) (HB : Hid (b.length ≤ 9223372036854775807)) (H : Hid (¬ a = b)) :
    Calls Tryd.prog 15 #[v, u] w fun e w' => e = .returned (.bool false) ∧ Chg [] w w' := by
  have h := same_spec w v u a b HV HU HA HB
  rwa [decide_eq_false H.out] at h
set_option maxRecDepth 100000 in
set_option maxHeartbeats 4000000 in
theorem sound_walk (w : World) (HL : Hid (Laid w)) (v : Value) (l : List Bytes) (HV : Hid (Strs w v l)) (HS : Hid (Small l)) (r : Nat) (hr : r < 256) (t : Bytes) (ht : t.length ≤ 9223372036854775807) (u : Value) (ps : List Bytes) (HU : Hid (Strs w u ps)) (HPS : Hid (Small ps)) :
    Calls Tryd.prog 5 #[v, .int .u8 (r : Int), .string ⟨t.toArray⟩, u] w fun e w' => e = .returned (.bool true) ∧ Chg [] w w' := by
  obtain ⟨ao, cap, rfl, hcap, hv⟩ := HV.out
  have HE := Lib.hid hv
  obtain ⟨m, hm⟩ : ∃ m, m = l.length := ⟨_, rfl⟩
  have hm9 : m ≤ 9223372036854775807 := by rw [hm]; exact HS.out.1
  have HV2 : Hid (Strs w (.slice ao m cap) l) := Lib.hid (by rw [hm]; exact HV.out)
  rw [← hm] at hcap ⊢
  have HM := Lib.hid hm
  clear hv hm
  cases hsh : Tr.short l 40 with
  | false =>
    have HSH := Lib.hid hsh
    clear hsh
    go_enter Tryd.func5, Tryd.ntmps5
    go_wp2_with fail
    refine (head_spec w HL).mono ?_
    rintro e w1 ⟨rfl, hc⟩
    have HC := Lib.hid hc
    clear hc
    go_wp2_with fail
    refine (short_no _ _ l (Lib.hid (HV2.out.quiet HC.out)) HS 40 (by decide) HSH).mono ?_
    rintro e w2 ⟨rfl, rfl⟩
    go_wp2_with fail
    go_ret
    exact ⟨rfl, HC.out⟩
  | true =>
    have HSH := Lib.hid hsh
    have hm60 : m ≤ 40 := by rw [HM.out]; exact short_len hsh
    clear hsh
    cases hsp : Tr.short ps 80 with
    | false =>
      have HSP := Lib.hid hsp
      clear hsp
      go_enter Tryd.func5, Tryd.ntmps5
      go_wp2_with fail
      refine (head_spec w HL).mono ?_
      rintro e w1 ⟨rfl, hc⟩
      have HC := Lib.hid hc
      clear hc
      go_wp2_with fail
      refine (short_yes _ _ l (Lib.hid (HV2.out.quiet HC.out)) HS 40 (by decide) HSH).mono ?_
      rintro e w2 ⟨rfl, rfl⟩
      go_wp2_with fail
      refine (short_no _ _ ps (Lib.hid (HU.out.quiet HC.out)) HPS 80 (by decide) HSP).mono ?_
      rintro e w2 ⟨rfl, rfl⟩
      go_wp2_with fail
      go_ret
      exact ⟨rfl, HC.out⟩
    | true =>
      have HSP := Lib.hid hsp
      have hp80 : ps.length ≤ 80 := short_len hsp
      have HPA := Lib.hid (short_all hsp)
      have HP8 := Lib.hid hp80
      clear hsp hp80
      by_cases hm0 : m = 0
      · subst hm0
        go_enter Tryd.func5, Tryd.ntmps5
        go_wp2_with fail
        refine (head_spec w HL).mono ?_
        rintro e w1 ⟨rfl, hc⟩
        have HC := Lib.hid hc
        clear hc
        go_wp2_with fail
        refine (short_yes _ _ l (Lib.hid (HV2.out.quiet HC.out)) HS 40 (by decide) HSH).mono ?_
        rintro e w2 ⟨rfl, rfl⟩
        go_wp2_with fail
        refine (short_yes _ _ ps (Lib.hid (HU.out.quiet HC.out)) HPS 80 (by decide) HSP).mono ?_
        rintro e w2 ⟨rfl, rfl⟩
        go_wp2_with fail
        go_ret
        exact ⟨rfl, HC.out⟩
      · have hm1 : 0 < m := by omega
        have hmz : ((m : Int) == 0) = false := by rw [beq_eq_false_iff_ne]; omega
        have HM0 := Lib.hid hm0
        clear hm0
        by_cases hmo : 200 < t.length
        · go_enter Tryd.func5, Tryd.ntmps5
          go_wp2_with fail
          refine (head_spec w HL).mono ?_
          rintro e w1 ⟨rfl, hc⟩
          have HC := Lib.hid hc
          clear hc
          go_wp2_with fail
          refine (short_yes _ _ l (Lib.hid (HV2.out.quiet HC.out)) HS 40 (by decide) HSH).mono ?_
          rintro e w2 ⟨rfl, rfl⟩
          go_wp2_with fail
          refine (short_yes _ _ ps (Lib.hid (HU.out.quiet HC.out)) HPS 80 (by decide) HSP).mono ?_
          rintro e w2 ⟨rfl, rfl⟩
          go_wp2_with fail
          go_ret
          exact ⟨rfl, HC.out⟩
        · have hmo' : t.length ≤ 200 := by omega
          have hr0 : (0 : Int) ≤ (r : Int) := by omega
          have hm2 : (0 : Int) < (m : Int) := by omega
          go_enter Tryd.func5, Tryd.ntmps5
          go_wp2_with fail
          refine (head_spec w HL).mono ?_
          rintro e w1 ⟨rfl, hc⟩
          have HC := Lib.hid hc
          clear hc
          go_wp2_with fail
          refine (short_yes _ _ l (Lib.hid (HV2.out.quiet HC.out)) HS 40 (by decide) HSH).mono ?_
          rintro e w2 ⟨rfl, rfl⟩
          go_wp2_with fail
          refine (short_yes _ _ ps (Lib.hid (HU.out.quiet HC.out)) HPS 80 (by decide) HSP).mono ?_
          rintro e w2 ⟨rfl, rfl⟩
          go_wp2_with fail
          obtain ⟨i, hi⟩ : ∃ i, i = r % m := ⟨_, rfl⟩
          have him : i < m := by rw [hi]; exact Nat.mod_lt _ hm1
          rw [u8_rem r m hm1 hr, ← hi]
          clear hi hr0
          have hi0 : (0 : Int) ≤ (i : Int) := by omega
          have hi1 : (i : Int) < (m : Int) := by omega
          have HIL : Hid (i < l.length) := Lib.hid (by rw [← HM.out]; exact him)
          have HALL := Lib.hid (short_all HSH.out)
          have HL0 : Hid (l ≠ []) := Lib.hid (by intro h; have := HIL.out; rw [h] at this; simp at this)
          have hm90 : m ≤ 900 := by omega
          have HT1 : Hid (t.length ≤ 1000000) := Lib.hid (by omega)
          have HP9 : Hid (ps.length ≤ 1000000) := Lib.hid (by have := HP8.out; omega)
          refine (root_cons _ (Lib.hid (HL.out.quiet HC.out)) _ l (Lib.hid (HV2.out.quiet HC.out)) HL0.out (by rw [← HM.out]; exact hm90) HALL).mono ?_
          rintro e w2 ⟨rfl, hc2⟩
          have HC2 := Lib.hid (HC.out.trans hc2 (by simp))
          clear hc2 HC
          go_wp2_with fail
          cases hck : Tr.check (Tr.root l) (m : Int) (i : Int) t ps with
          | false =>
            have HCK := Lib.hid hck
            clear hck
            refine (check_in_false _ (Lib.hid (HL.out.quiet HC2.out)) (Tr.root l) t m i ps _ (Lib.hid (HU.out.quiet HC2.out)) HT1.out HP9.out HPA hm9 him HCK).mono ?_
            rintro e w3 ⟨rfl, hc3⟩
            have HC3 := Lib.hid (HC2.out.trans hc3 (by simp))
            clear hc3 HC2
            go_wp2_with fail
            go_ret
            exact ⟨rfl, HC3.out⟩
          | true =>
            have HCK := Lib.hid hck
            have HFS := Lib.hid (Tr.found_sound l i t ps HIL.out (by rw [← HM.out]; exact hck))
            clear hck
            refine (check_in_true _ (Lib.hid (HL.out.quiet HC2.out)) (Tr.root l) t m i ps _ (Lib.hid (HU.out.quiet HC2.out)) HT1.out HP9.out HPA hm9 him HCK).mono ?_
            rintro e w3 ⟨rfl, hc3⟩
            have HC3 := Lib.hid (HC2.out.trans hc3 (by simp))
            clear hc3 HC2
            go_wp2_with fail
            refine (path_in _ (Lib.hid (HL.out.quiet HC3.out)) _ l (Lib.hid (HV2.out.quiet HC3.out)) (by rw [← HM.out]; omega) HALL i HIL.out).mono ?_
            rintro e w4 ⟨⟨q, rfl, hs⟩, hc4⟩
            have HC4 := Lib.hid (HC3.out.trans hc4 (by simp))
            have HQ := Lib.hid hs
            clear hs hc4 HC3
            obtain ⟨y, hy⟩ : ∃ y, l[i]? = some y := ⟨l[i]'HIL.out, by simp⟩
            obtain ⟨g, off, rfl, c0⟩ := HE.out i y hy
            have d0 := (World.cell?_of_block (HC4.out.block g (World.block_lt_of_cell? _ _ c0) (by simp))).trans c0
            have HYD : Hid (l.getD i [] = y) := Lib.hid (by rw [List.getD_eq_getElem?_getD, hy]; rfl)
            clear hy c0
            by_cases hty : t = y
            · have htb : (t == y) = true := by rw [beq_iff_eq]; exact hty
              have HTY := Lib.hid hty
              clear hty
              go_wp2_with fail
              by_cases hpp : Tr.path l i = ps
              · refine (same_true _ _ _ (Tr.path l i) ps HQ (Lib.hid (HU.out.quiet HC4.out)) (Lib.hid (by have := path_le l i; rw [← HM.out] at this; omega)) (Lib.hid (by have := HP8.out; omega)) (Lib.hid hpp)).mono ?_
                rintro e w5 ⟨rfl, hc5⟩
                have HC5 := Lib.hid (HC4.out.trans hc5 (by simp))
                clear hc5 HC4 hpp d0
                go_wp2_with fail
                go_ret
                exact ⟨rfl, HC5.out⟩
              · refine (same_false _ _ _ (Tr.path l i) ps HQ (Lib.hid (HU.out.quiet HC4.out)) (Lib.hid (by have := path_le l i; rw [← HM.out] at this; omega)) (Lib.hid (by have := HP8.out; omega)) (Lib.hid hpp)).mono ?_
                rintro e w5 ⟨rfl, hc5⟩
                have HC5 := Lib.hid (HC4.out.trans hc5 (by simp))
                have HFT : Hid (Tr.found l i t ps = true) := Lib.hid (HFS.out.resolve_right (fun h => hpp h.2.symm))
                clear hc5 HC4 hpp d0
                go_wp2_with fail
                refine (found_true _ (Lib.hid (HL.out.quiet HC5.out)) _ l (Lib.hid (HV2.out.quiet HC5.out)) i HIL.out (by rw [← HM.out]; omega) HALL t HT1.out _ ps (Lib.hid (HU.out.quiet HC5.out)) (by have := HP8.out; omega) HPA HFT).mono ?_
                rintro e w6 ⟨rfl, hc6⟩
                have HC6 := Lib.hid (HC5.out.trans hc6 (by simp))
                clear hc6 HC5
                go_wp2_with fail
                go_ret
                exact ⟨rfl, HC6.out⟩
            · have htb : (t == y) = false := by rw [beq_eq_false_iff_ne]; exact hty
              have HFT : Hid (Tr.found l i t ps = true) := Lib.hid (HFS.out.resolve_right (fun h => hty (by rw [h.1, HYD.out])))
              clear hty
              go_wp2_with fail
              refine (found_true _ (Lib.hid (HL.out.quiet HC4.out)) _ l (Lib.hid (HV2.out.quiet HC4.out)) i HIL.out (by rw [← HM.out]; omega) HALL t HT1.out _ ps (Lib.hid (HU.out.quiet HC4.out)) (by have := HP8.out; omega) HPA HFT).mono ?_
              rintro e w6 ⟨rfl, hc6⟩
              have HC6 := Lib.hid (HC4.out.trans hc6 (by simp))
              clear hc6 HC4 d0
              go_wp2_with fail
              go_ret
              exact ⟨rfl, HC6.out⟩
end Go.Proofs.YtpeehlflhnhhjaaDoor
