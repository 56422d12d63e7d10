/-
  Layer 4: the walk of TreeMatchesReference.
-/
import Derived.Test.YtpeehlflhnhhjaaDoorRgH
namespace Go.Proofs.YtpeehlflhnhhjaaDoor
set_option linter.unusedVariables false
set_option linter.unusedSimpArgs false
open Go Go.RowKit Go.Shelf

set_option maxRecDepth 100000 in
set_option maxHeartbeats 4000000 in
theorem matches_walk (w : World) (HL : Hid (Laid w)) (v : Value) (l : List Bytes) (HV : Hid (Strs w v l)) (HS : Hid (Small l)) (i : Int) (hi : -9223372036854775808 ≤ i ∧ i ≤ 9223372036854775807) (rt : Bytes) (hrt : rt.length ≤ 140737488351232) (n : Int) (hn : -9223372036854775808 ≤ n ∧ n ≤ 9223372036854775807) (k : Int) (hk : -9223372036854775808 ≤ k ∧ k ≤ 9223372036854775807) (t : Bytes) (ht : t.length ≤ 140737488351232) (u : Value) (ps : List Bytes) (HU : Hid (Strs w u ps)) (HPS : Hid (Small ps)) :
    Calls Tryd.prog 3 #[v, .int .i64 i, .string ⟨rt.toArray⟩, .int .i64 n, .int .i64 k, .string ⟨t.toArray⟩, u] w fun e w' => e = .returned (.bool true) ∧ Chg [] w w' := by
  cases hsh : Tr.short l 40 with
  | false =>
    have HSH := Lib.hid hsh
    clear hsh
    go_enter Tryd.func3, Tryd.ntmps3
    go_wp2_with fail
    refine (head_spec w HL).mono ?_
    rintro e w1 ⟨rfl, hc⟩
    have HC := Lib.hid hc
    clear hc
    go_wp2_with fail
    refine (short_no _ _ l (Lib.hid (HV.out.quiet HC.out)) HS 40 (by decide) HSH).mono ?_
    rintro e w2 ⟨rfl, rfl⟩
    go_wp2_with fail
    go_ret
    exact ⟨rfl, HC.out⟩
  | true =>
    have HSH := Lib.hid hsh
    have HALL := Lib.hid (short_all hsh)
    have hl40 : l.length ≤ 40 := short_len hsh
    have HL4 := Lib.hid hl40
    clear hsh hl40
    cases hsp : Tr.short ps 80 with
    | false =>
      have HSP := Lib.hid hsp
      clear hsp
      go_enter Tryd.func3, Tryd.ntmps3
      go_wp2_with fail
      refine (head_spec w HL).mono ?_
      rintro e w1 ⟨rfl, hc⟩
      have HC := Lib.hid hc
      clear hc
      go_wp2_with fail
      refine (short_yes _ _ l (Lib.hid (HV.out.quiet HC.out)) HS 40 (by decide) HSH).mono ?_
      rintro e w2 ⟨rfl, rfl⟩
      go_wp2_with fail
      refine (short_no _ _ ps (Lib.hid (HU.out.quiet HC.out)) HPS 80 (by decide) HSP).mono ?_
      rintro e w2 ⟨rfl, rfl⟩
      go_wp2_with fail
      go_ret
      exact ⟨rfl, HC.out⟩
    | true =>
      have HSP := Lib.hid hsp
      have HPA := Lib.hid (short_all hsp)
      have hp80 : ps.length ≤ 80 := short_len hsp
      have HP8 := Lib.hid hp80
      clear hsp hp80
      have hbig : (rt.length : Int) + t.length ≤ 9223372036854775807 := by omega
      by_cases h300 : 300 < rt.length + t.length
      · have h3 : (300 : Int) < (rt.length : Int) + (t.length : Int) := by omega
        go_enter Tryd.func3, Tryd.ntmps3
        go_wp2_with fail
        refine (head_spec w HL).mono ?_
        rintro e w1 ⟨rfl, hc⟩
        have HC := Lib.hid hc
        clear hc
        go_wp2_with fail
        refine (short_yes _ _ l (Lib.hid (HV.out.quiet HC.out)) HS 40 (by decide) HSH).mono ?_
        rintro e w2 ⟨rfl, rfl⟩
        go_wp2_with fail
        refine (short_yes _ _ ps (Lib.hid (HU.out.quiet HC.out)) HPS 80 (by decide) HSP).mono ?_
        rintro e w2 ⟨rfl, rfl⟩
        go_wp2_with fail
        go_ret
        exact ⟨rfl, HC.out⟩
      · have h3 : ¬ (300 : Int) < (rt.length : Int) + (t.length : Int) := by omega
        have HT1 : Hid (t.length ≤ 1000000) := Lib.hid (by omega)
        have HP9 : Hid (ps.length ≤ 1000000) := Lib.hid (by have := HP8.out; omega)
        have hn2 := hn.2
        have HPX : Hid ((Tr.pans l i).length ≤ 9223372036854775807) := Lib.hid (by
          unfold Tr.pans
          split
          · have h1 := path_le l i.toNat
            have := HL4.out
            omega
          · simp)
        go_enter Tryd.func3, Tryd.ntmps3
        go_wp2_with fail
        refine (head_spec w HL).mono ?_
        rintro e w1 ⟨rfl, hc⟩
        have HC := Lib.hid hc
        clear hc
        go_wp2_with fail
        refine (short_yes _ _ l (Lib.hid (HV.out.quiet HC.out)) HS 40 (by decide) HSH).mono ?_
        rintro e w2 ⟨rfl, rfl⟩
        go_wp2_with fail
        refine (short_yes _ _ ps (Lib.hid (HU.out.quiet HC.out)) HPS 80 (by decide) HSP).mono ?_
        rintro e w2 ⟨rfl, rfl⟩
        go_wp2_with fail
        refine (path_any _ (Lib.hid (HL.out.quiet HC.out)) _ l (Lib.hid (HV.out.quiet HC.out)) (by have := HL4.out; omega) HALL i).mono ?_
        rintro e w3 ⟨⟨a, rfl, ha⟩, hc2⟩
        have HC2 := Lib.hid (HC.out.trans hc2 (by simp))
        have HA := Lib.hid ha
        clear ha
        clear hc2
        go_wp2_with fail
        refine (rpath_any _ _ l (Lib.hid (HV.out.quiet HC2.out)) (by have := HL4.out; omega) HALL i).mono ?_
        rintro e w4 ⟨⟨b, rfl, hb⟩, hc3⟩
        have HC3 := Lib.hid (HC2.out.trans hc3 (by simp))
        have HB := Lib.hid hb
        have HA3 := Lib.hid (HA.out.quiet hc3)
        clear hb
        clear hc3
        go_wp2_with fail
        refine (root_any _ (Lib.hid (HL.out.quiet HC3.out)) _ l (Lib.hid (HV.out.quiet HC3.out)) (by have := HL4.out; omega) HALL).mono ?_
        rintro e w5 ⟨rfl, hc4⟩
        have HC4 := Lib.hid (HC3.out.trans hc4 (by simp))
        have HA4 := Lib.hid (HA3.out.quiet hc4)
        have HB4 := Lib.hid (HB.out.quiet hc4)
        clear hc4
        go_wp2_with fail
        refine (rroot_spec _ _ l (Lib.hid (HV.out.quiet HC4.out)) (by have := HL4.out; omega) HALL).mono ?_
        rintro e w6 ⟨rfl, hc5⟩
        have HC5 := Lib.hid (HC4.out.trans hc5 (by simp))
        have HA5 := Lib.hid (HA4.out.quiet hc5)
        have HB5 := Lib.hid (HB4.out.quiet hc5)
        clear hc5
        go_wp2_with fail
        refine (same_true _ a b _ _ HA5 HB5 HPX HPX (Lib.hid rfl)).mono ?_
        rintro e w7 ⟨rfl, hc6⟩
        have HC6 := Lib.hid (HC5.out.trans hc6 (by simp))
        clear hc6
        go_wp2_with fail
        refine (check_any _ (Lib.hid (HL.out.quiet HC6.out)) rt t n k ps _ (Lib.hid (HU.out.quiet HC6.out)) HT1.out HP9.out HPA hn2).mono ?_
        rintro e w8 ⟨rfl, hc7⟩
        have HC7 := Lib.hid (HC6.out.trans hc7 (by simp))
        clear hc7
        go_wp2_with fail
        refine (rcheck_any _ rt t n k ps _ (Lib.hid (HU.out.quiet HC7.out)) HT1.out HP9.out HPA hn2).mono ?_
        rintro e w9 ⟨rfl, hc8⟩
        have HC8 := Lib.hid (HC7.out.trans hc8 (by simp))
        clear hc8
        go_wp2_with fail
        go_ret
        exact ⟨rfl, HC8.out⟩
end Go.Proofs.YtpeehlflhnhhjaaDoor
