/-
  Journal: the walk of JournalDamaged.
-/
import Derived.Test.YtpmkgedlnanjiaaDoorJpF
import Derived.Test.YtpmkgedlnanjiaaDoorJnI
namespace Go.Proofs.YtpmkgedlnanjiaaDoor
set_option linter.unusedVariables false
set_option linter.unusedSimpArgs false
set_option maxRecDepth 100000
open Go Go.RowKit
attribute [local irreducible] Go.wpStill
set_option maxHeartbeats 4000000 in
theorem journalDamaged_walk (w : World) (HL : Hid (Laid w)) (s : Int) (hs : I64 s) (v : Value) (L : List OpV) (HL0 : Hid (RdS 5 ROp w v L)) (sc : Nat) (hsc : sc < 256) (at_ : Nat) (hat : at_ < 256) (mk : Nat) (hmk : mk < 256) (st : Bool) :
    Calls Tryd.prog 6 #[.int .i64 s, v, .int .u8 (sc : Int), .int .u8 (at_ : Int), .int .u8 (mk : Int), .bool st] w fun e w' => e = .returned (.bool true) ∧ Chg [] w w' := by
  have HB0 : Hid (Base w w []) := Lib.hid ⟨Chg.refl _ _, by simp, HL.out⟩
  obtain ⟨lo, lc, rfl, hle, hrc⟩ := HL0.out.form
  unfold Rch at hrc
  go_enter Tryd.func6, Tryd.ntmps6
  go_wp2_with fail
  refine head_r HL (fun w1 hc => ?_)
  have HB2 := Lib.hid (HB0.out.to (To.quiet hc))
  clear HB0
  clear hc
  go_wp2_with fail
  refine light_r s hs (.slice lo L.length lc) L (Lib.hid (HL0.out.keep kq_op HB2.out.chg)) (fun q hq => ?_)
  have HQ := Lib.hid hq
  clear hq
  cases q with
  | false =>
    go_wp2_with fail
    go_ret
    exact ⟨rfl, HB2.out.chg⟩
  | true =>
  have HLT : Hid (Light s L) := Lib.hid (HQ.out rfl)
  clear HQ
  go_wp2_with fail
  have HLr : Hid (Laid w1) := Lib.hid HB2.out.here
  refine filled_r HLr s _ L (Lib.hid (HL0.out.keep kq_op HB2.out.chg)) HLT (fun dv w9 hc hs3 => ?_) (fun n D c l p b u A lv w9 hsn h3 h40 hDn hlv hel hll hbs hz ho => ?_)
  · have hc9 : Chg [] w w9 := HB2.out.chg.trans hc (by simp)
    go_wp2_with fail
    go_ret
    exact ⟨rfl, hc9⟩
  subst hsn
  have HLI := Lib.hid hlv
  have HEL := Lib.hid hel
  have HDN := Lib.hid hDn
  have HLL := Lib.hid hll
  have hq0 : w1.heap.size = w1.heap.size := rfl
  have HBa : Hid (Base w w9 A) := Lib.hid ⟨HB2.out.chg.trans hbs.chg (by simp), fun k hk => Nat.le_trans HB2.out.size (hbs.ge k hk), HL.out⟩
  have HZa : Hid (JZ w.heap.size w9 A p b D ⟨n, c, l, false⟩ u) := Lib.hid (hz.low HB2.out.size)
  have HOa : Hid (Own w.heap.size A w9 lv l) := Lib.hid ⟨ho.1.less HB2.out.size, ho.2⟩
  obtain ⟨wo, wc, rfl⟩ := ho.1.form
  clear hlv hel hDn hll hbs hz ho hq0
  have HOP : Hid (Jn.openJ Dg.sum D = ((0, some ⟨n, c, l, false⟩), D)) := Lib.hid (by have h9 := HLI.out.openJ; rw [HDN.out] at h9; exact h9)
  have HQ0 : Hid (D.q.length ≤ 1000) := Lib.hid (by rw [HLI.out.q]; exact Nat.zero_le _)
  have HN0 : Hid (D.n ≤ 100) := Lib.hid (by rw [HDN.out]; omega)
  have HLB : Hid (l.length ≤ 1000000) := Lib.hid (by have := HLL.out; omega)
  have HCN : Hid (c + 2 ≤ n) := Lib.hid (by have h9 := HLI.out.lies.cn; rw [HDN.out] at h9; exact h9)
  have y0 : ¬ (n : Int) = 0 := by omega
  have y1 : IntKind.i64.wrap (sc : Int) = (sc : Int) := IntWalk.i64_in _ (by omega)
  have y2 : IntKind.i64.wrap (at_ : Int) = (at_ : Int) := IntWalk.i64_in _ (by omega)
  have y3 : IntKind.i64.wrap (mk : Int) = (mk : Int) := IntWalk.i64_in _ (by omega)
  have HDG : Hid (Jn.Dig Dg.sum) := Lib.hid Jn.dig_sum
  cases st with
  | true =>
    go_wp2_with fail
    refine stale_z HZa _ (fun A3 w4 ht hz => ?_)
    have HB5 := Lib.hid (HBa.out.to ht)
    have HZ6 := Lib.hid (hz)
    have Hwant7 := Lib.hid (HOa.out.to ht)
    clear HBa HZa HOa
    clear ht hz
    obtain ⟨E, hE⟩ : ∃ E, E = D.stale ((sc : Int) % (n : Int)) := ⟨_, rfl⟩
    have HOR : Hid ((∃ F, Jn.openJ Dg.sum E = ((25, none), F)) ∨ ∃ F, Jn.openJ Dg.sum E = ((0, some ⟨n, c, l, false⟩), F)) := Lib.hid (by rw [hE]; have h9 := Jn.stale_open HDG.out HLI.out (by rw [HDN.out]; omega) HEL.out ((sc : Int) % (n : Int)); rw [HDN.out] at h9; exact h9)
    have HEQ : Hid (E.q.length ≤ 1000) := Lib.hid (by rw [hE, Jn.stale_q]; exact HQ0.out)
    have HEN : Hid (E.n ≤ 100) := Lib.hid (by rw [hE, DK.stale_n]; exact HN0.out)
    rw [← hE] at HZ6
    clear hE y0 y1 y2 y3
    go_wp2_with fail
    rcases HOR.out with ⟨F, hF⟩ | ⟨F, hF⟩
    · have HF := Lib.hid hF
      clear hF
      refine open_z HB5 HZ6 (HEQ.out) (HEN.out) (fun e E A13 w14 he ht hz => ?_) (fun j9 E b10 v11 u12 A8 w9 he ht hz hj hl => ?_)
      rotate_left
      · have h9 := (HF.out).symm.trans he
        cases h9
      obtain ⟨rfl, -, rfl⟩ := pair3 ((HF.out).symm.trans he)
      clear he
      have HB15 := Lib.hid (HB5.out.to ht)
      have HZ16 := Lib.hid (hz)
      have Hwant17 := Lib.hid (Hwant7.out.to ht)
      clear HB5 HZ6 Hwant7
      clear ht hz
      go_wp2_with fail
      go_ret
      exact ⟨rfl, HB15.out.chg⟩
    · have HF := Lib.hid hF
      clear hF
      refine open_z HB5 HZ6 (HEQ.out) (HEN.out) (fun e E A23 w24 he ht hz => ?_) (fun j9 E b20 v21 u22 A18 w19 he ht hz hj hl => ?_)
      · have h9 := (HF.out).symm.trans he
        cases h9
      obtain ⟨-, h8, rfl⟩ := pair3 ((HF.out).symm.trans he)
      injection h8 with h8
      subst h8
      clear he
      have HB25 := Lib.hid (HB5.out.to ht)
      have HZ26 := Lib.hid (hz)
      have Hwant27 := Lib.hid (Hwant7.out.to ht)
      clear HB5 HZ6 Hwant7
      have HO2830 := Lib.hid (hl)
      obtain ⟨ao31, cap32, rfl⟩ := hl.1.form
      have HJ2933 : Hid (JB w.heap.size A18 w19 b20 p ⟨n, c, l, false⟩ v21) := Lib.hid (hj)
      clear ht hz hl hj
      go_wp2_with fail
      refine same_z _ _ _ _ (Lib.hid (HO2830.out.lst)) (Lib.hid (Hwant27.out.lst)) (HLB.out) (HLB.out) (fun w34 hc => ?_)
      rw [decide_eq_true rfl]
      have HB35 := Lib.hid (HB25.out.to (To.quiet hc))
      have HZ36 := Lib.hid (HZ26.out.quiet hc)
      have Hwant37 := Lib.hid (Hwant27.out.to (To.quiet hc))
      have HO2838 := Lib.hid (HO2830.out.to (To.quiet hc))
      have HJ2939 := Lib.hid (HJ2933.out.to (To.quiet hc))
      clear HB25 HZ26 Hwant27 HO2830 HJ2933
      clear hc
      go_wp2_with fail
      go_ret
      exact ⟨rfl, HB35.out.chg⟩
  | false =>
    go_wp2_with fail
    refine rot_z HZa _ _ _ (fun A40 w41 ht hz => ?_)
    have HB42 := Lib.hid (HBa.out.to ht)
    have HZ43 := Lib.hid (hz)
    have Hwant44 := Lib.hid (HOa.out.to ht)
    clear HBa HZa HOa
    clear ht hz
    obtain ⟨E, hE⟩ : ∃ E, E = D.rot ((sc : Int) % (n : Int)) ((at_ : Int) % 64) (mk : Int) := ⟨_, rfl⟩
    have HOR : Hid ((∃ F, Jn.openJ Dg.sum E = ((25, none), F)) ∨ ∃ F, Jn.openJ Dg.sum E = ((0, some ⟨n, c, l, false⟩), F)) := Lib.hid (by rw [hE]; have h9 := Jn.rot_open HDG.out Dg.sum_one HLI.out (by rw [HDN.out]; omega) ((sc : Int) % (n : Int)) ((at_ : Int) % 64) (mk : Int); rw [HDN.out] at h9; exact h9)
    have HEQ : Hid (E.q.length ≤ 1000) := Lib.hid (by rw [hE, Jn.rot_q]; exact HQ0.out)
    have HEN : Hid (E.n ≤ 100) := Lib.hid (by rw [hE, DK.rot_n]; exact HN0.out)
    rw [← hE] at HZ43
    clear hE y0 y1 y2 y3
    go_wp2_with fail
    rcases HOR.out with ⟨F, hF⟩ | ⟨F, hF⟩
    · have HF := Lib.hid hF
      clear hF
      refine open_z HB42 HZ43 (HEQ.out) (HEN.out) (fun e E A50 w51 he ht hz => ?_) (fun j9 E b47 v48 u49 A45 w46 he ht hz hj hl => ?_)
      rotate_left
      · have h9 := (HF.out).symm.trans he
        cases h9
      obtain ⟨rfl, -, rfl⟩ := pair3 ((HF.out).symm.trans he)
      clear he
      have HB52 := Lib.hid (HB42.out.to ht)
      have HZ53 := Lib.hid (hz)
      have Hwant54 := Lib.hid (Hwant44.out.to ht)
      clear HB42 HZ43 Hwant44
      clear ht hz
      go_wp2_with fail
      go_ret
      exact ⟨rfl, HB52.out.chg⟩
    · have HF := Lib.hid hF
      clear hF
      refine open_z HB42 HZ43 (HEQ.out) (HEN.out) (fun e E A60 w61 he ht hz => ?_) (fun j9 E b57 v58 u59 A55 w56 he ht hz hj hl => ?_)
      · have h9 := (HF.out).symm.trans he
        cases h9
      obtain ⟨-, h8, rfl⟩ := pair3 ((HF.out).symm.trans he)
      injection h8 with h8
      subst h8
      clear he
      have HB62 := Lib.hid (HB42.out.to ht)
      have HZ63 := Lib.hid (hz)
      have Hwant64 := Lib.hid (Hwant44.out.to ht)
      clear HB42 HZ43 Hwant44
      have HO6567 := Lib.hid (hl)
      obtain ⟨ao68, cap69, rfl⟩ := hl.1.form
      have HJ6670 : Hid (JB w.heap.size A55 w56 b57 p ⟨n, c, l, false⟩ v58) := Lib.hid (hj)
      clear ht hz hl hj
      go_wp2_with fail
      refine same_z _ _ _ _ (Lib.hid (HO6567.out.lst)) (Lib.hid (Hwant64.out.lst)) (HLB.out) (HLB.out) (fun w71 hc => ?_)
      rw [decide_eq_true rfl]
      have HB72 := Lib.hid (HB62.out.to (To.quiet hc))
      have HZ73 := Lib.hid (HZ63.out.quiet hc)
      have Hwant74 := Lib.hid (Hwant64.out.to (To.quiet hc))
      have HO6575 := Lib.hid (HO6567.out.to (To.quiet hc))
      have HJ6676 := Lib.hid (HJ6670.out.to (To.quiet hc))
      clear HB62 HZ63 Hwant64 HO6567 HJ6670
      clear hc
      go_wp2_with fail
      go_ret
      exact ⟨rfl, HB72.out.chg⟩
end Go.Proofs.YtpmkgedlnanjiaaDoor
