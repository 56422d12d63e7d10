/-
  Journal: the walk of JournalForeign.
-/
import Derived.Test.YtpmkgedlnanjiaaDoorJpF
import Derived.Test.YtpmkgedlnanjiaaDoorJnI
import Derived.Test.YtpmkgedlnanjiaaDoorJnL
namespace Go.Proofs.YtpmkgedlnanjiaaDoor
set_option linter.unusedVariables false
set_option linter.unusedSimpArgs false
set_option maxRecDepth 100000
open Go Go.RowKit
attribute [local irreducible] Go.wpStill
theorem zeros_r {w : World} (n : Nat) (hn : n ≤ 1000000) {R : Ending → World → Prop} (h : ∀ w', Chg [] w w' → R (.returned (.string ⟨(List.replicate n (0 : UInt8)).toArray⟩)) w') :
    Calls Tryd.prog 47 #[.int .i64 (n : Int)] w R := by
  have HRR := Lib.hid h
  clear h
  have hmk := make_bytes n hn
  go_enter Tryd.func47, Tryd.ntmps47
  have hcv : (convert 52 9 (.slice (some ⟨w.heap.size, 0, none⟩) n n)).run Tryd.prog (w.alloc (.cells ((List.replicate n (0 : UInt8)).map B8).toArray 5)) = .ok (.string ⟨(List.replicate n (0 : UInt8)).toArray⟩) (w.alloc (.cells ((List.replicate n (0 : UInt8)).map B8).toArray 5)) := by
    have hrun' : (Conv.bytesToString (.slice (some ⟨w.heap.size, 0, none⟩) n n)).run Tryd.prog (w.alloc (.cells ((List.replicate n (0 : UInt8)).map B8).toArray 5)) = .ok (.string ⟨(List.replicate n (0 : UInt8)).toArray⟩) _ := run_bytes_of (l := List.replicate n 0) (Blk.new w ((List.replicate n (0 : UInt8)).map B8) _) (by simp) (fun j hj => by rw [Nat.zero_add])
    rw [run_convert_bytes_string _ _ _ 5 _ _ _ Tryd.underlying52 Tryd.underlying5 Tryd.underlying9]
    exact hrun'
  obtain ⟨Z, hZ⟩ : ∃ Z, Z = ((List.replicate n (0 : UInt8)).map B8).toArray := ⟨_, rfl⟩
  rw [← hZ] at hmk hcv
  clear hZ
  go_wp2_with fail
  exact HRR.out _ ((Chg.refl _ _).alloc _)
theorem zero64_r {w : World} {R : Ending → World → Prop} (h : ∀ w', Chg [] w w' → R (.returned (.string ⟨Jn.zero.toArray⟩)) w') : Calls Tryd.prog 19 #[] w R := by
  have HRR := Lib.hid h
  clear h
  go_enter Tryd.func19, Tryd.ntmps19
  go_wp2_with fail
  refine zeros_r 64 (by decide) (fun w2 hc => ?_)
  rw [show List.replicate 64 (0 : UInt8) = Jn.zero from rfl]
  go_wp2_with fail
  exact HRR.out _ hc
set_option maxHeartbeats 4000000 in
theorem journalForeign_walk (w : World) (HL : Hid (Laid w)) (v : Value) (C : List Bytes) (HL0 : Hid (RdS 1 RStr w v C)) :
    Calls Tryd.prog 5 #[v] w fun e w' => e = .returned (.bool true) ∧ Chg [] w w' := by
  have HB0 : Hid (Base w w []) := Lib.hid ⟨Chg.refl _ _, by simp, HL.out⟩
  obtain ⟨lo, lc, rfl, hle, hrc⟩ := HL0.out.form
  unfold Rch at hrc
  obtain ⟨n, hn⟩ : ∃ n, n = C.length := ⟨_, rfl⟩
  rw [← hn] at HL0 hle hrc ⊢
  have HN := Lib.hid hn
  clear hn
  go_enter Tryd.func5, Tryd.ntmps5
  go_wp2_with fail
  refine head_r HL (fun w1 hc => ?_)
  have HB2 := Lib.hid (HB0.out.to (To.quiet hc))
  clear HB0
  clear hc
  by_cases h3 : n < 3
  · have z1 : (n : Int) < 3 := by omega
    go_wp2_with fail
    go_ret
    exact ⟨rfl, HB2.out.chg⟩
  have z1 : ¬ (n : Int) < 3 := by omega
  by_cases h40 : 40 < n
  · have z2 : (40 : Int) < (n : Int) := by omega
    go_wp2_with fail
    go_ret
    exact ⟨rfl, HB2.out.chg⟩
  have z2 : ¬ (40 : Int) < (n : Int) := by omega
  go_wp2_with fail
  refine new_d HB2 n (by omega) (by omega) (fun p A3 w4 ht hd => ?_)
  have HB5 := Lib.hid (HB2.out.to ht)
  clear HB2
  have HD6 := Lib.hid (hd)
  clear ht hd
  go_wp2_with fail
  go_loopw [5] (fun iv wr => ∃ (k : Nat) (D : DK) (A : List Nat), k ≤ n ∧ iv = .int .i64 (k : Int) ∧ Hid (Base w wr A) ∧ Hid (DkAt wr A p D) ∧ Hid (Jn.On D ∧ D.n = n ∧ D.q.length ≤ k)) (fun iv _ => n - (intOf iv).toNat)
  case atStart => exact ⟨0, _, _, Nat.zero_le _, rfl, HB5, HD6, Lib.hid ⟨Jn.new_on (by omega) (by omega), rfl, Nat.le_refl _⟩⟩
  case round =>
    obtain ⟨k, D, A, hk, rfl, HB, HD, HI⟩ := hrel
    by_cases hlt2 : k < n
    · obtain ⟨x, hx⟩ : ∃ x, C[k]? = some x := ⟨C[k]'(by rw [← HN.out]; exact hlt2), by simp⟩
      obtain ⟨gg, off, hag, hc1, hrx⟩ := HL0.out.str_at hx
      subst hag
      unfold Rch at hrx
      have HC1 := Lib.hid hc1
      clear hc1 hx
      obtain ⟨xb, hxb⟩ : ∃ z : ByteArray, z = ⟨x.toArray⟩ := ⟨_, rfl⟩
      obtain ⟨xn, hxn⟩ : ∃ n, n = x.length := ⟨_, rfl⟩
      have hsz : xb.size = xn := by rw [hxb, hxn]; rfl
      rw [← hxb] at HC1
      rw [← hxn] at hrx
      have HXB := Lib.hid hxb
      have HXN := Lib.hid hxn
      clear hxb hxn
      have c1 := cell_quiet HB.out.chg HC1.out (by simp)
      have q0 : (0 : Int) ≤ (k : Int) := by omega
      have q1 : (k : Int) < (n : Int) := by omega
      by_cases h100 : 100 < xn
      · have q2 : (100 : Int) < (xn : Int) := by omega
        go_wp2_with fail
        go_ret
        exact ⟨rfl, HB.out.chg⟩
      have q2 : ¬ (100 : Int) < (xn : Int) := by omega
      go_upto_region 10 with (fail)
      refine wp_region_held_drew (S := fun W' => Chg [] wr W') (by kernel_rfl) ((Chg.refl _ _).drew) (fun hHeld => ?_)
      obtain ⟨wd, hwd⟩ : ∃ x, x = wr.drew := ⟨_, rfl⟩
      rw [← hwd] at hHeld ⊢
      clear hwd c1
      refine tk 0 ?va0 ?hya0 ?rsa0
      case hya0 => (intro w9 hSw; go_simp; try with_reducible rfl)
      try simp only [qq]
      refine tk 1 ?va1 ?hya1 ?rsa1
      case hya1 => (intro w9 hSw; go_simp; try with_reducible rfl)
      try simp only [qq]
      refine tk 2 ?va2 ?hya2 ?rsa2
      case hya2 => (intro w9 hSw; go_simp; try with_reducible rfl)
      try simp only [qq]
      refine tk 3 ?va3 ?hya3 ?rsa3
      case hya3 => (intro w9 hSw; have t0 := cell_quiet (HB.out.chg.trans hSw (by simp)) HC1.out (by simp); go_simp; try with_reducible rfl)
      try simp only [qq]
      refine rd1 4 (fun K hK => ?_)
      go_simp
      refine zero64_r (fun w4 h4 => ?_)
      have C4 : Hid (Chg [] wr w4) := Lib.hid (hHeld.trans h4 (by simp))
      obtain ⟨zb, hzb⟩ : ∃ z : ByteArray, z = ⟨Jn.zero.toArray⟩ := ⟨_, rfl⟩
      rw [← hzb]
      have hzs : zb.size = 64 := by rw [hzb]; rfl
      have HZB := Lib.hid hzb
      clear h4 hzb
      refine hK.out _ _ C4.out (fun hHeld => ?_)
      clear hK K
      try simp only [qq]
      have q3 : ¬ 9223372036854775807 < xn + 64 := by omega
      refine tk 5 ?va5 ?hya5 ?rsa5
      case hya5 => (intro w9 hSw; go_simp; try with_reducible rfl)
      try simp only [qq]
      refine tk 6 ?va6 ?hya6 ?rsa6
      case hya6 => (intro w9 hSw; go_simp; try with_reducible rfl)
      try simp only [qq]
      refine wpAnyH_done (by kernel_rfl) ?_ _
      try simp only [qq]
      clear hHeld
      obtain ⟨sb, hsb⟩ : ∃ z : ByteArray, z = xb ++ zb := ⟨_, rfl⟩
      have hss : sb.size = xn + 64 := by rw [hsb, ByteArray.size_append, hsz, hzs]
      rw [← hsb]
      have HSB : Hid (sb = ⟨(x ++ Jn.zero).toArray⟩) := Lib.hid (by rw [hsb, HXB.out, HZB.out]; apply ByteArray.ext; simp)
      clear hsb
      have HEX : Hid (sb.extract 0 64 = ⟨((x ++ Jn.zero).take 64).toArray⟩) := Lib.hid (cutTo44 HSB 64)
      have q4 : (64 : Int) ≤ (xn : Int) + 64 := by omega
      have HB7 := Lib.hid (HB.out.to (To.quiet C4.out))
      have HD8 := Lib.hid (HD.out.kept C4.out (by simp))
      clear HB HD
      go_wp2_with fail
      obtain ⟨s, hs⟩ : ∃ s : Bytes, s = (x ++ Jn.zero).take 64 := ⟨_, rfl⟩
      rw [← hs] at HEX
      rw [HEX.out]
      have HSL : Hid (s.length = 64) := Lib.hid (by rw [hs, List.length_take, List.length_append, Jn.zero_len]; omega)
      clear hs
      obtain ⟨p1, p2, p3, p4⟩ := HI.out.1.push (p := k) (s := s) (by rw [HI.out.2.1]; exact hlt2) HSL.out
      refine (write_spec HD8.out (by have := HI.out.2.2; omega) (k : Int) ⟨s.toArray⟩).mono ?_
      rintro e w5 ⟨rfl, hd⟩
      rw [show (⟨s.toArray⟩ : ByteArray).data.toList = s from rfl, p1] at hd ⊢
      obtain ⟨A2, hd2, ht⟩ := hd.to
      have HP : Hid (Jn.On (D.push (k : Int) s) ∧ (D.push (k : Int) s).n = n ∧ (D.push (k : Int) s).q.length ≤ k + 1) := Lib.hid ⟨p2, p3.trans HI.out.2.1, by have := HI.out.2.2; omega⟩
      clear p1 p2 p3 p4 hd
      have HB9 := Lib.hid (HB7.out.to ht)
      have HD10 := Lib.hid (hd2)
      clear HB7 HD8
      clear ht hd2
      go_wp2_with fail
      go_roundw
      case rel => exact ⟨k + 1, _, _, by omega, by go_num, HB9, HD10, HP⟩
      case measure => simp [intOf]; omega
    · have hkn : k = n := by omega
      subst hkn
      have HQ0 : Hid (D.q.length ≤ 1000) := Lib.hid (by have := HI.out.2.2; omega)
      have HN0 : Hid (D.n ≤ 100) := Lib.hid (by rw [HI.out.2.1]; omega)
      clear hk hlt2
      go_wp2_with fail
      rcases Jn.open_on (sm := Dg.sum) Dg.sum_len HI.out.1 (by rw [HI.out.2.1]; omega) with ⟨hF, -⟩ | ⟨c, l, E, ha, hF, he1, he2, he3, he4, he5⟩
      · refine open_d HB HD HQ0.out HN0.out (fun e E A11 w12 he ht hz => ?_) (fun j9 E b9 v9 u9 A9 w9 he ht hz hl => ?_)
        rotate_left
        · have h9 := hF.symm.trans he
          cases h9
        obtain ⟨rfl, -, -⟩ := pair3 (hF.symm.trans he)
        clear he hF
        clear HD
        have HB13 := Lib.hid (HB.out.to ht)
        clear HB
        clear ht hz
        go_wp2_with fail
        go_ret
        exact ⟨rfl, HB13.out.chg⟩
      · have HF : Hid (Jn.openJ Dg.sum D = ((0, some ⟨k, c, l, false⟩), E)) := Lib.hid (by rw [hF, HI.out.2.1])
        have HE : Hid (Jn.On E ∧ E.n = k ∧ Jn.At Dg.sum E c l ∧ Jn.Neat Dg.sum E c ∧ E.q.length ≤ 1000) := Lib.hid ⟨he1, he2.trans HI.out.2.1, he3, he4, by rcases he5 with rfl | h9; exact HQ0.out; (rw [h9]; exact Nat.zero_le _)⟩
        clear ha hF he1 he2 he3 he4 he5
        have HLL : Hid (l.length ≤ 2000) := Lib.hid (by have h9 := HE.out.2.2.1.few Dg.sum_len; rw [HE.out.2.1] at h9; omega)
        have HCN : Hid (c + 2 ≤ k) := Lib.hid (by have h9 := HE.out.2.2.1.cn; rw [HE.out.2.1] at h9; exact h9)
        refine open_d HB HD HQ0.out HN0.out (fun e E9 A9 w9 he ht hd => ?_) (fun j9 E9 b v17 u18 A14 w15 he ht hz hl => ?_)
        · have h9 := HF.out.symm.trans he
          cases h9
        obtain ⟨-, h8, rfl⟩ := pair3 (HF.out.symm.trans he)
        injection h8 with h8
        subst h8
        clear he
        clear HD
        have HB19 := Lib.hid (HB.out.to ht)
        clear HB
        have HZ20 := Lib.hid (hz)
        have Hwant21 := Lib.hid (hl)
        obtain ⟨wo, wc, rfl⟩ := hl.1.form
        clear ht hz hl
        obtain ⟨ln, hln⟩ : ∃ m, m = l.length := ⟨_, rfl⟩
        have HLN := Lib.hid hln
        have e9 : (⟨k, c, l, false⟩ : Jn.J).l.length = ln := hln.symm
        rw [e9] at Hwant21 ⊢
        clear e9 hln
        go_wp2_with fail
        refine room_r (j := ⟨k, c, l, false⟩) (Lib.hid HZ20.out.jr) (show k ≤ 4000 by omega) HCN.out (fun w22 hc => ?_)
        have HB23 := Lib.hid (HB19.out.to (To.quiet hc))
        have HZ24 := Lib.hid (HZ20.out.quiet hc)
        have Hwant25 := Lib.hid (Hwant21.out.to (To.quiet hc))
        clear HB19 HZ20 Hwant21
        clear hc
        obtain ⟨rm, hrm⟩ : ∃ r, r = Jn.room ⟨k, c, l, false⟩ := ⟨_, rfl⟩
        rw [← hrm]
        have HRM := Lib.hid hrm
        clear hrm
        go_wp2_with fail
        obtain ⟨w26, hw26⟩ : ∃ W, W = w22.alloc (.cells #[.string ⟨#[120]⟩] 9) := ⟨_, rfl⟩
        obtain ⟨g27, hg27⟩ : ∃ g, g = w22.heap.size := ⟨_, rfl⟩
        rw [← hw26, ← hg27]
        have hqw26 : Chg [] w22 w26 := by rw [hw26]; exact (Chg.refl _ _).alloc _
        have hz28 : ∀ k ∈ A14, k < w22.heap.size := HZ24.out.lt
        have hl27 : Lst A14 w26 (.slice (some ⟨g27, 0, none⟩) 1 1) [[120]] := by rw [hw26, hg27]; exact lst_new hz28 (by rfl) rfl
        have HB29 := Lib.hid (HB23.out.to (To.quiet hqw26))
        have HZ30 := Lib.hid (HZ24.out.quiet hqw26)
        have Hwant31 := Lib.hid (Hwant25.out.to (To.quiet hqw26))
        clear HB23 HZ24 Hwant25
        have Hl2732 := Lib.hid (hl27)
        clear hl27 hqw26 hw26 hg27 hz28
        have HAX := Lib.hid (Jn.append_x (sm := Dg.sum) Dg.sum_len HE.out.1 HE.out.2.2.1 HE.out.2.2.2.1)
        rw [HE.out.2.1, ← HRM.out] at HAX
        rcases HAX.out with ⟨h0, ha1⟩ | ⟨h0, E2, ha1, ha2, ha3, ha4⟩
        · have HA1 := Lib.hid ha1
          clear ha1
          subst h0
          refine append_z HB29 HZ30 (.slice (some ⟨g27, 0, none⟩) 1 1) [[120]] Hl2732 (by decide) (Lib.hid (by simp)) (Lib.hid (by rw [Jn.text_x]; decide)) (show k ≤ 4000 by omega) (show c + 2 ≤ k from HCN.out) (show l.length ≤ 90000 by have := HLL.out; omega) HE.out.2.2.2.2 (fun e j9 E9 A33 v35 w34 he ht hz => ?_)
          obtain ⟨rfl, rfl, rfl⟩ := pair3 (HA1.out.symm.trans he)
          clear he
          have HB36 := Lib.hid (HB29.out.to ht)
          have HZ37 := Lib.hid (hz)
          have Hwant38 := Lib.hid (Hwant31.out.to ht)
          have Hl2739 := Lib.hid (Hl2732.out.to ht)
          clear HB29 HZ30 Hwant31 Hl2732
          clear ht hz
          clear Hl2739
          have HOP : Hid (Jn.openJ Dg.sum E = ((0, some ⟨k, c, l, false⟩), E)) := Lib.hid (by have h9 := Jn.open_neat HE.out.1 HE.out.2.2.1 HE.out.2.2.2.1; rw [HE.out.2.1] at h9; exact h9)
          go_wp2_with fail
          refine open_z HB36 HZ37 (HE.out.2.2.2.2) ((by rw [HE.out.2.1]; omega)) (fun e E A45 w46 he ht hz => ?_) (fun j9 E b42 v43 u44 A40 w41 he ht hz hj hl => ?_)
          · have h9 := (HOP.out).symm.trans he
            cases h9
          obtain ⟨-, h8, rfl⟩ := pair3 ((HOP.out).symm.trans he)
          injection h8 with h8
          subst h8
          clear he
          have HB47 := Lib.hid (HB36.out.to ht)
          have HZ48 := Lib.hid (hz)
          have Hwant49 := Lib.hid (Hwant38.out.to ht)
          clear HB36 HZ37 Hwant38
          have HO5052 := Lib.hid (hl)
          obtain ⟨ao53, cap54, rfl⟩ := hl.1.form
          have HJ5155 : Hid (JB w.heap.size A40 w41 b42 p ⟨k, c, l, false⟩ v43) := Lib.hid (hj)
          clear ht hz hl hj
          clear HJ5155
          go_wp2_with fail
          refine same_z _ _ _ _ (Lib.hid (Hwant49.out.lst)) (Lib.hid (HO5052.out.lst)) (by have := HLL.out; omega) (by have := HLL.out; omega) (fun w56 hc => ?_)
          rw [decide_eq_true rfl]
          have HB57 := Lib.hid (HB47.out.to (To.quiet hc))
          have HZ58 := Lib.hid (HZ48.out.quiet hc)
          have Hwant59 := Lib.hid (Hwant49.out.to (To.quiet hc))
          have HO5060 := Lib.hid (HO5052.out.to (To.quiet hc))
          clear HB47 HZ48 Hwant49 HO5052
          clear hc
          go_wp2_with fail
          go_ret
          exact ⟨rfl, HB57.out.chg⟩
        · have HA1 := Lib.hid ha1
          have HA2 : Hid (E2.n = k) := Lib.hid ha2
          have HA3 : Hid (E2.q.length ≤ 1000) := Lib.hid (by rcases ha3 with h9 | h9; (rw [h9]; exact HE.out.2.2.2.2); (rw [h9]; exact Nat.zero_le _))
          have HA4 := Lib.hid ha4
          clear ha1 ha2 ha3 ha4
          have z5 : (0 : Int) < (rm : Int) := by omega
          refine append_z HB29 HZ30 (.slice (some ⟨g27, 0, none⟩) 1 1) [[120]] Hl2732 (by decide) (Lib.hid (by simp)) (Lib.hid (by rw [Jn.text_x]; decide)) (show k ≤ 4000 by omega) (show c + 2 ≤ k from HCN.out) (show l.length ≤ 90000 by have := HLL.out; omega) HE.out.2.2.2.2 (fun e j9 E9 A33 v35 w34 he ht hz => ?_)
          obtain ⟨rfl, rfl, rfl⟩ := pair3 (HA1.out.symm.trans he)
          clear he
          have HB61 := Lib.hid (HB29.out.to ht)
          have HZ62 := Lib.hid (hz)
          have Hwant63 := Lib.hid (Hwant31.out.to ht)
          have Hl2764 := Lib.hid (Hl2732.out.to ht)
          clear HB29 HZ30 Hwant31 Hl2732
          clear ht hz
          clear Hl2764
          have HBL : Hid (Blk (w34.alloc (.cells #[] 9)) w34.heap.size [] 9) := Lib.hid (Blk.new w34 [] _)
          have HOE : Hid (OwT w.heap.size [] (.slice (some ⟨w34.heap.size, 0, none⟩) 0 0) (w34.alloc (.cells #[] 9))) := Lib.hid (own_none44 HBL.out HB61.out.size)
          have HCW : Hid (Chg [] w34 (w34.alloc (.cells #[] 9))) := Lib.hid ((Chg.refl _ _).alloc _)
          go_wp2_with (at_builtin; go_loud (refine wpList_strs rfl (.tmp 78) (.tmp 79) rfl w.heap.size [] (.slice (some ⟨w34.heap.size, 0, none⟩) 0 0) (by rfl) HOE.out l (.slice wo ln wc) (by rfl) (Hwant63.out.lst.1.quiet HCW.out) (by have := HLL.out; simp only [List.length_nil]; omega) (by have h8 := HB61.out.size; have h9 := HCW.out.size; omega) ?kk))
          case kk =>
            intro v8 w8 h5 h6 h7
            have HO8 : Hid (Own w.heap.size A33 w8 v8 l) := Lib.hid ⟨h5, fun q hq hm => by rcases h7 q hq with h8 | h8; (have h9 : w34.heap.size = q := by simpa [Value.ownBlock] using h8); (have h10 := HZ62.out.lt q hm; omega); (have h10 := HZ62.out.lt q hm; have h11 := HCW.out.size; omega)⟩
            have HC8 : Hid (Chg [] w34 w8) := Lib.hid (HCW.out.trans h6 (fun q hq => .inr (by have h9 := Option.mem_toList.1 hq; simp only [Value.ownBlock, Option.some.injEq] at h9; omega)))
            have HS8 : Hid (w.heap.size ≤ w8.heap.size) := Lib.hid (by have h8 := HB61.out.size; have h9 := HC8.out.size; omega)
            obtain ⟨a8, c8, rfl⟩ := h5.form
            clear h5 h6 h7 HBL HOE HCW
            have HB65 := Lib.hid (HB61.out.to (To.quiet HC8.out))
            have HZ66 := Lib.hid (HZ62.out.quiet HC8.out)
            have Hwant67 := Lib.hid (Hwant63.out.to (To.quiet HC8.out))
            clear HB61 HZ62 Hwant63
            have e9 : l.length = ln := HLN.out.symm
            rw [e9] at HO8 ⊢
            clear e9
            have HXS : Hid (Strs (w8.alloc (.cells #[.string ⟨#[120]⟩] 9)) (.slice (some ⟨w8.heap.size, 0, none⟩) 1 1) [[120]]) := Lib.hid (strs_one w8 [120])
            have HCX : Hid (Chg [] w8 (w8.alloc (.cells #[.string ⟨#[120]⟩] 9))) := Lib.hid ((Chg.refl _ _).alloc _)
            have HO9 := Lib.hid (HO8.out.to (To.quiet HCX.out))
            go_wp2_with (at_builtin; go_loud (refine wpList_strs rfl (.tmp 80) (.tmp 81) rfl w.heap.size l (.slice a8 ln c8) (by rfl) HO9.out.1 [[120]] (.slice (some ⟨w8.heap.size, 0, none⟩) 1 1) (by rfl) HXS.out (by have := HLL.out; simp only [List.length_singleton]; omega) (by have h8 := HS8.out; have h9 := HCX.out.size; omega) ?kk2))
            case kk2 =>
              intro v9 w9 h5 h6 h7
              have HB68 := Lib.hid (HB65.out.to (To.quiet HCX.out))
              have HZ69 := Lib.hid (HZ66.out.quiet HCX.out)
              have Hwant70 := Lib.hid (Hwant67.out.to (To.quiet HCX.out))
              have Hnew71 := Lib.hid (HO8.out.to (To.quiet HCX.out))
              clear HB65 HZ66 Hwant67 HO8
              have HOn : Hid (Own w.heap.size A33 w9 v9 (l ++ [[120]])) := Lib.hid (Hnew71.out.grown HZ69.out.lt h5 (by simpa using h7))
              have HZn := Lib.hid (HZ69.out.grown Hnew71.out h6)
              have HBn := Lib.hid (HB68.out.grown Hnew71.out.1 h6)
              obtain ⟨a9, c9, rfl⟩ := HOn.out.1.form
              clear h5 h6 h7
              have HLM : Hid ((l ++ [[120]]).length ≤ 2001) := Lib.hid (by rw [List.length_append]; have := HLL.out; simp only [List.length_singleton]; omega)
              obtain ⟨l2, hl2⟩ : ∃ m, m = l ++ [[120]] := ⟨_, rfl⟩
              rw [← hl2] at HOn HZn HLM HA4 ⊢
              clear hl2
              go_wp2_with fail
              refine open_z HBn HZn (HA3.out) ((by rw [HA2.out]; omega)) (fun e E A77 w78 he ht hz => ?_) (fun j9 E b74 v75 u76 A72 w73 he ht hz hj hl => ?_)
              · have h9 := (HA4.out).symm.trans he
                cases h9
              obtain ⟨-, h8, rfl⟩ := pair3 ((HA4.out).symm.trans he)
              injection h8 with h8
              subst h8
              clear he
              have HB79 := Lib.hid (HBn.out.to ht)
              have HZ80 := Lib.hid (hz)
              have Hnew81 := Lib.hid (HOn.out.to ht)
              clear HBn HZn HOn
              have HO8284 := Lib.hid (hl)
              obtain ⟨ao85, cap86, rfl⟩ := hl.1.form
              have HJ8387 : Hid (JB w.heap.size A72 w73 b74 p ⟨k, c + 1, l2, false⟩ v75) := Lib.hid (hj)
              clear ht hz hl hj
              clear HJ8387
              go_wp2_with fail
              refine same_z _ _ _ _ (Lib.hid (Hnew81.out.lst)) (Lib.hid (HO8284.out.lst)) (by have := HLM.out; omega) (by have := HLM.out; omega) (fun w88 hc => ?_)
              rw [decide_eq_true rfl]
              have HB89 := Lib.hid (HB79.out.to (To.quiet hc))
              have HZ90 := Lib.hid (HZ80.out.quiet hc)
              have Hnew91 := Lib.hid (Hnew81.out.to (To.quiet hc))
              have HO8292 := Lib.hid (HO8284.out.to (To.quiet hc))
              clear HB79 HZ80 Hnew81 HO8284
              clear hc
              go_wp2_with fail
              go_ret
              exact ⟨rfl, HB89.out.chg⟩
end Go.Proofs.YtpmkgedlnanjiaaDoor
