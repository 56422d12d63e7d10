/-
  Journal: the walk of JournalAtomic.
-/
import Derived.Test.YtpmkgedlnanjiaaDoorJpF
import Derived.Test.YtpmkgedlnanjiaaDoorJnI
import Derived.Test.YtpmkgedlnanjiaaDoorJnL
namespace Go.Proofs.YtpmkgedlnanjiaaDoor
set_option linter.unusedVariables false
set_option linter.unusedSimpArgs false
set_option maxRecDepth 100000
open Go Go.RowKit
attribute [local irreducible] Go.wpStill
theorem round_len {l l2 la rs : List Bytes} {k : Nat} (hla : la = l ++ rs) (h : l2 = l ∨ l2 = la) (h1 : l.length ≤ 20 * k) (h2 : rs.length ≤ 20) : l2.length ≤ 20 * (k + 1) ∧ la.length ≤ 20 * (k + 1) := by
  have h6 : la.length ≤ 20 * (k + 1) := by rw [hla, List.length_append]; omega
  refine ⟨?_, h6⟩
  rcases h with h | h
  · rw [h]; omega
  · rw [h]; exact h6
set_option maxHeartbeats 4000000 in
theorem journalAtomic_walk (w : World) (HL : Hid (Laid w)) (s : Int) (hs : I64 s) (v : Value) (L : List OpV) (HL0 : Hid (RdS 5 ROp w v L)) :
    Calls Tryd.prog 7 #[.int .i64 s, v] w fun e w' => e = .returned (.bool true) ∧ Chg [] w w' := by
  have HB0 : Hid (Base w w []) := Lib.hid ⟨Chg.refl _ _, by simp, HL.out⟩
  obtain ⟨lo, lc, rfl, hle, hrc⟩ := HL0.out.form
  unfold Rch at hrc
  go_enter Tryd.func7, Tryd.ntmps7
  go_wp2_with fail
  refine head_r HL (fun w1 hc => ?_)
  have HB2 := Lib.hid (HB0.out.to (To.quiet hc))
  clear HB0
  clear hc
  go_wp2_with fail
  refine light_r s hs (.slice lo L.length lc) L (Lib.hid (HL0.out.keep kq_op HB2.out.chg)) (fun q hq => ?_)
  have HQ := Lib.hid hq
  clear hq
  cases q with
  | false =>
    go_wp2_with fail
    go_ret
    exact ⟨rfl, HB2.out.chg⟩
  | true =>
  have HLT : Hid (Light s L) := Lib.hid (HQ.out rfl)
  clear HQ
  go_wp2_with fail
  obtain ⟨n, hn⟩ : ∃ n, n = L.length := ⟨_, rfl⟩
  rw [← hn] at HL0 hle hrc ⊢
  have HN := Lib.hid hn
  have h40 := HLT.out.1
  have h16 : n ≤ 16 := by rw [hn]; exact HLT.out.2.1
  clear hn
  by_cases hs1 : s < 1
  · refine (new_bad w1 s (.inl hs1)).mono ?_
    rintro e w9 ⟨rfl, rfl⟩
    go_wp2_with fail
    refine open_nil _ ?_
    go_wp2_with fail
    go_ret
    exact ⟨rfl, HB2.out.chg⟩
  obtain ⟨N, rfl⟩ : ∃ N : Nat, s = (N : Int) := ⟨s.toNat, by omega⟩
  refine new_d HB2 N (by omega) (by omega) (fun p A3 w4 ht hd => ?_)
  have HB5 := Lib.hid (HB2.out.to ht)
  clear HB2
  have HD6 := Lib.hid (hd)
  clear ht hd
  go_wp2_with fail
  refine open_d HB5 HD6 (show (0 : Nat) ≤ 1000 by omega) (show N ≤ 100 by omega) (fun e E A9 w9 he ht hd => ?_) (fun j9 E b u lv A7 w8 he ht hz hl => ?_)
  · have h3 : N < 3 := by
      rcases Nat.lt_or_ge N 3 with h | h
      · exact h
      · have h9 := ((Jn.live_new (sm := Dg.sum) Dg.sum_len h (by omega)).openJ).symm.trans he
        cases h9
    obtain ⟨rfl, -, -⟩ := pair3 ((Jn.open_few Dg.sum h3).symm.trans he)
    have hc9 : Chg [] w w9 := (HB5.out.to ht).chg
    clear he ht hd
    go_wp2_with fail
    go_ret
    exact ⟨rfl, hc9⟩
  have h3 : 3 ≤ N := by
    rcases Nat.lt_or_ge N 3 with h | h
    · have h9 := (Jn.open_few Dg.sum h).symm.trans he; cases h9
    · exact h
  obtain ⟨-, h8, rfl⟩ := pair3 (((Jn.live_new (sm := Dg.sum) Dg.sum_len h3 (by omega)).openJ).symm.trans he)
  injection h8 with h8
  subst h8
  clear he
  clear HD6
  have HB9 := Lib.hid (HB5.out.to ht)
  clear HB5
  have HZ10 := Lib.hid (hz)
  have HO11 := Lib.hid (hl)
  obtain ⟨ao, ac, rfl⟩ := hl.1.form
  clear ht hz hl
  go_wp2_with fail
  go_loopw [7, 8, 10] (fun jv bv iv wr => ∃ (k c : Nat) (D : DK) (l : List Bytes) (A : List Nat) (b : Nat) (u : Value) (oa : Option Addr) (oc ln : Nat), k ≤ n ∧ iv = .int .i64 (k : Int) ∧ jv = .pointer (some ⟨b, 0, none⟩) ∧ bv = .slice oa ln oc ∧ Hid (Base w wr A) ∧ Hid (JZ w.heap.size wr A p b D ⟨N, c, l, false⟩ u) ∧ Hid (Own w.heap.size A wr (.slice oa ln oc) l) ∧ Hid (D.n = N ∧ Jn.Live Dg.sum D c l ∧ l.length ≤ 20 * k ∧ ln = l.length)) (fun _ _ iv _ => n - (intOf iv).toNat)
  case atStart => exact ⟨0, 0, _, [], _, b, _, ao, ac, 0, Nat.zero_le _, rfl, rfl, rfl, HB9, HZ10, HO11, Lib.hid ⟨rfl, Jn.live_new Dg.sum_len h3 (by omega), Nat.le_refl _, rfl⟩⟩
  case round =>
    obtain ⟨k, c, D, l, A, b, u, oa, oc, ln, hk, rfl, rfl, rfl, HB, HZ, HO, HD⟩ := hrel
    by_cases hlt2 : k < n
    · obtain ⟨o, ho⟩ : ∃ o, L[k]? = some o := ⟨L[k]'(by rw [← HN.out]; exact hlt2), by simp⟩
      obtain ⟨gg, off, cs, hag, hgl, -, ⟨rv, rfl, hrv, hi0, hi1, hi2, hi3⟩, hcc⟩ := HL0.out.elem ho
      subst hag
      obtain ⟨ra, rc, rfl, hrle, -⟩ := hrv.form
      obtain ⟨m, hm⟩ : ∃ m, m = o.list.length := ⟨_, rfl⟩
      rw [← hm] at hrv hrle hcc
      have HM := Lib.hid hm
      have HC1 : Hid (w.cell? ⟨gg, off + k * 5 + 1, none⟩ = some (.slice ra m rc)) := Lib.hid (hcc 1 _ rfl)
      have HC2 : Hid (w.cell? ⟨gg, off + k * 5 + 2, none⟩ = some (.int .i64 o.at_)) := Lib.hid (hcc 2 _ rfl)
      have HC3 : Hid (w.cell? ⟨gg, off + k * 5 + 3, none⟩ = some (.int .i64 o.w)) := Lib.hid (hcc 3 _ rfl)
      have HC4 : Hid (w.cell? ⟨gg, off + k * 5 + 4, none⟩ = some (.int .i64 o.b)) := Lib.hid (hcc 4 _ rfl)
      have HRL : Hid (Lst A wr (.slice ra m rc) o.list) := Lib.hid (HB.out.lst hrv.strs (fun hne ad n0 c0 he => by obtain ⟨x, hx⟩ : ∃ x, o.list[0]? = some x := ⟨o.list[0]'(List.length_pos_iff.2 hne), by simp⟩; cases he; obtain ⟨g9, off9, h9, h10, _⟩ := hrv.str_at hx; cases h9; exact block_lt_of_cell h10))
      have HOL : Hid (o.list.length ≤ 20 ∧ ∀ x ∈ o.list, x.length ≤ 6000) := Lib.hid (HLT.out.2.2 o (List.mem_of_getElem? ho))
      have HGW : Hid (gg < w.heap.size) := Lib.hid (block_lt_of_cell HC1.out)
      clear hcc hrv ho hm
      have z0 : (0 : Int) ≤ (k : Int) := by omega
      have z1 : (k : Int) < (n : Int) := by omega
      have HAT : Hid (I64 o.at_) := Lib.hid hi1
      unfold I64 at hi1
      obtain ⟨oat, hoat⟩ : ∃ z, z = o.at_ := ⟨_, rfl⟩
      obtain ⟨ow, how⟩ : ∃ z, z = o.w := ⟨_, rfl⟩
      obtain ⟨ob, hob⟩ : ∃ z, z = o.b := ⟨_, rfl⟩
      rw [← hoat] at HC2 hi1 HAT
      rw [← how] at HC3
      rw [← hob] at HC4
      obtain ⟨rs, hrs⟩ : ∃ z, z = o.list := ⟨_, rfl⟩
      rw [← hrs] at HM HRL HOL
      clear hi0 hi2 hi3 hoat how hob hrs
      go_upto_region 11 with (fail)
      refine wp_region_held_drew (S := fun W' => Chg [] wr W') (by kernel_rfl) ((Chg.refl _ _).drew) (fun hHeld => ?_)
      obtain ⟨wd, hwd⟩ : ∃ x, x = wr.drew := ⟨_, rfl⟩
      rw [← hwd] at hHeld ⊢
      clear hwd
      have CD : Hid (Chg [] wr wd) := Lib.hid hHeld
      refine tk 1 ?va1 ?hya1 ?rsa1
      case hya1 => (intro w9 hSw; go_simp; try with_reducible rfl)
      try simp only [qq]
      refine tk 3 ?va3 ?hya3 ?rsa3
      case hya3 => (intro w9 hSw; go_simp; try with_reducible rfl)
      try simp only [qq]
      refine tk 4 ?va4 ?hya4 ?rsa4
      case hya4 => (intro w9 hSw; go_simp; try with_reducible rfl)
      try simp only [qq]
      refine tk 5 ?va5 ?hya5 ?rsa5
      case hya5 => (intro w9 hSw; go_simp; try with_reducible rfl)
      try simp only [qq]
      refine tk 6 ?va6 ?hya6 ?rsa6
      case hya6 => (intro w9 hSw; go_simp; try with_reducible rfl)
      try simp only [qq]
      refine tk 7 ?va7 ?hya7 ?rsa7
      case hya7 => (intro w9 hSw; have t0 := cell_quiet (HB.out.chg.trans hSw (by simp)) HC1.out (by simp); go_simp; try with_reducible rfl)
      try simp only [qq]
      refine rd1 0 (fun K hK => ?_)
      go_simp
      obtain ⟨w1, hw1⟩ : ∃ W, W = wd.alloc (.cells #[] 9) := ⟨_, rfl⟩
      obtain ⟨g1, hg1⟩ : ∃ W, W = wd.heap.size := ⟨_, rfl⟩
      rw [← hw1, ← hg1]
      have C1 : Hid (Chg [] wr w1) := Lib.hid (CD.out.trans (show Chg [] wd w1 by rw [hw1]; exact (Chg.refl _ _).alloc _) (by simp))
      have HOE : Hid (OwT wr.heap.size [] (.slice (some ⟨g1, 0, none⟩) 0 0) w1) := Lib.hid (by rw [hw1, hg1]; exact own_none44 (Blk.new wd [] _) CD.out.size)
      clear hw1 hg1
      refine hK.out _ _ C1.out (fun hHeld => ?_)
      clear hK K
      try simp only [qq]
      refine rd1 2 (fun K hK => ?_)
      refine step_strs rfl (.tmp 45) (.tmp 46) rfl wr.heap.size [] (.slice (some ⟨g1, 0, none⟩) 0 0) (by rfl) HOE.out l (.slice oa ln oc) (by rfl) (HO.out.lst.1.quiet C1.out) (by have := HD.out.2.2.1; simp only [List.length_nil]; omega) C1.out.size (fun v8 w8 h5 h6 h7 => ?_)
      rw [List.nil_append] at h5
      have C8 : Hid (Chg [] wr w8) := Lib.hid (C1.out.trans h6 (fun q hq => .inr (HOE.out.ge q (Option.mem_toList.1 hq)).1))
      have HO8 : Hid (OwT wr.heap.size l v8 w8) := Lib.hid h5
      obtain ⟨a8, c8, rfl⟩ := h5.form
      clear h5 h6 h7
      refine hK.out _ _ C8.out (fun hHeld => ?_)
      clear hK K
      try simp only [qq]
      refine rd1 8 (fun K hK => ?_)
      refine step_strs rfl (.tmp 47) (.tmp 52) rfl wr.heap.size l (.slice a8 l.length c8) (by rfl) HO8.out rs (.slice ra m rc) (by rfl) (HRL.out.1.quiet C8.out) (by have := HD.out.2.2.1; have := HOL.out.1; omega) C8.out.size (fun v9 w9 h5 h6 h7 => ?_)
      have C9 : Hid (Chg [] wr w9) := Lib.hid (C8.out.trans h6 (fun q hq => .inr (HO8.out.ge q (Option.mem_toList.1 hq)).1))
      obtain ⟨la, hla⟩ : ∃ z, z = l ++ rs := ⟨_, rfl⟩
      rw [← hla] at h5
      have HLA := Lib.hid hla
      clear hla
      have HO9 : Hid (OwT wr.heap.size la v9 w9) := Lib.hid h5
      obtain ⟨a9, c9, rfl⟩ := h5.form
      clear h5 h6 h7
      refine hK.out _ _ C9.out (fun hHeld => ?_)
      clear hK K
      try simp only [qq]
      refine tk 9 ?va9 ?hya9 ?rsa9
      case hya9 => (intro w9 hSw; go_simp; try with_reducible rfl)
      try simp only [qq]
      refine wpAnyH_done (by kernel_rfl) ?_ _
      try simp only [qq]
      clear hHeld
      have HAF : Hid (Own w.heap.size A w9 (.slice a9 la.length c9) la) := Lib.hid ⟨HO9.out.less HB.out.size, fun q hq hm => by have h8 := (HO9.out.ge q hq).1; have h9 := HZ.out.lt q hm; omega⟩
      clear HO8 HO9 HOE C1 C8 CD
      have HB12 := Lib.hid (HB.out.to (To.quiet C9.out))
      have HZ13 := Lib.hid (HZ.out.quiet C9.out)
      have HO14 := Lib.hid (HO.out.to (To.quiet C9.out))
      have HX15 := Lib.hid (HRL.out.to (To.quiet C9.out))
      clear HB HZ HO HRL
      have c2 := cell_quiet HB12.out.chg HC2.out (by simp)
      go_upto_region 13 with (fail)
      obtain ⟨at9, hat9⟩ : ∃ z, z = max 0 (Int.tmod oat 100) := ⟨_, rfl⟩
      rw [← hat9]
      have HAT9 : Hid (0 ≤ at9 ∧ at9 ≤ 99) := Lib.hid (by have h1 := Int.tmod_lt_of_pos oat (show (0 : Int) < 100 by decide); omega)
      have HT5 : Hid (Int.tmod at9 5 ≤ 4) := Lib.hid (by have h1 := Int.tmod_lt_of_pos at9 (show (0 : Int) < 5 by decide); omega)
      clear hat9 c2
      obtain ⟨f, j9, E, e9, jo, F, c2, l2, G, hR⟩ := Jn.round44 Jn.dig_sum HD.out.2.1 (by rw [HD.out.1]; omega) rs (a1 := at9) (a2 := Int.tmod at9 5) ow ob ob ow (by have := HAT9.out; omega) (by have := HT5.out; omega)
      have HE1 : Hid (Jn.append Dg.sum ⟨N, c, l, false⟩ (D.setArm at9 ow ob) rs = ((f, j9), E)) := Lib.hid (by have h8 := hR.e1; rw [HD.out.1] at h8; exact h8)
      have HG1 : Hid (Jn.openJ Dg.sum ((E.fail 0 0).start.setArm (Int.tmod at9 5) ob ow) = ((e9, jo), F)) := Lib.hid hR.g1
      have HK1 : Hid (Jn.openJ Dg.sum (F.fail 0 0).start = ((0, some ⟨N, c2, l2, false⟩), G)) := Lib.hid (by have h8 := hR.k1; rw [HD.out.1] at h8; exact h8)
      have HGG : Hid ((e9 = 0 ∧ jo = some ⟨N, c2, l2, false⟩) ∨ (e9 = 24 ∧ jo = none)) := Lib.hid (by have h8 := hR.gg; rw [HD.out.1] at h8; exact h8)
      have HN3 : Hid (((E.fail 0 0).start.setArm (Int.tmod at9 5) ob ow).n ≤ 100) := Lib.hid (by rw [hR.n3, HD.out.1]; omega)
      have HN5 : Hid ((F.fail 0 0).start.n ≤ 100) := Lib.hid (by rw [hR.n5, HD.out.1]; omega)
      have HQ1 : Hid ((D.setArm at9 ow ob).q.length ≤ 1000) := Lib.hid (by rw [hR.q1]; exact Nat.zero_le _)
      have HQ2 : Hid (E.q.length ≤ 1000000) := Lib.hid (by rw [hR.q2]; exact Nat.zero_le _)
      have HQ3 : Hid (((E.fail 0 0).start.setArm (Int.tmod at9 5) ob ow).q.length ≤ 1000) := Lib.hid (by rw [hR.q3]; exact Nat.zero_le _)
      have HQ4 : Hid (F.q.length ≤ 1000000) := Lib.hid (by rw [hR.q4]; exact Nat.zero_le _)
      have HQ5 : Hid ((F.fail 0 0).start.q.length ≤ 1000) := Lib.hid (by rw [hR.q5]; exact Nat.zero_le _)
      have HTW : Hid ((l2 = l ∨ l2 = la) ∧ (f = 0 → l2 = la) ∧ (f ≠ 0 → f ≠ 24 → l2 = l)) := Lib.hid (by rw [HLA.out]; exact ⟨hR.two, hR.f0, hR.f1⟩)
      have HLG : Hid (G.n = N ∧ Jn.Live Dg.sum G c2 l2) := Lib.hid ⟨hR.n.trans HD.out.1, hR.live⟩
      have HL2 : Hid (l2.length ≤ 20 * (k + 1) ∧ la.length ≤ 20 * (k + 1)) := Lib.hid (round_len HLA.out HTW.out.1 HD.out.2.2.1 HOL.out.1)
      clear hR
      refine wp_region_held_drew (S := fun W' => Chg A w9 W') (by kernel_rfl) ((Chg.refl _ _).drew) (fun hHeld => ?_)
      obtain ⟨wd16, hwd⟩ : ∃ x, x = w9.drew := ⟨_, rfl⟩
      rw [← hwd] at hHeld ⊢
      have CD : Hid (Chg [] w9 wd16) := Lib.hid (by rw [hwd]; exact (Chg.refl _ _).drew)
      clear hwd
      have HGA : Hid (gg ∉ A) := Lib.hid (fun hm => by have h8 := HB12.out.ge gg hm; have h9 := HGW.out; omega)
      have HCW : Hid (Chg [] w w9) := Lib.hid HB12.out.chg
      refine tk 0 ?vab0 ?hyab0 ?rsab0
      case hyab0 => (intro w9 hSw; go_simp; try with_reducible rfl)
      try simp only [qq]
      refine tk 1 ?vab1 ?hyab1 ?rsab1
      case hyab1 => (intro w9 hSw; go_simp; try with_reducible rfl)
      try simp only [qq]
      refine tk 2 ?vab2 ?hyab2 ?rsab2
      case hyab2 => (intro w9 hSw; go_simp; try with_reducible rfl)
      try simp only [qq]
      refine tk 3 ?vab3 ?hyab3 ?rsab3
      case hyab3 => (intro w9 hSw; go_simp; try with_reducible rfl)
      try simp only [qq]
      refine tk 4 ?vab4 ?hyab4 ?rsab4
      case hyab4 => (intro w9 hSw; go_simp; try with_reducible rfl)
      try simp only [qq]
      refine tk 5 ?vab5 ?hyab5 ?rsab5
      case hyab5 => (intro w9 hSw; go_simp; try with_reducible rfl)
      try simp only [qq]
      refine tk 7 ?vab7 ?hyab7 ?rsab7
      case hyab7 => (intro w9 hSw; go_simp; try with_reducible rfl)
      try simp only [qq]
      refine tk 8 ?vab8 ?hyab8 ?rsab8
      case hyab8 => (intro w9 hSw; go_simp; try with_reducible rfl)
      try simp only [qq]
      refine tk 9 ?vab9 ?hyab9 ?rsab9
      case hyab9 => (intro w9 hSw; go_simp; try with_reducible rfl)
      try simp only [qq]
      refine tk 10 ?vab10 ?hyab10 ?rsab10
      case hyab10 => (intro w9 hSw; go_simp; try with_reducible rfl)
      try simp only [qq]
      refine tk 6 ?vab6 ?hyab6 ?rsab6
      case hyab6 => (intro w9 hSw; have t0 := cell_quiet hSw (cell_quiet HCW.out HC3.out (by simp)) HGA.out; go_simp; try with_reducible rfl)
      try simp only [qq]
      refine tk 11 ?vab11 ?hyab11 ?rsab11
      case hyab11 => (intro w9 hSw; have t0 := cell_quiet hSw (cell_quiet HCW.out HC4.out (by simp)) HGA.out; go_simp; try with_reducible rfl)
      try simp only [qq]
      refine rd1 12 (fun K hK => ?_)
      go_simp
      have HB17 := Lib.hid (HB12.out.to (To.quiet CD.out))
      have HZ18 := Lib.hid (HZ13.out.quiet CD.out)
      have HO19 := Lib.hid (HO14.out.to (To.quiet CD.out))
      have HX20 := Lib.hid (HX15.out.to (To.quiet CD.out))
      have Hafter21 := Lib.hid (HAF.out.to (To.quiet CD.out))
      clear HB12 HZ13 HO14 HX15 HAF
      refine arm_z HZ18 at9 ow ob (by have := HAT9.out; omega) (fun A22 w23 ht hz => ?_)
      have HT : Hid (To A wd16 A22 w23) := Lib.hid ht
      have HC9 : Hid (Chg A w9 w23) := Lib.hid ((CD.out.mono (by simp)).trans HT.out.1 (fun q hq => .inl hq))
      have HB24 := Lib.hid (HB17.out.to HT.out)
      have HZ25 := Lib.hid (hz)
      have HO26 := Lib.hid (HO19.out.to HT.out)
      have HX27 := Lib.hid (HX20.out.to HT.out)
      have Hafter28 := Lib.hid (Hafter21.out.to HT.out)
      clear ht hz HB17 HZ18 HO19 HX20 Hafter21
      refine hK.out _ _ HC9.out (fun hHeld => ?_)
      clear hK K
      try simp only [qq]
      refine wpAnyH_done (by kernel_rfl) ?_ _
      try simp only [qq]
      clear hHeld HT HC9 HGA HCW CD
      have c1 := cell_quiet HB24.out.chg HC1.out (by simp)
      go_wp2_with fail
      refine append_z HB24 HZ25 (.slice ra m rc) rs HX27 (by have := HOL.out.1; omega) (Lib.hid (fun x hx => by have := HOL.out.2 x hx; omega)) (Lib.hid (Jn.text_small HOL.out.1 HOL.out.2)) (show N ≤ 4000 by omega) (show c + 2 ≤ N by have h8 := HD.out.2.1.lies.cn; rw [HD.out.1] at h8; exact h8) (show l.length ≤ 90000 by have := HD.out.2.2.1; omega) HQ1.out (fun ee jj EE A29 v31 w30 he ht hz => ?_)
      obtain ⟨rfl, rfl, rfl⟩ := pair3 (HE1.out.symm.trans he)
      clear he c1
      have HB32 := Lib.hid (HB24.out.to ht)
      have HZ33 := Lib.hid (hz)
      have HO34 := Lib.hid (HO26.out.to ht)
      have HX35 := Lib.hid (HX27.out.to ht)
      have Hafter36 := Lib.hid (Hafter28.out.to ht)
      clear HB24 HZ25 HO26 HX27 Hafter28
      clear ht hz
      clear HX35
      go_wp2_with fail
      refine fail_z HZ33 HQ2.out 0 0 (fun A37 w38 ht hz => ?_)
      have HB39 := Lib.hid (HB32.out.to ht)
      have HZ40 := Lib.hid (hz)
      have HO41 := Lib.hid (HO34.out.to ht)
      have Hafter42 := Lib.hid (Hafter36.out.to ht)
      clear HB32 HZ33 HO34 Hafter36
      clear ht hz
      go_wp2_with fail
      refine start_z HZ40 (fun A43 w44 ht hz => ?_)
      have HB45 := Lib.hid (HB39.out.to ht)
      have HZ46 := Lib.hid (hz)
      have HO47 := Lib.hid (HO41.out.to ht)
      have Hafter48 := Lib.hid (Hafter42.out.to ht)
      clear HB39 HZ40 HO41 Hafter42
      clear ht hz
      go_upto_region 17 with (fail)
      refine wp_region_held_drew (S := fun W' => Chg A43 w44 W') (by kernel_rfl) ((Chg.refl _ _).drew) (fun hHeld => ?_)
      obtain ⟨wd49, hwd⟩ : ∃ x, x = w44.drew := ⟨_, rfl⟩
      rw [← hwd] at hHeld ⊢
      have CD : Hid (Chg [] w44 wd49) := Lib.hid (by rw [hwd]; exact (Chg.refl _ _).drew)
      clear hwd
      have HGA : Hid (gg ∉ A43) := Lib.hid (fun hm => by have h8 := HB45.out.ge gg hm; have h9 := HGW.out; omega)
      have HCW : Hid (Chg [] w w44) := Lib.hid HB45.out.chg
      refine tk 0 ?vac0 ?hyac0 ?rsac0
      case hyac0 => (intro w9 hSw; go_simp; try with_reducible rfl)
      try simp only [qq]
      refine tk 1 ?vac1 ?hyac1 ?rsac1
      case hyac1 => (intro w9 hSw; go_simp; try with_reducible rfl)
      try simp only [qq]
      refine tk 2 ?vac2 ?hyac2 ?rsac2
      case hyac2 => (intro w9 hSw; go_simp; try with_reducible rfl)
      try simp only [qq]
      refine tk 3 ?vac3 ?hyac3 ?rsac3
      case hyac3 => (intro w9 hSw; go_simp; try with_reducible rfl)
      try simp only [qq]
      refine tk 4 ?vac4 ?hyac4 ?rsac4
      case hyac4 => (intro w9 hSw; go_simp; try with_reducible rfl)
      try simp only [qq]
      refine tk 5 ?vac5 ?hyac5 ?rsac5
      case hyac5 => (intro w9 hSw; go_simp; try with_reducible rfl)
      try simp only [qq]
      refine tk 6 ?vac6 ?hyac6 ?rsac6
      case hyac6 => (intro w9 hSw; go_simp; try with_reducible rfl)
      try simp only [qq]
      refine tk 8 ?vac8 ?hyac8 ?rsac8
      case hyac8 => (intro w9 hSw; go_simp; try with_reducible rfl)
      try simp only [qq]
      refine tk 9 ?vac9 ?hyac9 ?rsac9
      case hyac9 => (intro w9 hSw; go_simp; try with_reducible rfl)
      try simp only [qq]
      refine tk 10 ?vac10 ?hyac10 ?rsac10
      case hyac10 => (intro w9 hSw; go_simp; try with_reducible rfl)
      try simp only [qq]
      refine tk 11 ?vac11 ?hyac11 ?rsac11
      case hyac11 => (intro w9 hSw; go_simp; try with_reducible rfl)
      try simp only [qq]
      refine tk 7 ?vac7 ?hyac7 ?rsac7
      case hyac7 => (intro w9 hSw; have t0 := cell_quiet hSw (cell_quiet HCW.out HC4.out (by simp)) HGA.out; go_simp; try with_reducible rfl)
      try simp only [qq]
      refine tk 12 ?vac12 ?hyac12 ?rsac12
      case hyac12 => (intro w9 hSw; have t0 := cell_quiet hSw (cell_quiet HCW.out HC3.out (by simp)) HGA.out; go_simp; try with_reducible rfl)
      try simp only [qq]
      refine rd1 13 (fun K hK => ?_)
      go_simp
      have HB50 := Lib.hid (HB45.out.to (To.quiet CD.out))
      have HZ51 := Lib.hid (HZ46.out.quiet CD.out)
      have HO52 := Lib.hid (HO47.out.to (To.quiet CD.out))
      have Hafter53 := Lib.hid (Hafter48.out.to (To.quiet CD.out))
      clear HB45 HZ46 HO47 Hafter48
      refine arm_z HZ51 (Int.tmod at9 5) ob ow (by have := HT5.out; omega) (fun A54 w55 ht hz => ?_)
      have HT : Hid (To A43 wd49 A54 w55) := Lib.hid ht
      have HC9 : Hid (Chg A43 w44 w55) := Lib.hid ((CD.out.mono (by simp)).trans HT.out.1 (fun q hq => .inl hq))
      have HB56 := Lib.hid (HB50.out.to HT.out)
      have HZ57 := Lib.hid (hz)
      have HO58 := Lib.hid (HO52.out.to HT.out)
      have Hafter59 := Lib.hid (Hafter53.out.to HT.out)
      clear ht hz HB50 HZ51 HO52 Hafter53
      refine hK.out _ _ HC9.out (fun hHeld => ?_)
      clear hK K
      try simp only [qq]
      refine wpAnyH_done (by kernel_rfl) ?_ _
      try simp only [qq]
      clear hHeld HT HC9 HGA HCW CD
      go_wp2_with fail
      rcases HGG.out with ⟨he0, hjo⟩ | ⟨he0, hjo⟩
      · subst he0 hjo
        refine open_z HB56 HZ57 (HQ3.out) (HN3.out) (fun e E A65 w66 he ht hz => ?_) (fun j9 E b62 v63 u64 A60 w61 he ht hz hj hl => ?_)
        · have h9 := (HG1.out).symm.trans he
          cases h9
        obtain ⟨-, h8, rfl⟩ := pair3 ((HG1.out).symm.trans he)
        injection h8 with h8
        subst h8
        clear he
        have HB67 := Lib.hid (HB56.out.to ht)
        have HZ68 := Lib.hid (hz)
        have HO69 := Lib.hid (HO58.out.to ht)
        have Hafter70 := Lib.hid (Hafter59.out.to ht)
        clear HB56 HZ57 HO58 Hafter59
        have HO7173 := Lib.hid (hl)
        obtain ⟨ao74, cap75, rfl⟩ := hl.1.form
        have HJ7276 : Hid (JB w.heap.size A60 w61 b62 p ⟨N, c2, l2, false⟩ v63) := Lib.hid (hj)
        clear ht hz hl hj
        clear HJ7276
        go_wp2_with fail
        refine fail_z HZ68 HQ4.out 0 0 (fun A77 w78 ht hz => ?_)
        have HB79 := Lib.hid (HB67.out.to ht)
        have HZ80 := Lib.hid (hz)
        have HO81 := Lib.hid (HO69.out.to ht)
        have Hafter82 := Lib.hid (Hafter70.out.to ht)
        have HO7183 := Lib.hid (HO7173.out.to ht)
        clear HB67 HZ68 HO69 Hafter70 HO7173
        clear ht hz
        go_wp2_with fail
        refine start_z HZ80 (fun A84 w85 ht hz => ?_)
        have HB86 := Lib.hid (HB79.out.to ht)
        have HZ87 := Lib.hid (hz)
        have HO88 := Lib.hid (HO81.out.to ht)
        have Hafter89 := Lib.hid (Hafter82.out.to ht)
        have HO7190 := Lib.hid (HO7183.out.to ht)
        clear HB79 HZ80 HO81 Hafter82 HO7183
        clear ht hz
        go_wp2_with fail
        obtain ⟨own, hd, hsub, -⟩ := HZ87.out.step
        have HDd := Lib.hid hd
        clear HZ87
        have HB91 := Lib.hid (HB86.out.less hsub)
        have HO92 := Lib.hid (HO88.out.less hsub)
        have Hafter93 := Lib.hid (Hafter89.out.less hsub)
        have HO7194 := Lib.hid (HO7190.out.less hsub)
        clear hd hsub HB86 HO88 Hafter89 HO7190
        refine open_d HB91 HDd HQ5.out HN5.out (fun e E9 A8 w8 he ht hd => ?_) (fun j8 E9 b2 v2 gv A95 w96 he ht hz hl => ?_)
        · have h8 := HK1.out.symm.trans he
          cases h8
        obtain ⟨-, h8, rfl⟩ := pair3 (HK1.out.symm.trans he)
        injection h8 with h8
        subst h8
        clear he
        clear HDd
        have HB97 := Lib.hid (HB91.out.to ht)
        have HO98 := Lib.hid (HO92.out.to ht)
        have Hafter99 := Lib.hid (Hafter93.out.to ht)
        have HO71100 := Lib.hid (HO7194.out.to ht)
        clear HB91 HO92 Hafter93 HO7194
        have HZ101 := Lib.hid (hz)
        have Hgot102 := Lib.hid (hl)
        obtain ⟨go_, gc_, rfl⟩ := hl.1.form
        clear ht hz hl
        have HGL := Hgot102
        clear HGL
        go_wp2_with fail
        refine same_z _ _ _ _ (Lib.hid (Hgot102.out.lst)) (Lib.hid (HO98.out.lst)) (by have := HL2.out; omega) (by have := HD.out.2.2.1; omega) (fun w103 hc => ?_)
        obtain ⟨q1, hq1⟩ : ∃ q, q = decide (l2 = l) := ⟨_, rfl⟩
        rw [← hq1]
        have Hq1 := Lib.hid hq1
        clear hq1
        have HB104 := Lib.hid (HB97.out.to (To.quiet hc))
        have HO105 := Lib.hid (HO98.out.to (To.quiet hc))
        have Hafter106 := Lib.hid (Hafter99.out.to (To.quiet hc))
        have HO71107 := Lib.hid (HO71100.out.to (To.quiet hc))
        have HZ108 := Lib.hid (HZ101.out.quiet hc)
        have Hgot109 := Lib.hid (Hgot102.out.to (To.quiet hc))
        clear HB97 HO98 Hafter99 HO71100 HZ101 Hgot102
        clear hc
        go_wp2_with fail
        refine same_z _ _ _ _ (Lib.hid (Hgot109.out.lst)) (Lib.hid (Hafter106.out.lst)) (by have := HL2.out; omega) (by have := HL2.out; omega) (fun w110 hc => ?_)
        obtain ⟨q2, hq2⟩ : ∃ q, q = decide (l2 = la) := ⟨_, rfl⟩
        rw [← hq2]
        have Hq2 := Lib.hid hq2
        clear hq2
        have HB111 := Lib.hid (HB104.out.to (To.quiet hc))
        have HO112 := Lib.hid (HO105.out.to (To.quiet hc))
        have Hafter113 := Lib.hid (Hafter106.out.to (To.quiet hc))
        have HO71114 := Lib.hid (HO71107.out.to (To.quiet hc))
        have HZ115 := Lib.hid (HZ108.out.quiet hc)
        have Hgot116 := Lib.hid (Hgot109.out.to (To.quiet hc))
        clear HB104 HO105 Hafter106 HO71107 HZ108 Hgot109
        clear hc
        have HB1 : Hid ((f = 0 → q2 = true) ∧ (f ≠ 0 → f ≠ 24 → q1 = true) ∧ (q1 = true ∨ q2 = true)) := Lib.hid ⟨fun h => by rw [Hq2.out]; exact decide_eq_true (HTW.out.2.1 h), fun h h2 => by rw [Hq1.out]; exact decide_eq_true (HTW.out.2.2 h h2), HTW.out.1.imp (fun h => by rw [Hq1.out]; exact decide_eq_true h) (fun h => by rw [Hq2.out]; exact decide_eq_true h)⟩
        clear Hq1 Hq2
        by_cases hf0 : f = 0
        · have h2 := HB1.out.1 hf0
          subst h2 hf0
          cases q1 with
          | false =>
            go_wp2_with fail
            refine same_z _ _ _ _ (Lib.hid (HO71114.out.lst)) (Lib.hid (Hgot116.out.lst)) (by have := HL2.out; omega) (by have := HL2.out; omega) (fun w117 hc => ?_)
            rw [decide_eq_true rfl]
            have HB118 := Lib.hid (HB111.out.to (To.quiet hc))
            have HO119 := Lib.hid (HO112.out.to (To.quiet hc))
            have Hafter120 := Lib.hid (Hafter113.out.to (To.quiet hc))
            have HO71121 := Lib.hid (HO71114.out.to (To.quiet hc))
            have HZ122 := Lib.hid (HZ115.out.quiet hc)
            have Hgot123 := Lib.hid (Hgot116.out.to (To.quiet hc))
            clear HB111 HO112 Hafter113 HO71114 HZ115 Hgot116
            clear hc
            go_wp2_with fail
            go_roundw
            case rel => exact ⟨k + 1, c2, _, l2, _, b2, _, go_, gc_, l2.length, by omega, by go_num, rfl, rfl, HB118, HZ122, Hgot123, Lib.hid ⟨HLG.out.1, HLG.out.2, HL2.out.1, rfl⟩⟩
            case measure => simp [intOf]; omega
          | true =>
            go_wp2_with fail
            refine same_z _ _ _ _ (Lib.hid (HO71114.out.lst)) (Lib.hid (Hgot116.out.lst)) (by have := HL2.out; omega) (by have := HL2.out; omega) (fun w124 hc => ?_)
            rw [decide_eq_true rfl]
            have HB125 := Lib.hid (HB111.out.to (To.quiet hc))
            have HO126 := Lib.hid (HO112.out.to (To.quiet hc))
            have Hafter127 := Lib.hid (Hafter113.out.to (To.quiet hc))
            have HO71128 := Lib.hid (HO71114.out.to (To.quiet hc))
            have HZ129 := Lib.hid (HZ115.out.quiet hc)
            have Hgot130 := Lib.hid (Hgot116.out.to (To.quiet hc))
            clear HB111 HO112 Hafter113 HO71114 HZ115 Hgot116
            clear hc
            go_wp2_with fail
            go_roundw
            case rel => exact ⟨k + 1, c2, _, l2, _, b2, _, go_, gc_, l2.length, by omega, by go_num, rfl, rfl, HB125, HZ129, Hgot130, Lib.hid ⟨HLG.out.1, HLG.out.2, HL2.out.1, rfl⟩⟩
            case measure => simp [intOf]; omega
        by_cases hf4 : f = 24
        · have h2 := HB1.out.2.2
          subst hf4
          clear hf0
          cases q1 with
          | false =>
            obtain rfl : q2 = true := by simpa using h2
            go_wp2_with fail
            refine same_z _ _ _ _ (Lib.hid (HO71114.out.lst)) (Lib.hid (Hgot116.out.lst)) (by have := HL2.out; omega) (by have := HL2.out; omega) (fun w131 hc => ?_)
            rw [decide_eq_true rfl]
            have HB132 := Lib.hid (HB111.out.to (To.quiet hc))
            have HO133 := Lib.hid (HO112.out.to (To.quiet hc))
            have Hafter134 := Lib.hid (Hafter113.out.to (To.quiet hc))
            have HO71135 := Lib.hid (HO71114.out.to (To.quiet hc))
            have HZ136 := Lib.hid (HZ115.out.quiet hc)
            have Hgot137 := Lib.hid (Hgot116.out.to (To.quiet hc))
            clear HB111 HO112 Hafter113 HO71114 HZ115 Hgot116
            clear hc
            go_wp2_with fail
            go_roundw
            case rel => exact ⟨k + 1, c2, _, l2, _, b2, _, go_, gc_, l2.length, by omega, by go_num, rfl, rfl, HB132, HZ136, Hgot137, Lib.hid ⟨HLG.out.1, HLG.out.2, HL2.out.1, rfl⟩⟩
            case measure => simp [intOf]; omega
          | true =>
            cases q2 with
            | false =>
              go_wp2_with fail
              refine same_z _ _ _ _ (Lib.hid (HO71114.out.lst)) (Lib.hid (Hgot116.out.lst)) (by have := HL2.out; omega) (by have := HL2.out; omega) (fun w138 hc => ?_)
              rw [decide_eq_true rfl]
              have HB139 := Lib.hid (HB111.out.to (To.quiet hc))
              have HO140 := Lib.hid (HO112.out.to (To.quiet hc))
              have Hafter141 := Lib.hid (Hafter113.out.to (To.quiet hc))
              have HO71142 := Lib.hid (HO71114.out.to (To.quiet hc))
              have HZ143 := Lib.hid (HZ115.out.quiet hc)
              have Hgot144 := Lib.hid (Hgot116.out.to (To.quiet hc))
              clear HB111 HO112 Hafter113 HO71114 HZ115 Hgot116
              clear hc
              go_wp2_with fail
              go_roundw
              case rel => exact ⟨k + 1, c2, _, l2, _, b2, _, go_, gc_, l2.length, by omega, by go_num, rfl, rfl, HB139, HZ143, Hgot144, Lib.hid ⟨HLG.out.1, HLG.out.2, HL2.out.1, rfl⟩⟩
              case measure => simp [intOf]; omega
            | true =>
              go_wp2_with fail
              refine same_z _ _ _ _ (Lib.hid (HO71114.out.lst)) (Lib.hid (Hgot116.out.lst)) (by have := HL2.out; omega) (by have := HL2.out; omega) (fun w145 hc => ?_)
              rw [decide_eq_true rfl]
              have HB146 := Lib.hid (HB111.out.to (To.quiet hc))
              have HO147 := Lib.hid (HO112.out.to (To.quiet hc))
              have Hafter148 := Lib.hid (Hafter113.out.to (To.quiet hc))
              have HO71149 := Lib.hid (HO71114.out.to (To.quiet hc))
              have HZ150 := Lib.hid (HZ115.out.quiet hc)
              have Hgot151 := Lib.hid (Hgot116.out.to (To.quiet hc))
              clear HB111 HO112 Hafter113 HO71114 HZ115 Hgot116
              clear hc
              go_wp2_with fail
              go_roundw
              case rel => exact ⟨k + 1, c2, _, l2, _, b2, _, go_, gc_, l2.length, by omega, by go_num, rfl, rfl, HB146, HZ150, Hgot151, Lib.hid ⟨HLG.out.1, HLG.out.2, HL2.out.1, rfl⟩⟩
              case measure => simp [intOf]; omega
        have h2 := HB1.out.2.1 hf0 hf4
        subst h2
        have y1 : (f == 0) = false := by rw [beq_eq_false_iff_ne]; exact hf0
        have y2 : (f != 0) = true := by rw [bne_iff_ne]; exact hf0
        have y3 : (f == 24) = false := by rw [beq_eq_false_iff_ne]; exact hf4
        have y4 : (f != 24) = true := by rw [bne_iff_ne]; exact hf4
        cases q2 with
        | false =>
          go_wp2_with fail
          refine same_z _ _ _ _ (Lib.hid (HO71114.out.lst)) (Lib.hid (Hgot116.out.lst)) (by have := HL2.out; omega) (by have := HL2.out; omega) (fun w152 hc => ?_)
          rw [decide_eq_true rfl]
          have HB153 := Lib.hid (HB111.out.to (To.quiet hc))
          have HO154 := Lib.hid (HO112.out.to (To.quiet hc))
          have Hafter155 := Lib.hid (Hafter113.out.to (To.quiet hc))
          have HO71156 := Lib.hid (HO71114.out.to (To.quiet hc))
          have HZ157 := Lib.hid (HZ115.out.quiet hc)
          have Hgot158 := Lib.hid (Hgot116.out.to (To.quiet hc))
          clear HB111 HO112 Hafter113 HO71114 HZ115 Hgot116
          clear hc
          go_wp2_with fail
          go_roundw
          case rel => exact ⟨k + 1, c2, _, l2, _, b2, _, go_, gc_, l2.length, by omega, by go_num, rfl, rfl, HB153, HZ157, Hgot158, Lib.hid ⟨HLG.out.1, HLG.out.2, HL2.out.1, rfl⟩⟩
          case measure => simp [intOf]; omega
        | true =>
          go_wp2_with fail
          refine same_z _ _ _ _ (Lib.hid (HO71114.out.lst)) (Lib.hid (Hgot116.out.lst)) (by have := HL2.out; omega) (by have := HL2.out; omega) (fun w159 hc => ?_)
          rw [decide_eq_true rfl]
          have HB160 := Lib.hid (HB111.out.to (To.quiet hc))
          have HO161 := Lib.hid (HO112.out.to (To.quiet hc))
          have Hafter162 := Lib.hid (Hafter113.out.to (To.quiet hc))
          have HO71163 := Lib.hid (HO71114.out.to (To.quiet hc))
          have HZ164 := Lib.hid (HZ115.out.quiet hc)
          have Hgot165 := Lib.hid (Hgot116.out.to (To.quiet hc))
          clear HB111 HO112 Hafter113 HO71114 HZ115 Hgot116
          clear hc
          go_wp2_with fail
          go_roundw
          case rel => exact ⟨k + 1, c2, _, l2, _, b2, _, go_, gc_, l2.length, by omega, by go_num, rfl, rfl, HB160, HZ164, Hgot165, Lib.hid ⟨HLG.out.1, HLG.out.2, HL2.out.1, rfl⟩⟩
          case measure => simp [intOf]; omega
      · subst he0 hjo
        refine open_z HB56 HZ57 (HQ3.out) (HN3.out) (fun e E A171 w172 he ht hz => ?_) (fun j9 E b168 v169 u170 A166 w167 he ht hz hj hl => ?_)
        rotate_left
        · have h9 := (HG1.out).symm.trans he
          cases h9
        obtain ⟨rfl, -, rfl⟩ := pair3 ((HG1.out).symm.trans he)
        clear he
        have HB173 := Lib.hid (HB56.out.to ht)
        have HZ174 := Lib.hid (hz)
        have HO175 := Lib.hid (HO58.out.to ht)
        have Hafter176 := Lib.hid (Hafter59.out.to ht)
        clear HB56 HZ57 HO58 Hafter59
        clear ht hz
        go_wp2_with fail
        refine fail_z HZ174 HQ4.out 0 0 (fun A177 w178 ht hz => ?_)
        have HB179 := Lib.hid (HB173.out.to ht)
        have HZ180 := Lib.hid (hz)
        have HO181 := Lib.hid (HO175.out.to ht)
        have Hafter182 := Lib.hid (Hafter176.out.to ht)
        clear HB173 HZ174 HO175 Hafter176
        clear ht hz
        go_wp2_with fail
        refine start_z HZ180 (fun A183 w184 ht hz => ?_)
        have HB185 := Lib.hid (HB179.out.to ht)
        have HZ186 := Lib.hid (hz)
        have HO187 := Lib.hid (HO181.out.to ht)
        have Hafter188 := Lib.hid (Hafter182.out.to ht)
        clear HB179 HZ180 HO181 Hafter182
        clear ht hz
        go_wp2_with fail
        obtain ⟨own, hd, hsub, -⟩ := HZ186.out.step
        have HDd := Lib.hid hd
        clear HZ186
        have HB189 := Lib.hid (HB185.out.less hsub)
        have HO190 := Lib.hid (HO187.out.less hsub)
        have Hafter191 := Lib.hid (Hafter188.out.less hsub)
        clear hd hsub HB185 HO187 Hafter188
        refine open_d HB189 HDd HQ5.out HN5.out (fun e E9 A8 w8 he ht hd => ?_) (fun j8 E9 b2 v2 gv A192 w193 he ht hz hl => ?_)
        · have h8 := HK1.out.symm.trans he
          cases h8
        obtain ⟨-, h8, rfl⟩ := pair3 (HK1.out.symm.trans he)
        injection h8 with h8
        subst h8
        clear he
        clear HDd
        have HB194 := Lib.hid (HB189.out.to ht)
        have HO195 := Lib.hid (HO190.out.to ht)
        have Hafter196 := Lib.hid (Hafter191.out.to ht)
        clear HB189 HO190 Hafter191
        have HZ197 := Lib.hid (hz)
        have Hgot198 := Lib.hid (hl)
        obtain ⟨go_, gc_, rfl⟩ := hl.1.form
        clear ht hz hl
        have HGL := Hgot198
        clear HGL
        go_wp2_with fail
        refine same_z _ _ _ _ (Lib.hid (Hgot198.out.lst)) (Lib.hid (HO195.out.lst)) (by have := HL2.out; omega) (by have := HD.out.2.2.1; omega) (fun w199 hc => ?_)
        obtain ⟨q1, hq1⟩ : ∃ q, q = decide (l2 = l) := ⟨_, rfl⟩
        rw [← hq1]
        have Hq1 := Lib.hid hq1
        clear hq1
        have HB200 := Lib.hid (HB194.out.to (To.quiet hc))
        have HO201 := Lib.hid (HO195.out.to (To.quiet hc))
        have Hafter202 := Lib.hid (Hafter196.out.to (To.quiet hc))
        have HZ203 := Lib.hid (HZ197.out.quiet hc)
        have Hgot204 := Lib.hid (Hgot198.out.to (To.quiet hc))
        clear HB194 HO195 Hafter196 HZ197 Hgot198
        clear hc
        go_wp2_with fail
        refine same_z _ _ _ _ (Lib.hid (Hgot204.out.lst)) (Lib.hid (Hafter202.out.lst)) (by have := HL2.out; omega) (by have := HL2.out; omega) (fun w205 hc => ?_)
        obtain ⟨q2, hq2⟩ : ∃ q, q = decide (l2 = la) := ⟨_, rfl⟩
        rw [← hq2]
        have Hq2 := Lib.hid hq2
        clear hq2
        have HB206 := Lib.hid (HB200.out.to (To.quiet hc))
        have HO207 := Lib.hid (HO201.out.to (To.quiet hc))
        have Hafter208 := Lib.hid (Hafter202.out.to (To.quiet hc))
        have HZ209 := Lib.hid (HZ203.out.quiet hc)
        have Hgot210 := Lib.hid (Hgot204.out.to (To.quiet hc))
        clear HB200 HO201 Hafter202 HZ203 Hgot204
        clear hc
        have HB1 : Hid ((f = 0 → q2 = true) ∧ (f ≠ 0 → f ≠ 24 → q1 = true) ∧ (q1 = true ∨ q2 = true)) := Lib.hid ⟨fun h => by rw [Hq2.out]; exact decide_eq_true (HTW.out.2.1 h), fun h h2 => by rw [Hq1.out]; exact decide_eq_true (HTW.out.2.2 h h2), HTW.out.1.imp (fun h => by rw [Hq1.out]; exact decide_eq_true h) (fun h => by rw [Hq2.out]; exact decide_eq_true h)⟩
        clear Hq1 Hq2
        by_cases hf0 : f = 0
        · have h2 := HB1.out.1 hf0
          subst h2 hf0
          cases q1 with
          | false =>
            go_wp2_with fail
            go_roundw
            case rel => exact ⟨k + 1, c2, _, l2, _, b2, _, go_, gc_, l2.length, by omega, by go_num, rfl, rfl, HB206, HZ209, Hgot210, Lib.hid ⟨HLG.out.1, HLG.out.2, HL2.out.1, rfl⟩⟩
            case measure => simp [intOf]; omega
          | true =>
            go_wp2_with fail
            go_roundw
            case rel => exact ⟨k + 1, c2, _, l2, _, b2, _, go_, gc_, l2.length, by omega, by go_num, rfl, rfl, HB206, HZ209, Hgot210, Lib.hid ⟨HLG.out.1, HLG.out.2, HL2.out.1, rfl⟩⟩
            case measure => simp [intOf]; omega
        by_cases hf4 : f = 24
        · have h2 := HB1.out.2.2
          subst hf4
          clear hf0
          cases q1 with
          | false =>
            obtain rfl : q2 = true := by simpa using h2
            go_wp2_with fail
            go_roundw
            case rel => exact ⟨k + 1, c2, _, l2, _, b2, _, go_, gc_, l2.length, by omega, by go_num, rfl, rfl, HB206, HZ209, Hgot210, Lib.hid ⟨HLG.out.1, HLG.out.2, HL2.out.1, rfl⟩⟩
            case measure => simp [intOf]; omega
          | true =>
            cases q2 with
            | false =>
              go_wp2_with fail
              go_roundw
              case rel => exact ⟨k + 1, c2, _, l2, _, b2, _, go_, gc_, l2.length, by omega, by go_num, rfl, rfl, HB206, HZ209, Hgot210, Lib.hid ⟨HLG.out.1, HLG.out.2, HL2.out.1, rfl⟩⟩
              case measure => simp [intOf]; omega
            | true =>
              go_wp2_with fail
              go_roundw
              case rel => exact ⟨k + 1, c2, _, l2, _, b2, _, go_, gc_, l2.length, by omega, by go_num, rfl, rfl, HB206, HZ209, Hgot210, Lib.hid ⟨HLG.out.1, HLG.out.2, HL2.out.1, rfl⟩⟩
              case measure => simp [intOf]; omega
        have h2 := HB1.out.2.1 hf0 hf4
        subst h2
        have y1 : (f == 0) = false := by rw [beq_eq_false_iff_ne]; exact hf0
        have y2 : (f != 0) = true := by rw [bne_iff_ne]; exact hf0
        have y3 : (f == 24) = false := by rw [beq_eq_false_iff_ne]; exact hf4
        have y4 : (f != 24) = true := by rw [bne_iff_ne]; exact hf4
        cases q2 with
        | false =>
          go_wp2_with fail
          go_roundw
          case rel => exact ⟨k + 1, c2, _, l2, _, b2, _, go_, gc_, l2.length, by omega, by go_num, rfl, rfl, HB206, HZ209, Hgot210, Lib.hid ⟨HLG.out.1, HLG.out.2, HL2.out.1, rfl⟩⟩
          case measure => simp [intOf]; omega
        | true =>
          go_wp2_with fail
          go_roundw
          case rel => exact ⟨k + 1, c2, _, l2, _, b2, _, go_, gc_, l2.length, by omega, by go_num, rfl, rfl, HB206, HZ209, Hgot210, Lib.hid ⟨HLG.out.1, HLG.out.2, HL2.out.1, rfl⟩⟩
          case measure => simp [intOf]; omega
    · have hkn : k = n := by omega
      subst hkn
      go_wp2_with fail
      go_ret
      exact ⟨rfl, HB.out.chg⟩
end Go.Proofs.YtpmkgedlnanjiaaDoor
