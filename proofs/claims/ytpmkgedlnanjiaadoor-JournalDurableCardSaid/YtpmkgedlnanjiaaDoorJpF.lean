/-
  Journal: a journal on a new disk with the records of some Appends.
-/
import Derived.Test.YtpmkgedlnanjiaaDoorJpD
import Derived.Test.YtpmkgedlnanjiaaDoorJpE
namespace Go.Proofs.YtpmkgedlnanjiaaDoor
set_option linter.unusedVariables false
set_option linter.unusedSimpArgs false
set_option maxRecDepth 100000
open Go Go.RowKit
attribute [local irreducible] Go.wpStill
namespace Jn
theorem open_few (sm : Bytes → Bytes) {n : Nat} (h : n < 3) : openJ sm (DK.new n) = ((1, none), DK.new n) := by
  unfold openJ
  rw [if_neg (show ¬ (DK.new n).off = true by show ¬ false = true; decide), if_pos (show (DK.new n).n < 3 from h)]
theorem text_small {l : List Bytes} (h : l.length ≤ 20) (hx : ∀ x ∈ l, x.length ≤ 6000) : (text l).length ≤ 900000 := by
  have h1 : ∀ m : List Bytes, (∀ x ∈ m, x.length ≤ 6000) → (text m).length ≤ m.length * 6022 := fun m => by
    induction m with
    | nil => intro _; exact Nat.le_refl _
    | cons x m ih =>
      intro hm
      have h2 := hm x (List.mem_cons_self ..)
      have h3 := ih (fun y hy => hm y (List.mem_cons_of_mem _ hy))
      have h4 := Lib.itoa_length_le (x.length : Int) (by omega) (by omega)
      rw [text_cons, List.length_append, List.length_cons, List.length_append, List.length_cons]
      omega
  have := h1 l hx
  omega
end Jn
theorem vint9 {a b : Int} (h : a = b) : (Value.int .i64 a) = .int .i64 b := by rw [h]
set_option maxHeartbeats 4000000 in
theorem filled_r {w : World} (HL : Hid (Laid w)) (s : Int) (v : Value) (L : List OpV) (H : Hid (RdS 5 ROp w v L)) (hlt : Hid (Light s L)) {R : Ending → World → Prop}
    (h1 : ∀ dv w', Chg [] w w' → s < 3 → R (.returned (.tuple #[dv, .pointer none, .slice none 0 0])) w')
    (h2 : ∀ (n : Nat) D c l p b u A lv w', s = (n : Int) → 3 ≤ n → n ≤ 40 → D.n = n → Jn.Live Dg.sum D c l → Jn.Eld Dg.sum D c → l.length ≤ 320 → Base w w' A → JZ w.heap.size w' A p b D ⟨n, c, l, false⟩ u → Own w.heap.size A w' lv l → R (.returned (.tuple #[.pointer (some ⟨p, 0, none⟩), .pointer (some ⟨b, 0, none⟩), lv])) w') :
    Calls Tryd.prog 10 #[.int .i64 s, v] w R := by
  have HR1 := Lib.hid h1
  have HR2 := Lib.hid h2
  clear h1 h2
  obtain ⟨ao, cap, rfl, hle, hrc⟩ := H.out.form
  unfold Rch at hrc
  obtain ⟨n, hn⟩ : ∃ n, n = L.length := ⟨_, rfl⟩
  rw [← hn] at H hle hrc ⊢
  have HN := Lib.hid hn
  have h40 := hlt.out.1
  have h16 : n ≤ 16 := by rw [hn]; exact hlt.out.2.1
  clear hn
  have HB0 : Hid (Base w w []) := Lib.hid ⟨Chg.refl _ _, by simp, HL.out⟩
  go_enter Tryd.func10, Tryd.ntmps10
  by_cases hs1 : s < 1
  · go_wp2_with fail
    refine (new_bad w s (.inl hs1)).mono ?_
    rintro e w9 ⟨rfl, rfl⟩
    go_wp2_with fail
    refine open_nil w ?_
    go_wp2_with fail
    go_ret3
    exact HR1.out _ _ (Chg.refl _ _) (by omega)
  obtain ⟨N, rfl⟩ : ∃ N : Nat, s = (N : Int) := ⟨s.toNat, by omega⟩
  go_wp2_with fail
  refine new_d HB0 N (by omega) (by omega) (fun p A1 w2 ht hd => ?_)
  have HB3 := Lib.hid (HB0.out.to ht)
  clear HB0
  have HD4 := Lib.hid (hd)
  clear ht hd
  go_wp2_with fail
  refine open_d HB3 HD4 (show (0 : Nat) ≤ 1000 by omega) (show N ≤ 100 by omega) (fun e E A9 w9 he ht hd => ?_) (fun j9 E b u lv A5 w6 he ht hz hl => ?_)
  · have h3 : N < 3 := by
      rcases Nat.lt_or_ge N 3 with h | h
      · exact h
      · have h9 := ((Jn.live_new (sm := Dg.sum) Dg.sum_len h (by omega)).openJ).symm.trans he
        cases h9
    obtain ⟨rfl, -, -⟩ := pair3 ((Jn.open_few Dg.sum h3).symm.trans he)
    have hc9 : Chg [] w w9 := (HB3.out.to ht).chg
    clear he ht hd
    go_wp2_with fail
    go_ret3
    exact HR1.out _ _ hc9 (by omega)
  have h3 : 3 ≤ N := by
    rcases Nat.lt_or_ge N 3 with h | h
    · have h9 := (Jn.open_few Dg.sum h).symm.trans he; cases h9
    · exact h
  obtain ⟨-, h8, rfl⟩ := pair3 (((Jn.live_new (sm := Dg.sum) Dg.sum_len h3 (by omega)).openJ).symm.trans he)
  injection h8 with h8
  subst h8
  clear he
  clear HD4
  have HB7 := Lib.hid (HB3.out.to ht)
  clear HB3
  have HZ8 := Lib.hid (hz)
  clear ht hz hl
  go_wp2_with fail
  go_loopw [11, 12] (fun ov iv wr => ∃ (k c : Nat) (D : DK) (l : List Bytes) (A : List Nat) (u : Value) (oa : Option Addr) (oc : Nat), k ≤ n ∧ iv = .int .i64 (k : Int) ∧ ov = .slice oa l.length oc ∧ Hid (Base w wr A) ∧ Hid (JZ w.heap.size wr A p b D ⟨N, c, l, false⟩ u) ∧ Hid (Own w.heap.size A wr ov l) ∧ Hid (D.n = N ∧ Jn.Live Dg.sum D c l ∧ Jn.Eld Dg.sum D c ∧ l.length ≤ 20 * k)) (fun _ iv _ => n - (intOf iv).toNat)
  case atStart => exact ⟨0, 0, _, [], _, _, none, 0, Nat.zero_le _, rfl, rfl, HB7, HZ8, Lib.hid ⟨OwT.nil _ _, fun k hk => by simp [Value.ownBlock] at hk⟩, Lib.hid ⟨rfl, Jn.live_new Dg.sum_len h3 (by omega), Jn.eld_new _, Nat.le_refl _⟩⟩
  case round =>
    obtain ⟨k, c, D, l, A, u, oa, oc, hk, hiv, rfl, HB, HZ, HO, HD⟩ := hrel
    subst hiv
    by_cases hlt2 : k < n
    · obtain ⟨o, ho⟩ : ∃ o, L[k]? = some o := ⟨L[k]'(by rw [← HN.out]; exact hlt2), by simp⟩
      obtain ⟨gg, off, cs, hag, hgl, -, ⟨rv, rfl, hrv, -⟩, hcc⟩ := (H.out.keep kq_op HB.out.chg).elem ho
      obtain ⟨gg2, off2, cs2, hag2, hgl2, -, ⟨rv2, rfl, hrv2, -⟩, hcc2⟩ := H.out.elem ho
      subst hag
      cases hag2
      have c1 := hcc 1 _ rfl
      have c1b := HB.out.chg.block gg hgl2 (by simp)
      have hrr : rv2 = rv := by have h8 := hcc2 1 _ rfl; have h9 := World.cell?_of_block (a := ⟨gg, off + k * 5 + 1, none⟩) c1b; rw [c1, h8] at h9; injection h9 with h9; exact h9.symm
      subst hrr
      have HRV : Hid (Strs w rv2 o.list) := Lib.hid hrv2.strs
      have HRL : Hid (Lst A wr rv2 o.list) := Lib.hid (HB.out.lst HRV.out (fun hne ad n0 c0 he => by obtain ⟨x, hx⟩ : ∃ x, o.list[0]? = some x := ⟨o.list[0]'(List.length_pos_iff.2 hne), by simp⟩; subst he; obtain ⟨g9, off9, h9, h10, _⟩ := hrv2.str_at hx; cases h9; exact block_lt_of_cell h10))
      have HOL : Hid (o.list.length ≤ 20 ∧ ∀ x ∈ o.list, x.length ≤ 6000) := Lib.hid (hlt.out.2.2 o (List.mem_of_getElem? ho))
      obtain ⟨ra, rc, rfl, -⟩ := HRL.out.form
      obtain ⟨m, hm⟩ : ∃ m, m = o.list.length := ⟨_, rfl⟩
      rw [← hm] at c1 HRL HRV
      have HM := Lib.hid hm
      have HC1 : Hid (w.cell? ⟨gg, off + k * 5 + 1, none⟩ = some (.slice ra m rc)) := Lib.hid (by have h8 := hcc2 1 _ rfl; rw [← hm] at h8; exact h8)
      clear hcc hcc2 hrv hrv2 ho c1b hm
      have z0 : (0 : Int) ≤ (k : Int) := by omega
      have z1 : (k : Int) < (n : Int) := by omega
      go_wp2_with fail
      refine append_z HB HZ (.slice ra m rc) o.list HRL (by have := HOL.out.1; omega) (Lib.hid (fun x hx => by have := HOL.out.2 x hx; omega)) (Lib.hid (Jn.text_small HOL.out.1 HOL.out.2)) (show N ≤ 4000 by omega) (by have := HD.out.2.1.lies.cn; have := HD.out.1; show c + 2 ≤ N; omega) (by have := HD.out.2.2.2; show l.length ≤ 90000; omega) (by rw [HD.out.2.1.q]; exact Nat.zero_le _) (fun e j9 E A9 u11 w10 he ht hz => ?_)
      obtain ⟨E9, a1, a2, a3⟩ := HD.out.2.1.append Dg.sum_len o.list
      rw [HD.out.1] at a1
      have a4 : Jn.Eld Dg.sum E9 (if Jn.verdict D c o.list = 0 then c + (Jn.pieces (Jn.text o.list)).length else c) := HD.out.2.1.append_eld Dg.sum_len HD.out.2.2.1 o.list (by rw [HD.out.1]; exact a1)
      obtain ⟨rfl, rfl, rfl⟩ := pair3 (a1.symm.trans he)
      clear he a1
      have HA2 : Hid (E9.n = N) := Lib.hid (a2.trans HD.out.1)
      have HA3 := Lib.hid a3
      have HA4 := Lib.hid a4
      clear a2 a3 a4
      have HB12 := Lib.hid (HB.out.to ht)
      have HZ13 := Lib.hid (hz)
      have HO14 := Lib.hid (HO.out.to ht)
      have HX15 := Lib.hid (HRL.out.to ht)
      clear HB HZ HO HRL
      clear ht hz c1
      have c1 := cell_quiet HB12.out.chg HC1.out (by simp)
      obtain ⟨vd, hvd⟩ : ∃ vd, vd = Jn.verdict D c o.list := ⟨_, rfl⟩
      rw [← hvd] at HA3 HA4 HZ13 ⊢
      clear hvd
      by_cases hv0 : vd = 0
      · subst hv0
        simp only [if_true] at HA3 HA4 HZ13
        go_wp2_with (at_builtin; refine wpList_strs rfl (.tmp 38) (.tmp 43) rfl w.heap.size l (.slice oa l.length oc) (by rfl) HO14.out.1 o.list (.slice ra m rc) (by rfl) HX15.out.1 (by have h8 := HD.out.2.2.2; have h9 := HOL.out.1; omega) HB12.out.size (fun v8 w8 h5 h6 h7 => ?_))
        have HOn : Hid (Own w.heap.size A9 w8 v8 (l ++ o.list)) := Lib.hid (HO14.out.grown HZ13.out.lt h5 h7)
        have HZn := Lib.hid (HZ13.out.grown HO14.out h6)
        have HBn := Lib.hid (HB12.out.grown HO14.out.1 h6)
        obtain ⟨oa2, oc2, rfl⟩ := HOn.out.1.form
        have HLN : Hid ((l ++ o.list).length ≤ 20 * (k + 1)) := Lib.hid (by have h8 := HD.out.2.2.2; have h9 := HOL.out.1; rw [List.length_append]; omega)
        clear h5 h6 h7 c1
        obtain ⟨l2, hl2⟩ : ∃ l2, l2 = l ++ o.list := ⟨_, rfl⟩
        rw [← hl2] at HOn HZn HA3 HLN ⊢
        clear hl2
        go_wp2_with fail
        go_roundw
        case rel => exact ⟨k + 1, _, E9, l2, _, _, oa2, oc2, by omega, by go_num, rfl, HBn, HZn, HOn, Lib.hid ⟨HA2.out, HA3.out, HA4.out, HLN.out⟩⟩
        case measure => simp [intOf]; omega
      · simp only [if_neg hv0] at HA3 HA4 HZ13
        have z3 : (vd == 0) = false := by rw [beq_eq_false_iff_ne]; exact hv0
        clear hv0 c1
        go_wp2_with fail
        go_roundw
        case rel => exact ⟨k + 1, c, E9, l, _, _, oa, oc, by omega, by go_num, rfl, HB12, HZ13, HO14, Lib.hid ⟨HA2.out, HA3.out, HA4.out, by have h8 := HD.out.2.2.2; omega⟩⟩
        case measure => simp [intOf]; omega
    · have hkn : k = n := by omega
      subst hkn
      go_wp2_with fail
      go_ret3
      exact HR2.out N D c l p b u A _ wr rfl h3 (by omega) HD.out.1 HD.out.2.1 HD.out.2.2.1 (by have h8 := HD.out.2.2.2; omega) HB.out HZ.out HO.out
end Go.Proofs.YtpmkgedlnanjiaaDoor
