/-
  Rule, the law RuleAlternatives: the walk. Printed by genalts07.py.
-/
import Derived.Test.YtmfjebpefneboaaDoorRlZ
import Derived.Test.YtmfjebpefneboaaDoorRlT
import Derived.Test.YtmfjebpefneboaaDoorRlY
namespace Go.Proofs.YtmfjebpefneboaaDoor
set_option linter.unusedVariables false
set_option linter.unusedSimpArgs false
open Go Go.RowKit Go.Shelf
open Lx (Tk)
attribute [local go_sem ↓] Go.wp_at_zero Go.wp_at_succ

theorem last_byte {s : Bytes} {sb : ByteArray} (HSB : Hid (sb = ⟨s.toArray⟩)) {p : Nat} (h : p < sb.size) (h2 : p < s.length) : sb[p] = s[p] := sb_get HSB h h2
theorem alt_cat (a kw d : Bytes) : (⟨a.toArray⟩ : ByteArray) ++ (⟨(32 :: (kw ++ [32])).toArray⟩ : ByteArray) ++ (⟨#[104, 101, 108, 100, 32, 60, 61, 32]⟩ : ByteArray) ++ (⟨d.toArray⟩ : ByteArray) ++ (⟨#[59]⟩ : ByteArray) = ⟨(a ++ Rl.altText kw d).toArray⟩ := by
  apply ByteArray.ext
  apply Array.ext'
  simp [Rl.altText]
theorem row_store_at {w : World} {b : Nat} {cs : List Value} {T E : TypeId} {base size n : Nat} {v u : Value} {xs : List Value} (ho : w.ownsRow base E size v n xs) (hb : Blk w b cs T) (hne : T ≠ E) (i : Nat) : (w.setCell ⟨b, i, none⟩ u).ownsRow base E size v n xs :=
  ownsRow_chg ho ((Chg.refl [b] w).setCell _ _ (.inl (by simp))) fun k hk => .inr fun ds e fr hh he => by
    simp at hk
    subst hk
    unfold Blk at hb
    rw [hb] at hh
    simp only [Option.some.injEq, Obj.cells.injEq] at hh
    simp at he
    exact hne (hh.2.1.trans he)
set_option maxHeartbeats 4000000 in
set_option maxRecDepth 100000 in
theorem ruleAlternatives_walk (w : World) (s : Bytes) (hs0 : s.length ≤ 9223372036854775807) (n : Nat) (hn : n < 65536) :
    Calls Tryd.prog 9 #[.string ⟨s.toArray⟩, .int .u16 (n : Int)] w fun e w' => e = .returned (.bool true) ∧ Chg [] w w' := by
  obtain ⟨sb, hsb⟩ : ∃ sb : ByteArray, sb = ⟨s.toArray⟩ := ⟨_, rfl⟩
  rw [← hsb]
  have HSB := Lib.hid hsb
  have HSZ : Hid (sb.size = s.length) := Lib.hid (hsize HSB)
  clear hsb
  go_enter Tryd.func9, Tryd.ntmps9
  go_wp2_with fail
  refine (head_spec07 _).mono ?_
  rintro e w1 ⟨rfl, hc1⟩
  have HC1 := Lib.hid hc1
  clear hc1
  by_cases hz : s.length = 0
  · have q0 : ((sb.size : Int) == 0) = true := by rw [HSZ.out, hz]; rfl
    clear hz
    go_wp2_with fail
    go_ret
    exact ⟨rfl, HC1.out⟩
  have q0 : ((sb.size : Int) == 0) = false := beq_eq_false_iff_ne.2 (by rw [HSZ.out]; omega)
  by_cases hl : s.length ≤ 4000
  · have q1 : ¬ (4000 : Int) < (sb.size : Int) := by rw [HSZ.out]; omega
    have HL := Lib.hid hl
    obtain ⟨p, hp⟩ : ∃ p, s.length = p + 1 := ⟨s.length - 1, by omega⟩
    have HP := Lib.hid hp
    have q2 : IntKind.i64.wrap ((sb.size : Int) - 1) = (p : Int) := by rw [IntWalk.i64_in _ (by rw [HSZ.out]; omega), HSZ.out, hp]; omega
    have q3 : (0 : Int) ≤ (p : Int) := by omega
    have q4 : (p : Int) < (sb.size : Int) := by rw [HSZ.out, hp]; omega
    have hpp : p < sb.size := by rw [HSZ.out, hp]; omega
    clear hl hs0 hz hp
    by_cases hb : sb[p] = 59
    · have q5 : ((sb[p].toNat : Int) != 59) = false := by rw [hb]; rfl
      clear hb
      go_wp2_with fail
      refine parse_r (by have := HL.out; omega) HSB (fun bo k bp E1 A1 w2 HL2 HC2 HE1 => ?_)
      go_wp2_with fail
      refine lex_r (by have := HL.out; omega) HSB (fun ao m cap E0 A0 w3 HT3 HC3 HE0 => ?_)
      have hb := HC3.out.blk (Blk.new w2 [.slice bo k bp] 25) (by simp)
      obtain ⟨B0, hB0⟩ : ∃ B0, B0 = w2.heap.size := ⟨_, rfl⟩
      rw [← hB0] at hb ⊢
      have HB := Lib.hid hb
      have HL3 : Hid (ListS w1.heap.size 42 9 (Ci w1.heap.size) (Rl.parse s).1 (.slice bo k bp) w3) := Lib.hid (HL2.out.keep (kp_i _) ((Chg.refl [] w2).alloc _ |>.trans HC3.out (by simp)) (TyB.nil _ _ _))
      have HGE1 : Hid (w1.heap.size ≤ w3.heap.size) := Lib.hid (((HC2.out.alloc _).trans HC3.out (by simp)).size)
      have HC13 : Hid (Chg [] w w3) := Lib.hid ((HC1.out.trans HC2.out (by simp)).alloc _ |>.trans HC3.out (by simp))
      clear hb hB0
      have d0 := HB.out.cell (i := 0) rfl
      by_cases e1 : E1 = 0
      · have n1 : ((E1 : Int) != 0) = false := by subst e1; rfl
        have HE11 := Lib.hid e1
        clear e1
        by_cases hk : k = 1
        · subst hk
          by_cases hm : m = 0
          · subst hm
            go_wp2_with fail
            go_ret
            exact ⟨rfl, HC13.out⟩
          · have n3 : ((m : Int) == 0) = false := beq_eq_false_iff_ne.2 (by omega)
            obtain ⟨mm, hmm⟩ : ∃ mm, m = mm + 1 := ⟨m - 1, by omega⟩
            subst hmm
            obtain ⟨u, hu⟩ : ∃ u, (Lx.lex s).1[mm]? = some u := ⟨(Lx.lex s).1[mm]'(by rw [HE0.out.1]; omega), by simp⟩
            have hml : mm ≤ 100000 := by
              have h1 := Lx.lex_len s
              have h2 := HL.out
              rw [HE0.out.1] at h1
              omega
            obtain ⟨g0, off, rfl, c0, c1, c2, c3⟩ := HT3.out.get hu
            obtain ⟨x, hx⟩ : ∃ x, (Rl.parse s).1 = [x] := by
              have h1 := HE1.out.1
              cases h2 : (Rl.parse s).1 with
              | nil => rw [h2] at h1; cases h1
              | cons x r => cases r with
                | nil => exact ⟨x, rfl⟩
                | cons y r => rw [h2] at h1; simp at h1
            obtain ⟨g, cap', uo, uc, f1, f2, f3, a0, a1, a2, a3, a4, a5, a6, a7, a8⟩ := itm_get HL3.out (i := 0) (by rw [hx]; rfl)
            rw [HE1.out.1] at f1 f2
            simp only [Value.slice.injEq, true_and] at f1
            obtain ⟨rfl, rfl⟩ := f1
            obtain ⟨wl, hwl⟩ : ∃ n, x.whn.length = n := ⟨_, rfl⟩
            obtain ⟨ua, hua⟩ : ∃ n, u.at_ = n := ⟨_, rfl⟩
            rw [hwl] at f3 a2
            rw [hua] at c3
            rw [Nat.zero_mul] at a0
            simp only [Nat.zero_mul, Nat.zero_add] at a1 a2 a3 a4 a5 a6 a7 a8
            have r0 : IntKind.i64.wrap (((mm + 1 : Nat) : Int) - 1) = (mm : Int) := by rw [IntWalk.i64_in _ (by omega)]; omega
            have n4 : (((mm : Int) + 1) == 0) = false := beq_eq_false_iff_ne.2 (by omega)
            have r00 : IntKind.i64.wrap ((mm : Int) + 1 - 1) = (mm : Int) := by rw [IntWalk.i64_in _ (by omega)]; omega
            have r1 : (0 : Int) ≤ (mm : Int) := by omega
            have r2 : (mm : Int) < ((mm + 1 : Nat) : Int) := by omega
            have HMM := Lib.hid HE0.out.1
            by_cases ht : ua = p
            · have r3 : ((ua : Int) != (p : Int)) = false := by rw [ht]; exact bne_self_eq_false _
              by_cases hw12 : wl < 12
              · have r4 : ¬ (12 : Int) ≤ (wl : Int) := by omega
                have HF3 := Lib.hid f3
                have HX := Lib.hid hx
                have HWL := Lib.hid hwl
                have HU := Lib.hid hu
                have HUA : Hid (u.at_ + 1 = s.length) := Lib.hid (by rw [hua, ht, HP.out])
                have A := Lib.hid (⟨a0, a1, a2, a3, a4, a5, a6, a7, a8⟩ : _ ∧ _ ∧ _ ∧ _ ∧ _ ∧ _ ∧ _ ∧ _ ∧ _)
                have HB3 := Lib.hid d0
                clear f3 hx hwl hu hua ht
                go_upto_if 89 with fail
                obtain ⟨kw, hkw⟩ : ∃ kw, kw = (if x.whn = [] then Rl.wWhen else Rl.wOr) := ⟨_, rfl⟩
                have HKW := Lib.hid hkw
                clear hkw
                go_cut [12] from 13 (fun v wc => v = .string ⟨(32 :: (kw ++ [32])).toArray⟩ ∧ wc = w3)
                case first =>
                  by_cases hw0 : wl = 0
                  · have p1 : ¬ (0 : Int) < (wl : Int) := by omega
                    have hkk : kw = Rl.wWhen := by
                      rw [HKW.out, if_pos]
                      exact List.length_eq_zero_iff.1 (by rw [HWL.out]; exact hw0)
                    have HKK := Lib.hid hkk
                    clear hw0 hkk
                    go_wp2_with fail
                    go_meet
                    case rel => exact ⟨by rw [HKK.out]; rfl, rfl⟩
                  · have p1 : (0 : Int) < (wl : Int) := by omega
                    have hkk : kw = Rl.wOr := by
                      rw [HKW.out, if_neg]
                      intro h
                      have := HWL.out
                      rw [h] at this
                      exact hw0 this.symm
                    have HKK := Lib.hid hkk
                    clear hw0 hkk
                    go_wp2_with fail
                    go_meet
                    case rel => exact ⟨by rw [HKK.out]; rfl, rfl⟩
                case rest =>
                  obtain ⟨rfl, hwc⟩ := hcut
                  subst hwc
                  obtain ⟨w3, hw3⟩ : ∃ w, w = wc := ⟨_, rfl⟩
                  subst hw3
                  clear a0 a1 a2 a3 a4 a5 a6 a7 a8 c0 c1 c2 c3 d0
                  have HKL : Hid (kw.length ≤ 4) := Lib.hid (by rw [HKW.out]; split <;> decide)
                  have d1 := Lx.dec_facts 5 n (by decide) (by omega)
                  have HDL : Hid ((Lib.decDigits n).length ≤ 5) := Lib.hid d1.2.1
                  obtain ⟨ya, hya⟩ := Rl.alts_law (d := Lib.decDigits n) HL.out (HE1.out.2.1.trans HE11.out) HX.out (u := u) (by rw [List.getLast?_eq_getElem?, HMM.out, Nat.add_sub_cancel]; exact HU.out) HUA.out (by rw [HWL.out]; exact hw12) d1.1 d1.2.2.1 (by have := HDL.out; omega)
                  rw [d1.2.2.2, ← HKW.out] at hya
                  have HYA := Lib.hid hya
                  clear hya d1
                  obtain ⟨y, hy⟩ : ∃ y : Rl.Itm, y = { x with whn := x.whn ++ [[⟨[104, 101, 108, 100], 4, [], n, ya⟩]] } := ⟨_, rfl⟩
                  have HY := Lib.hid hy
                  rw [← hy] at HYA
                  clear hy
                  obtain ⟨kb, hkb⟩ : ∃ kb : ByteArray, kb = ⟨(32 :: (kw ++ [32])).toArray⟩ := ⟨_, rfl⟩
                  have HKZ : Hid (kb.size = kw.length + 2) := Lib.hid (by rw [hkb]; exact (size_of (32 :: (kw ++ [32]))).trans (by simp))
                  rw [← hkb]
                  have HKB := Lib.hid hkb
                  clear hkb
                  obtain ⟨db, hdb⟩ : ∃ db : ByteArray, db = ⟨(Lib.decDigits n).toArray⟩ := ⟨_, rfl⟩
                  have HDZ : Hid (db.size ≤ 5) := Lib.hid (by rw [hdb]; exact Nat.le_trans (Nat.le_of_eq (size_of (Lib.decDigits n))) HDL.out)
                  have HDG := digits_spec07 n
                  rw [← hdb] at HDG
                  have HDG := Lib.hid HDG
                  have HDB := Lib.hid hdb
                  clear hdb
                  have hwn : IntKind.i64.wrap (n : Int) = (n : Int) := IntWalk.i64_in _ (by omega)
                  have HCAT : Hid (sb.extract 0 p ++ kb ++ (⟨#[104, 101, 108, 100, 32, 60, 61, 32]⟩ : ByteArray) ++ db ++ (⟨#[59]⟩ : ByteArray) = ⟨(s.take (s.length - 1) ++ Rl.altText kw (Lib.decDigits n)).toArray⟩) := Lib.hid (by rw [cut_to HSB, HKB.out, HDB.out, HP.out]; exact alt_cat _ _ _)
                  have HAL : Hid ((s.take (s.length - 1) ++ Rl.altText kw (Lib.decDigits n)).length ≤ 100000) := Lib.hid (by
                    unfold Rl.altText
                    simp only [List.length_append, List.length_take, List.length_cons, List.length_nil]
                    have := HL.out
                    have := HKL.out
                    have := HDL.out
                    omega)
                  have r5 : p ≤ sb.size := by omega
                  have n5 : ¬ 9223372036854775807 < p + kb.size := by rw [HKZ.out]; have := HKL.out; have := HL.out; have := HP.out; omega
                  have n6 : ¬ 9223372036854775807 < p + kb.size + 8 := by rw [HKZ.out]; have := HKL.out; have := HL.out; have := HP.out; omega
                  have n7 : ¬ 9223372036854775807 < p + kb.size + 8 + db.size := by rw [HKZ.out]; have := HKL.out; have := HL.out; have := HP.out; have := HDZ.out; omega
                  have n8 : ¬ 9223372036854775807 < p + kb.size + 8 + db.size + 1 := by rw [HKZ.out]; have := HKL.out; have := HL.out; have := HP.out; have := HDZ.out; omega
                  go_upto_region 11 with fail
                  go_cut [13, 14] from 13 (fun v v2 wx => ∃ B1 co cp, v = .pointer (some ⟨B1, 0, none⟩) ∧ v2 = .int .i64 0 ∧ Blk wx B1 [.slice co 1 cp] 25 ∧ ListS w1.heap.size 42 9 (Ci w1.heap.size) [y] (.slice co 1 cp) wx ∧ Chg [] w3 wx)
                  case first =>
                    refine wp_region_held_drew (S := fun W' => Chg [] w3 W') (by kernel_rfl) (Chg.refl _ _).drew (fun hHeld => ?_)
                    refine wpAnyH_take (i := 0) (v := ?vt0) rfl (by kernel_rfl) (by kernel_rfl) (by kernel_rfl) (fun _ _ _ h => h) (Or.inl ⟨by kernel_rfl, ?hyt0⟩) (by assumption) ?rst0
                    case hyt0 => (intro w9 hSw; skip; go_simp; try with_reducible rfl)
                    try simp only [Act.put, List.setIfInBounds_toArray, List.set_cons_zero, List.set_cons_succ, List.getElem_toArray, List.getElem_cons_succ, List.getElem_cons_zero]
                    refine wpAnyH_take (i := 1) (v := ?vt1) rfl (by kernel_rfl) (by kernel_rfl) (by kernel_rfl) (fun _ _ _ h => h) (Or.inl ⟨by kernel_rfl, ?hyt1⟩) (by assumption) ?rst1
                    case hyt1 => (intro w9 hSw; skip; go_simp; try with_reducible rfl)
                    try simp only [Act.put, List.setIfInBounds_toArray, List.set_cons_zero, List.set_cons_succ, List.getElem_toArray, List.getElem_cons_succ, List.getElem_cons_zero]
                    refine wpAnyH_take (i := 2) (v := ?vt2) rfl (by kernel_rfl) (by kernel_rfl) (by kernel_rfl) (fun _ _ _ h => h) (Or.inl ⟨by kernel_rfl, ?hyt2⟩) (by assumption) ?rst2
                    case hyt2 => (intro w9 hSw; skip; go_simp; try with_reducible rfl)
                    try simp only [Act.put, List.setIfInBounds_toArray, List.set_cons_zero, List.set_cons_succ, List.getElem_toArray, List.getElem_cons_succ, List.getElem_cons_zero]
                    refine wpAnyH_take (i := 3) (v := ?vt3) rfl (by kernel_rfl) (by kernel_rfl) (by kernel_rfl) (fun _ _ _ h => h) (Or.inl ⟨by kernel_rfl, ?hyt3⟩) (by assumption) ?rst3
                    case hyt3 => (intro w9 hSw; skip; go_simp; try with_reducible rfl)
                    try simp only [Act.put, List.setIfInBounds_toArray, List.set_cons_zero, List.set_cons_succ, List.getElem_toArray, List.getElem_cons_succ, List.getElem_cons_zero]
                    refine wpAnyH_take (i := 4) (v := ?vt4) rfl (by kernel_rfl) (by kernel_rfl) (by kernel_rfl) (fun _ _ _ h => h) (Or.inl ⟨by kernel_rfl, ?hyt4⟩) (by assumption) ?rst4
                    case hyt4 => (intro w9 hSw; skip; go_simp; try with_reducible rfl)
                    try simp only [Act.put, List.setIfInBounds_toArray, List.set_cons_zero, List.set_cons_succ, List.getElem_toArray, List.getElem_cons_succ, List.getElem_cons_zero]
                    refine wpAnyH_take (i := 5) (v := ?vt5) rfl (by kernel_rfl) (by kernel_rfl) (by kernel_rfl) (fun _ _ _ h => h) (Or.inl ⟨by kernel_rfl, ?hyt5⟩) (by assumption) ?rst5
                    case hyt5 => (intro w9 hSw; skip; go_simp; try with_reducible rfl)
                    try simp only [Act.put, List.setIfInBounds_toArray, List.set_cons_zero, List.set_cons_succ, List.getElem_toArray, List.getElem_cons_succ, List.getElem_cons_zero]
                    refine wpAnyH_take (i := 6) (v := ?vt6) rfl (by kernel_rfl) (by kernel_rfl) (by kernel_rfl) (fun _ _ _ h => h) (Or.inl ⟨by kernel_rfl, ?hyt6⟩) (by assumption) ?rst6
                    case hyt6 => (intro w9 hSw; skip; go_simp; try with_reducible rfl)
                    try simp only [Act.put, List.setIfInBounds_toArray, List.set_cons_zero, List.set_cons_succ, List.getElem_toArray, List.getElem_cons_succ, List.getElem_cons_zero]
                    refine wpAnyH_take (i := 7) (v := ?vt7) rfl (by kernel_rfl) (by kernel_rfl) (by kernel_rfl) (fun _ _ _ h => h) (Or.inl ⟨by kernel_rfl, ?hyt7⟩) (by assumption) ?rst7
                    case hyt7 => (intro w9 hSw; skip; go_simp; try with_reducible rfl)
                    try simp only [Act.put, List.setIfInBounds_toArray, List.set_cons_zero, List.set_cons_succ, List.getElem_toArray, List.getElem_cons_succ, List.getElem_cons_zero]
                    refine wpAnyH_take (i := 8) (v := ?vt8) rfl (by kernel_rfl) (by kernel_rfl) (by kernel_rfl) (fun _ _ _ h => h) (Or.inl ⟨by kernel_rfl, ?hyt8⟩) (by assumption) ?rst8
                    case hyt8 => (intro w9 hSw; skip; go_simp; try with_reducible rfl)
                    try simp only [Act.put, List.setIfInBounds_toArray, List.set_cons_zero, List.set_cons_succ, List.getElem_toArray, List.getElem_cons_succ, List.getElem_cons_zero]
                    refine wpAnyH_take (i := 9) (v := ?vt9) rfl (by kernel_rfl) (by kernel_rfl) (by kernel_rfl) (fun _ _ _ h => h) (Or.inl ⟨by kernel_rfl, ?hyt9⟩) (by assumption) ?rst9
                    case hyt9 => (intro w9 hSw; skip; go_simp; try with_reducible rfl)
                    try simp only [Act.put, List.setIfInBounds_toArray, List.set_cons_zero, List.set_cons_succ, List.getElem_toArray, List.getElem_cons_succ, List.getElem_cons_zero]
                    obtain ⟨Z0, hZ0⟩ : ∃ Z, Z = w3.drew := ⟨_, rfl⟩
                    rw [← hZ0] at hHeld ⊢
                    have HSZ0 : Hid (w3.heap.size ≤ Z0.heap.size) := Lib.hid hHeld.size
                    clear hZ0
                    refine wpAnyH_ready (rs := [10, 18]) (by kernel_rfl) (by simp) (AllReadyH.cons rfl (fun K hK => ?_) (AllReadyH.cons rfl (fun K hK => ?_) AllReadyH.nil))
                    · go_simp
                      refine (HDG.out _ (by omega)).mono ?_
                      rintro e y9 ⟨rfl, rfl⟩
                      refine hK.out _ _ hHeld (fun hHeld => ?_)
                      clear hK K
                      try simp only [Act.put, List.setIfInBounds_toArray, List.set_cons_zero, List.set_cons_succ, List.getElem_toArray, List.getElem_cons_succ, List.getElem_cons_zero]
                      refine wpAnyH_take (i := 11) (v := ?vd1x11) rfl (by kernel_rfl) (by kernel_rfl) (by kernel_rfl) (fun _ _ _ h => h) (Or.inl ⟨by kernel_rfl, ?hyd1x11⟩) (by assumption) ?rsd1x11
                      case hyd1x11 => (intro w9 hSw; skip; go_simp; try with_reducible rfl)
                      try simp only [Act.put, List.setIfInBounds_toArray, List.set_cons_zero, List.set_cons_succ, List.getElem_toArray, List.getElem_cons_succ, List.getElem_cons_zero]
                      refine wpAnyH_take (i := 12) (v := ?vd1x12) rfl (by kernel_rfl) (by kernel_rfl) (by kernel_rfl) (fun _ _ _ h => h) (Or.inl ⟨by kernel_rfl, ?hyd1x12⟩) (by assumption) ?rsd1x12
                      case hyd1x12 => (intro w9 hSw; skip; go_simp; try with_reducible rfl)
                      try simp only [Act.put, List.setIfInBounds_toArray, List.set_cons_zero, List.set_cons_succ, List.getElem_toArray, List.getElem_cons_succ, List.getElem_cons_zero]
                      refine wpAnyH_ready (rs := [13, 18]) (by kernel_rfl) (by simp) (AllReadyH.cons rfl (fun K hK => ?_) (AllReadyH.cons rfl (fun K hK => ?_) AllReadyH.nil))
                      · go_simp
                        refine parse_r HAL.out HCAT (fun co j cp E2 A2 w9 HL9 HC9 HE9 => ?_)
                        rw [HYA.out] at HL9 HE9
                        obtain ⟨hj, hE, hA⟩ := HE9.out
                        simp only at hj hE hA
                        subst hj
                        subst hE
                        subst hA
                        have HGE9 : Hid (w1.heap.size ≤ (y9).heap.size) := Lib.hid (Nat.le_trans HGE1.out hHeld.size)
                        have HLY := Lib.hid (HL9.out.mono HGE9.out (mono_i HGE9.out))
                        replace HSZ0 : Hid (w3.heap.size ≤ w9.heap.size) := Lib.hid (Nat.le_trans HSZ0.out HC9.out.size)
                        refine hK.out _ _ (hHeld.trans HC9.out (by simp)) (fun hHeld => ?_)
                        clear hK K HL9 HE9 HC9 HGE9
                        try simp only [Act.put, List.setIfInBounds_toArray, List.set_cons_zero, List.set_cons_succ, List.getElem_toArray, List.getElem_cons_succ, List.getElem_cons_zero]
                        refine wpAnyH_take (i := 14) (v := ?vb2x14) rfl (by kernel_rfl) (by kernel_rfl) (by kernel_rfl) (fun _ _ _ h => h) (Or.inl ⟨by kernel_rfl, ?hyb2x14⟩) (by assumption) ?rsb2x14
                        case hyb2x14 => (intro w9 hSw; skip; go_simp; try with_reducible rfl)
                        try simp only [Act.put, List.setIfInBounds_toArray, List.set_cons_zero, List.set_cons_succ, List.getElem_toArray, List.getElem_cons_succ, List.getElem_cons_zero]
                        refine wpAnyH_take (i := 15) (v := ?vb2x15) rfl (by kernel_rfl) (by kernel_rfl) (by kernel_rfl) (fun _ _ _ h => h) (Or.inl ⟨by kernel_rfl, ?hyb2x15⟩) (by assumption) ?rsb2x15
                        case hyb2x15 => (intro w9 hSw; skip; go_simp; try with_reducible rfl)
                        try simp only [Act.put, List.setIfInBounds_toArray, List.set_cons_zero, List.set_cons_succ, List.getElem_toArray, List.getElem_cons_succ, List.getElem_cons_zero]
                        refine wpAnyH_take (i := 16) (v := ?vb2x16) rfl (by kernel_rfl) (by kernel_rfl) (by kernel_rfl) (fun _ _ _ h => h) (Or.inl ⟨by kernel_rfl, ?hyb2x16⟩) (by assumption) ?rsb2x16
                        case hyb2x16 => (intro w9 hSw; skip; go_simp; try with_reducible rfl)
                        try simp only [Act.put, List.setIfInBounds_toArray, List.set_cons_zero, List.set_cons_succ, List.getElem_toArray, List.getElem_cons_succ, List.getElem_cons_zero]
                        refine wpAnyH_take (i := 17) (v := ?vb2x17) rfl (by kernel_rfl) (by kernel_rfl) (by kernel_rfl) (fun _ _ _ h => h) (Or.inl ⟨by kernel_rfl, ?hyb2x17⟩) (by assumption) ?rsb2x17
                        case hyb2x17 => (intro w9 hSw; skip; go_simp; try with_reducible rfl)
                        try simp only [Act.put, List.setIfInBounds_toArray, List.set_cons_zero, List.set_cons_succ, List.getElem_toArray, List.getElem_cons_succ, List.getElem_cons_zero]
                        refine wpAnyH_ready (rs := [18]) (by kernel_rfl) (by simp) (AllReadyH.cons rfl (fun K hK => ?_) AllReadyH.nil)
                        go_simp
                        refine hK.out _ _ (hHeld.alloc _) (fun hHeld => ?_)
                        clear hK K
                        try simp only [Act.put, List.setIfInBounds_toArray, List.set_cons_zero, List.set_cons_succ, List.getElem_toArray, List.getElem_cons_succ, List.getElem_cons_zero]
                        obtain ⟨bk, hbk⟩ : ∃ b, b = (w9).heap.size := ⟨_, rfl⟩
                        obtain ⟨Z3, hZ3⟩ : ∃ Z, Z = (w9).alloc (.cells #[.slice none 0 0] 25) := ⟨_, rfl⟩
                        rw [← hZ3] at hHeld ⊢
                        rw [← hbk]
                        have HBK : Hid (Blk Z3 bk [.slice none 0 0] 25) := Lib.hid (by rw [hZ3, hbk]; exact Blk.new _ [.slice none 0 0] _)
                        replace HLY := Lib.hid (by have := HLY.out.keep (kp_i _) ((Chg.refl [] w9).alloc (.cells #[.slice none 0 0] 25)) (TyB.nil _ _ _); rw [← hZ3] at this; exact this)
                        have HGE : Hid (w3.heap.size ≤ bk) := Lib.hid (by rw [hbk]; exact HSZ0.out)
                        clear hbk hZ3
                        refine wpAnyH_ready (rs := [19]) (by kernel_rfl) (by simp) (AllReadyH.cons rfl (fun K hK => ?_) AllReadyH.nil)
                        have d := HBK.out.cell (i := 0) rfl
                        have f := HBK.out.free 0
                        go_simp
                        refine hK.out _ _ (hHeld.setCell ⟨bk, 0, none⟩ (.slice co 1 cp) (.inr HGE.out)) (fun hHeld => ?_)
                        clear hK K d f
                        try simp only [Act.put, List.setIfInBounds_toArray, List.set_cons_zero, List.set_cons_succ, List.getElem_toArray, List.getElem_cons_succ, List.getElem_cons_zero]
                        refine wpAnyH_take (i := 20) (v := ?vc4x20) rfl (by kernel_rfl) (by kernel_rfl) (by kernel_rfl) (fun _ _ _ h => h) (Or.inl ⟨by kernel_rfl, ?hyc4x20⟩) (by assumption) ?rsc4x20
                        case hyc4x20 => (intro w9 hSw; skip; go_simp; try with_reducible rfl)
                        try simp only [Act.put, List.setIfInBounds_toArray, List.set_cons_zero, List.set_cons_succ, List.getElem_toArray, List.getElem_cons_succ, List.getElem_cons_zero]
                        refine wpAnyH_take (i := 21) (v := ?vc4x21) rfl (by kernel_rfl) (by kernel_rfl) (by kernel_rfl) (fun _ _ _ h => h) (Or.inl ⟨by kernel_rfl, ?hyc4x21⟩) (by assumption) ?rsc4x21
                        case hyc4x21 => (intro w9 hSw; skip; go_simp; try with_reducible rfl)
                        try simp only [Act.put, List.setIfInBounds_toArray, List.set_cons_zero, List.set_cons_succ, List.getElem_toArray, List.getElem_cons_succ, List.getElem_cons_zero]
                        refine wpAnyH_done (by kernel_rfl) ?_ _
                        try simp only [Act.put, List.setIfInBounds_toArray, List.set_cons_zero, List.set_cons_succ, List.getElem_toArray, List.getElem_cons_succ, List.getElem_cons_zero]
                        go_wp2_with fail
                        go_meet
                        case rel =>
                          exact ⟨bk, co, cp, rfl, rfl, HBK.out.set 0 _, HLY.out.box HBK.out, hHeld⟩
                      · go_simp
                        refine hK.out _ _ (hHeld.alloc _) (fun hHeld => ?_)
                        clear hK K
                        try simp only [Act.put, List.setIfInBounds_toArray, List.set_cons_zero, List.set_cons_succ, List.getElem_toArray, List.getElem_cons_succ, List.getElem_cons_zero]
                        obtain ⟨bk, hbk⟩ : ∃ b, b = (y9).heap.size := ⟨_, rfl⟩
                        obtain ⟨Z2, hZ2⟩ : ∃ Z, Z = (y9).alloc (.cells #[.slice none 0 0] 25) := ⟨_, rfl⟩
                        rw [← hZ2] at hHeld ⊢
                        rw [← hbk]
                        have HBK : Hid (Blk Z2 bk [.slice none 0 0] 25) := Lib.hid (by rw [hZ2, hbk]; exact Blk.new _ [.slice none 0 0] _)
                        have HGE : Hid (w3.heap.size ≤ bk) := Lib.hid (by rw [hbk]; exact HSZ0.out)
                        clear hbk hZ2
                        refine wpAnyH_ready (rs := [13]) (by kernel_rfl) (by simp) (AllReadyH.cons rfl (fun K hK => ?_) AllReadyH.nil)
                        go_simp
                        refine parse_r HAL.out HCAT (fun co j cp E2 A2 w9 HL9 HC9 HE9 => ?_)
                        rw [HYA.out] at HL9 HE9
                        obtain ⟨hj, hE, hA⟩ := HE9.out
                        simp only at hj hE hA
                        subst hj
                        subst hE
                        subst hA
                        have HGE9 : Hid (w1.heap.size ≤ (Z2).heap.size) := Lib.hid (Nat.le_trans HGE1.out hHeld.size)
                        have HLY := Lib.hid (HL9.out.mono HGE9.out (mono_i HGE9.out))
                        replace HBK := Lib.hid (HC9.out.blk HBK.out (by simp))
                        refine hK.out _ _ (hHeld.trans HC9.out (by simp)) (fun hHeld => ?_)
                        clear hK K HL9 HE9 HC9 HGE9
                        try simp only [Act.put, List.setIfInBounds_toArray, List.set_cons_zero, List.set_cons_succ, List.getElem_toArray, List.getElem_cons_succ, List.getElem_cons_zero]
                        refine wpAnyH_take (i := 14) (v := ?vb5x14) rfl (by kernel_rfl) (by kernel_rfl) (by kernel_rfl) (fun _ _ _ h => h) (Or.inl ⟨by kernel_rfl, ?hyb5x14⟩) (by assumption) ?rsb5x14
                        case hyb5x14 => (intro w9 hSw; skip; go_simp; try with_reducible rfl)
                        try simp only [Act.put, List.setIfInBounds_toArray, List.set_cons_zero, List.set_cons_succ, List.getElem_toArray, List.getElem_cons_succ, List.getElem_cons_zero]
                        refine wpAnyH_take (i := 15) (v := ?vb5x15) rfl (by kernel_rfl) (by kernel_rfl) (by kernel_rfl) (fun _ _ _ h => h) (Or.inl ⟨by kernel_rfl, ?hyb5x15⟩) (by assumption) ?rsb5x15
                        case hyb5x15 => (intro w9 hSw; skip; go_simp; try with_reducible rfl)
                        try simp only [Act.put, List.setIfInBounds_toArray, List.set_cons_zero, List.set_cons_succ, List.getElem_toArray, List.getElem_cons_succ, List.getElem_cons_zero]
                        refine wpAnyH_take (i := 16) (v := ?vb5x16) rfl (by kernel_rfl) (by kernel_rfl) (by kernel_rfl) (fun _ _ _ h => h) (Or.inl ⟨by kernel_rfl, ?hyb5x16⟩) (by assumption) ?rsb5x16
                        case hyb5x16 => (intro w9 hSw; skip; go_simp; try with_reducible rfl)
                        try simp only [Act.put, List.setIfInBounds_toArray, List.set_cons_zero, List.set_cons_succ, List.getElem_toArray, List.getElem_cons_succ, List.getElem_cons_zero]
                        refine wpAnyH_take (i := 17) (v := ?vb5x17) rfl (by kernel_rfl) (by kernel_rfl) (by kernel_rfl) (fun _ _ _ h => h) (Or.inl ⟨by kernel_rfl, ?hyb5x17⟩) (by assumption) ?rsb5x17
                        case hyb5x17 => (intro w9 hSw; skip; go_simp; try with_reducible rfl)
                        try simp only [Act.put, List.setIfInBounds_toArray, List.set_cons_zero, List.set_cons_succ, List.getElem_toArray, List.getElem_cons_succ, List.getElem_cons_zero]
                        refine wpAnyH_ready (rs := [19]) (by kernel_rfl) (by simp) (AllReadyH.cons rfl (fun K hK => ?_) AllReadyH.nil)
                        have d := HBK.out.cell (i := 0) rfl
                        have f := HBK.out.free 0
                        go_simp
                        refine hK.out _ _ (hHeld.setCell ⟨bk, 0, none⟩ (.slice co 1 cp) (.inr HGE.out)) (fun hHeld => ?_)
                        clear hK K d f
                        try simp only [Act.put, List.setIfInBounds_toArray, List.set_cons_zero, List.set_cons_succ, List.getElem_toArray, List.getElem_cons_succ, List.getElem_cons_zero]
                        refine wpAnyH_take (i := 20) (v := ?vc6x20) rfl (by kernel_rfl) (by kernel_rfl) (by kernel_rfl) (fun _ _ _ h => h) (Or.inl ⟨by kernel_rfl, ?hyc6x20⟩) (by assumption) ?rsc6x20
                        case hyc6x20 => (intro w9 hSw; skip; go_simp; try with_reducible rfl)
                        try simp only [Act.put, List.setIfInBounds_toArray, List.set_cons_zero, List.set_cons_succ, List.getElem_toArray, List.getElem_cons_succ, List.getElem_cons_zero]
                        refine wpAnyH_take (i := 21) (v := ?vc6x21) rfl (by kernel_rfl) (by kernel_rfl) (by kernel_rfl) (fun _ _ _ h => h) (Or.inl ⟨by kernel_rfl, ?hyc6x21⟩) (by assumption) ?rsc6x21
                        case hyc6x21 => (intro w9 hSw; skip; go_simp; try with_reducible rfl)
                        try simp only [Act.put, List.setIfInBounds_toArray, List.set_cons_zero, List.set_cons_succ, List.getElem_toArray, List.getElem_cons_succ, List.getElem_cons_zero]
                        refine wpAnyH_done (by kernel_rfl) ?_ _
                        try simp only [Act.put, List.setIfInBounds_toArray, List.set_cons_zero, List.set_cons_succ, List.getElem_toArray, List.getElem_cons_succ, List.getElem_cons_zero]
                        go_wp2_with fail
                        go_meet
                        case rel =>
                          exact ⟨bk, co, cp, rfl, rfl, HBK.out.set 0 _, HLY.out.box HBK.out, hHeld⟩
                    · go_simp
                      refine hK.out _ _ (hHeld.alloc _) (fun hHeld => ?_)
                      clear hK K
                      try simp only [Act.put, List.setIfInBounds_toArray, List.set_cons_zero, List.set_cons_succ, List.getElem_toArray, List.getElem_cons_succ, List.getElem_cons_zero]
                      obtain ⟨bk, hbk⟩ : ∃ b, b = (Z0).heap.size := ⟨_, rfl⟩
                      obtain ⟨Z1, hZ1⟩ : ∃ Z, Z = (Z0).alloc (.cells #[.slice none 0 0] 25) := ⟨_, rfl⟩
                      rw [← hZ1] at hHeld ⊢
                      rw [← hbk]
                      have HBK : Hid (Blk Z1 bk [.slice none 0 0] 25) := Lib.hid (by rw [hZ1, hbk]; exact Blk.new _ [.slice none 0 0] _)
                      have HGE : Hid (w3.heap.size ≤ bk) := Lib.hid (by rw [hbk]; exact HSZ0.out)
                      clear hbk hZ1
                      refine wpAnyH_ready (rs := [10]) (by kernel_rfl) (by simp) (AllReadyH.cons rfl (fun K hK => ?_) AllReadyH.nil)
                      go_simp
                      refine (HDG.out _ (by omega)).mono ?_
                      rintro e y9 ⟨rfl, rfl⟩
                      refine hK.out _ _ hHeld (fun hHeld => ?_)
                      clear hK K
                      try simp only [Act.put, List.setIfInBounds_toArray, List.set_cons_zero, List.set_cons_succ, List.getElem_toArray, List.getElem_cons_succ, List.getElem_cons_zero]
                      refine wpAnyH_take (i := 11) (v := ?vd7x11) rfl (by kernel_rfl) (by kernel_rfl) (by kernel_rfl) (fun _ _ _ h => h) (Or.inl ⟨by kernel_rfl, ?hyd7x11⟩) (by assumption) ?rsd7x11
                      case hyd7x11 => (intro w9 hSw; skip; go_simp; try with_reducible rfl)
                      try simp only [Act.put, List.setIfInBounds_toArray, List.set_cons_zero, List.set_cons_succ, List.getElem_toArray, List.getElem_cons_succ, List.getElem_cons_zero]
                      refine wpAnyH_take (i := 12) (v := ?vd7x12) rfl (by kernel_rfl) (by kernel_rfl) (by kernel_rfl) (fun _ _ _ h => h) (Or.inl ⟨by kernel_rfl, ?hyd7x12⟩) (by assumption) ?rsd7x12
                      case hyd7x12 => (intro w9 hSw; skip; go_simp; try with_reducible rfl)
                      try simp only [Act.put, List.setIfInBounds_toArray, List.set_cons_zero, List.set_cons_succ, List.getElem_toArray, List.getElem_cons_succ, List.getElem_cons_zero]
                      refine wpAnyH_ready (rs := [13]) (by kernel_rfl) (by simp) (AllReadyH.cons rfl (fun K hK => ?_) AllReadyH.nil)
                      go_simp
                      refine parse_r HAL.out HCAT (fun co j cp E2 A2 w9 HL9 HC9 HE9 => ?_)
                      rw [HYA.out] at HL9 HE9
                      obtain ⟨hj, hE, hA⟩ := HE9.out
                      simp only at hj hE hA
                      subst hj
                      subst hE
                      subst hA
                      have HGE9 : Hid (w1.heap.size ≤ (y9).heap.size) := Lib.hid (Nat.le_trans HGE1.out hHeld.size)
                      have HLY := Lib.hid (HL9.out.mono HGE9.out (mono_i HGE9.out))
                      replace HBK := Lib.hid (HC9.out.blk HBK.out (by simp))
                      refine hK.out _ _ (hHeld.trans HC9.out (by simp)) (fun hHeld => ?_)
                      clear hK K HL9 HE9 HC9 HGE9
                      try simp only [Act.put, List.setIfInBounds_toArray, List.set_cons_zero, List.set_cons_succ, List.getElem_toArray, List.getElem_cons_succ, List.getElem_cons_zero]
                      refine wpAnyH_take (i := 14) (v := ?vb8x14) rfl (by kernel_rfl) (by kernel_rfl) (by kernel_rfl) (fun _ _ _ h => h) (Or.inl ⟨by kernel_rfl, ?hyb8x14⟩) (by assumption) ?rsb8x14
                      case hyb8x14 => (intro w9 hSw; skip; go_simp; try with_reducible rfl)
                      try simp only [Act.put, List.setIfInBounds_toArray, List.set_cons_zero, List.set_cons_succ, List.getElem_toArray, List.getElem_cons_succ, List.getElem_cons_zero]
                      refine wpAnyH_take (i := 15) (v := ?vb8x15) rfl (by kernel_rfl) (by kernel_rfl) (by kernel_rfl) (fun _ _ _ h => h) (Or.inl ⟨by kernel_rfl, ?hyb8x15⟩) (by assumption) ?rsb8x15
                      case hyb8x15 => (intro w9 hSw; skip; go_simp; try with_reducible rfl)
                      try simp only [Act.put, List.setIfInBounds_toArray, List.set_cons_zero, List.set_cons_succ, List.getElem_toArray, List.getElem_cons_succ, List.getElem_cons_zero]
                      refine wpAnyH_take (i := 16) (v := ?vb8x16) rfl (by kernel_rfl) (by kernel_rfl) (by kernel_rfl) (fun _ _ _ h => h) (Or.inl ⟨by kernel_rfl, ?hyb8x16⟩) (by assumption) ?rsb8x16
                      case hyb8x16 => (intro w9 hSw; skip; go_simp; try with_reducible rfl)
                      try simp only [Act.put, List.setIfInBounds_toArray, List.set_cons_zero, List.set_cons_succ, List.getElem_toArray, List.getElem_cons_succ, List.getElem_cons_zero]
                      refine wpAnyH_take (i := 17) (v := ?vb8x17) rfl (by kernel_rfl) (by kernel_rfl) (by kernel_rfl) (fun _ _ _ h => h) (Or.inl ⟨by kernel_rfl, ?hyb8x17⟩) (by assumption) ?rsb8x17
                      case hyb8x17 => (intro w9 hSw; skip; go_simp; try with_reducible rfl)
                      try simp only [Act.put, List.setIfInBounds_toArray, List.set_cons_zero, List.set_cons_succ, List.getElem_toArray, List.getElem_cons_succ, List.getElem_cons_zero]
                      refine wpAnyH_ready (rs := [19]) (by kernel_rfl) (by simp) (AllReadyH.cons rfl (fun K hK => ?_) AllReadyH.nil)
                      have d := HBK.out.cell (i := 0) rfl
                      have f := HBK.out.free 0
                      go_simp
                      refine hK.out _ _ (hHeld.setCell ⟨bk, 0, none⟩ (.slice co 1 cp) (.inr HGE.out)) (fun hHeld => ?_)
                      clear hK K d f
                      try simp only [Act.put, List.setIfInBounds_toArray, List.set_cons_zero, List.set_cons_succ, List.getElem_toArray, List.getElem_cons_succ, List.getElem_cons_zero]
                      refine wpAnyH_take (i := 20) (v := ?vc9x20) rfl (by kernel_rfl) (by kernel_rfl) (by kernel_rfl) (fun _ _ _ h => h) (Or.inl ⟨by kernel_rfl, ?hyc9x20⟩) (by assumption) ?rsc9x20
                      case hyc9x20 => (intro w9 hSw; skip; go_simp; try with_reducible rfl)
                      try simp only [Act.put, List.setIfInBounds_toArray, List.set_cons_zero, List.set_cons_succ, List.getElem_toArray, List.getElem_cons_succ, List.getElem_cons_zero]
                      refine wpAnyH_take (i := 21) (v := ?vc9x21) rfl (by kernel_rfl) (by kernel_rfl) (by kernel_rfl) (fun _ _ _ h => h) (Or.inl ⟨by kernel_rfl, ?hyc9x21⟩) (by assumption) ?rsc9x21
                      case hyc9x21 => (intro w9 hSw; skip; go_simp; try with_reducible rfl)
                      try simp only [Act.put, List.setIfInBounds_toArray, List.set_cons_zero, List.set_cons_succ, List.getElem_toArray, List.getElem_cons_succ, List.getElem_cons_zero]
                      refine wpAnyH_done (by kernel_rfl) ?_ _
                      try simp only [Act.put, List.setIfInBounds_toArray, List.set_cons_zero, List.set_cons_succ, List.getElem_toArray, List.getElem_cons_succ, List.getElem_cons_zero]
                      go_wp2_with fail
                      go_meet
                      case rel =>
                        exact ⟨bk, co, cp, rfl, rfl, HBK.out.set 0 _, HLY.out.box HBK.out, hHeld⟩
                  case rest =>
                    obtain ⟨B1, co, cp, rfl, rfl, hb1, hly, hcx⟩ := hcut
                    have HB1 := Lib.hid hb1
                    have HLY := Lib.hid hly
                    have HCX := Lib.hid hcx
                    have HBO : Hid (Blk wc B0 [.slice (some ⟨g, 0, none⟩) 1 bp] 25) := Lib.hid (hcx.blk HB.out (by simp))
                    have e1 := HB1.out.cell (i := 0) rfl
                    have e2 := HBO.out.cell (i := 0) rfl
                    clear hb1 hly hcx
                    have HHC : Hid (Chg [] w wc) := Lib.hid (HC13.out.trans HCX.out (by simp))
                    have HGC : Hid (w1.heap.size ≤ wc.heap.size) := Lib.hid (Nat.le_trans HGE1.out HCX.out.size)
                    obtain ⟨a0, a1, a2, a3, a4, a5, a6, a7, a8⟩ := A.out
                    have p0 := cell_quiet HCX.out a0 (by simp)
                    have p1 := cell_quiet HCX.out a1 (by simp)
                    have p2 := cell_quiet HCX.out a2 (by simp)
                    have p3 := cell_quiet HCX.out a3 (by simp)
                    have p4 := cell_quiet HCX.out a4 (by simp)
                    have p5 := cell_quiet HCX.out a5 (by simp)
                    have p6 := cell_quiet HCX.out a6 (by simp)
                    have p7 := cell_quiet HCX.out a7 (by simp)
                    have p8 := cell_quiet HCX.out a8 (by simp)
                    clear a0 a1 a2 a3 a4 a5 a6 a7 a8
                    go_upto_region 14 with fail
                    clear e1
                    go_upto_region 15 with fail
                    obtain ⟨W1, hW1⟩ : ∃ W, W = wc.alloc (.cells #[.int .i64 (x.kind : Nat), .string ⟨x.name.toArray⟩, .slice uo wl uc, .int .i64 (x.n : Nat), .int .i64 (x.r.1 : Nat), .int .i64 (x.r.2 : Nat), .int .i64 (x.s.1 : Nat), .int .i64 (x.s.2 : Nat), .int .i64 (x.at_ : Nat)] 42) := ⟨_, rfl⟩
                    rw [← hW1]
                    obtain ⟨X, hX⟩ : ∃ X, X = wc.heap.size := ⟨_, rfl⟩
                    rw [← hX]
                    have HBX : Hid (Blk W1 X [.int .i64 (x.kind : Nat), .string ⟨x.name.toArray⟩, .slice uo wl uc, .int .i64 (x.n : Nat), .int .i64 (x.r.1 : Nat), .int .i64 (x.r.2 : Nat), .int .i64 (x.s.1 : Nat), .int .i64 (x.s.2 : Nat), .int .i64 (x.at_ : Nat)] 42) := Lib.hid (by rw [hW1, hX]; exact Blk.new wc [.int .i64 (x.kind : Nat), .string ⟨x.name.toArray⟩, .slice uo wl uc, .int .i64 (x.n : Nat), .int .i64 (x.r.1 : Nat), .int .i64 (x.r.2 : Nat), .int .i64 (x.s.1 : Nat), .int .i64 (x.s.2 : Nat), .int .i64 (x.at_ : Nat)] 42)
                    have HW1 : Hid (Chg [] wc W1) := Lib.hid (by rw [hW1]; exact (Chg.refl _ _).alloc _)
                    have HLX : Hid (ListS w1.heap.size 46 1 (Cr w1.heap.size) x.whn (.slice uo wl uc) wc) := Lib.hid (HF3.out.keep (kp_r _) HCX.out (TyB.nil _ _ _))
                    have HXG : Hid (wc.heap.size ≤ X) := Lib.hid (by rw [hX]; exact Nat.le_refl _)
                    clear hW1 hX p0 p1 p2 p3 p4 p5 p6 p7 p8 e2
                    obtain ⟨i0, hi, hz0, hz1, hz2⟩ := info_parts info_sevr
                    obtain ⟨css, hels, hflat, hrow⟩ := HLX.out.rowv
                    rw [HWL.out] at hrow hflat
                    have HELS := Lib.hid hels
                    have HFLAT := Lib.hid hflat
                    have HROW := Lib.hid hrow
                    clear hels hflat hrow
                    have d2 := HBX.out.cell (i := 2) rfl
                    have dd := fun o : Obj => (HBX.out.alloc o).cell (i := 2) rfl
                    go_wp2_with (at_builtin; refine wpList_append_any rfl (.tmp 120) (.tmp 122) 38 rfl wc.heap.size 46 i0 (.slice none 0 0) 1 24 Tryd.underlying38 hi hz0 hz1 hz2 rfl (by decide) (.slice (some ⟨W1.heap.size, 0, none⟩) 0 0) 0 [] rfl (World.ownsRow_made W1 #[] 0 HW1.out.size (by decide) rfl) wl css.flatten (.slice uo wl uc) rfl (HROW.out _ (HW1.out.alloc _)) (by rw [HFLAT.out]) (HELS.out.ones fun _ _ _ => cr_one) (by unfold maxLen; omega) (by omega) (HW1.out.alloc _).size ?kk)
                    case kk =>
                      intro v4 W4 hown hgrow
                      have HO4 := Lib.hid hown
                      have HC4 : Hid (Chg [] wc W4) := Lib.hid ((HW1.out.alloc _).grown hgrow (fun q hq => .inr (by simp only [Value.ownBlock, Option.some.injEq] at hq; subst hq; exact HW1.out.size)))
                      have HX4 : Hid (Blk W4 X [.int .i64 (x.kind : Nat), .string ⟨x.name.toArray⟩, .slice uo wl uc, .int .i64 (x.n : Nat), .int .i64 (x.r.1 : Nat), .int .i64 (x.r.2 : Nat), .int .i64 (x.s.1 : Nat), .int .i64 (x.s.2 : Nat), .int .i64 (x.at_ : Nat)] 42) := Lib.hid (by
                        refine grown_blk (HBX.out.alloc _) hgrow (World.ownsRow_made W1 #[] 0 (base := 0) (e := 46) (size := 1) (Nat.zero_le _) (by decide) rfl) (by decide))
                      obtain ⟨vo4, vc4, rfl⟩ := owns_form hown
                      clear hown hgrow dd d2
                      go_wp2_with (at_builtin; refine wpList_append_any rfl (.tmp 123) (.tmp 128) 38 rfl wc.heap.size 46 i0 (.slice none 0 0) 1 24 Tryd.underlying38 hi hz0 hz1 hz2 rfl (by decide) (.slice vo4 wl vc4) wl css.flatten rfl (row_alloc (row_alloc HO4.out _) _) 1 [.slice (some ⟨W4.heap.size, 0, none⟩) 1 1] (.slice (some ⟨W4.heap.size + 1, 0, none⟩) 1 1) rfl (Or.inr ⟨⟨W4.heap.size + 1, 0, none⟩, 1, rfl, ?hr1⟩) rfl ?hr2 (by unfold maxLen; omega) (by omega) ((HC4.out.alloc _).alloc _).size ?kk)
                      case hr1 =>
                        intro j u hj
                        rw [addr_add, Nat.zero_add]
                        have hb := Blk.new (W4.alloc (.cells #[.string ⟨#[104, 101, 108, 100]⟩, .int .i64 4, .string ⟨#[]⟩, .int .i64 (n : Nat), .int .i64 0] 48)) [.slice (some ⟨W4.heap.size, 0, none⟩) 1 1] 46
                        have hs : (W4.alloc (.cells #[.string ⟨#[104, 101, 108, 100]⟩, .int .i64 4, .string ⟨#[]⟩, .int .i64 (n : Nat), .int .i64 0] 48)).heap.size = W4.heap.size + 1 := by simp
                        rw [hs] at hb
                        exact hb.cell hj
                      case hr2 =>
                        intro u hu
                        simp only [List.mem_cons, List.not_mem_nil, or_false] at hu
                        subst hu
                        rfl
                      case kk =>
                        intro v5 W5 hown hgrow
                        have HO5 := Lib.hid hown
                        have hr4 := (row_alloc (row_alloc HO4.out (.cells #[.string ⟨#[104, 101, 108, 100]⟩, .int .i64 4, .string ⟨#[]⟩, .int .i64 (n : Nat), .int .i64 0] 48)) (.cells #[.slice (some ⟨W4.heap.size, 0, none⟩) 1 1] 46))
                        have HC5 : Hid (Chg [] wc W5) := Lib.hid (((HC4.out.alloc _).alloc _).grown hgrow (fun q hq => .inr (own_ge hr4 q hq)))
                        have HX5 : Hid (Blk W5 X [.int .i64 (x.kind : Nat), .string ⟨x.name.toArray⟩, .slice uo wl uc, .int .i64 (x.n : Nat), .int .i64 (x.r.1 : Nat), .int .i64 (x.r.2 : Nat), .int .i64 (x.s.1 : Nat), .int .i64 (x.s.2 : Nat), .int .i64 (x.at_ : Nat)] 42) := Lib.hid (grown_blk ((HX4.out.alloc _).alloc _) hgrow hr4 (by decide))
                        have HT5 : Hid (Blk W5 W4.heap.size [.string ⟨#[104, 101, 108, 100]⟩, .int .i64 4, .string ⟨#[]⟩, .int .i64 (n : Nat), .int .i64 0] 48) := Lib.hid (grown_blk ((Blk.new W4 [.string ⟨#[104, 101, 108, 100]⟩, .int .i64 4, .string ⟨#[]⟩, .int .i64 (n : Nat), .int .i64 0] 48).alloc _) hgrow hr4 (by decide))
                        obtain ⟨vo5, vc5, rfl⟩ := owns_form hown
                        obtain ⟨TB, hTB⟩ : ∃ T, T = W4.heap.size := ⟨_, rfl⟩
                        rw [← hTB] at HO5 HT5
                        have HTG : Hid (w1.heap.size ≤ TB) := Lib.hid (by rw [hTB]; exact Nat.le_trans HGC.out HC4.out.size)
                        clear hown hgrow hr4
                        have d2 := HX5.out.cell (i := 2) rfl
                        have f2 := HX5.out.free 2
                        go_upto_region 16 with fail
                        obtain ⟨W6, hW6⟩ : ∃ W, W = W5.setCell ⟨X, 2, none⟩ (.slice vo5 (wl + 1) vc5) := ⟨_, rfl⟩
                        rw [← hW6]
                        have HX6 : Hid (Blk W6 X [.int .i64 (x.kind : Nat), .string ⟨x.name.toArray⟩, .slice vo5 (wl + 1) vc5, .int .i64 (x.n : Nat), .int .i64 (x.r.1 : Nat), .int .i64 (x.r.2 : Nat), .int .i64 (x.s.1 : Nat), .int .i64 (x.s.2 : Nat), .int .i64 (x.at_ : Nat)] 42) := Lib.hid (by rw [hW6]; exact HX5.out.set 2 _)
                        have HC6 : Hid (Chg [] wc W6) := Lib.hid (by rw [hW6]; exact HC5.out.setCell _ _ (.inr HXG.out))
                        have HT6 : Hid (Blk W6 TB [.string ⟨#[104, 101, 108, 100]⟩, .int .i64 4, .string ⟨#[]⟩, .int .i64 (n : Nat), .int .i64 0] 48) := Lib.hid (by
                          rw [hW6]
                          refine HT5.out.other _ _ (fun e => ?_)
                          simp only at e
                          have h1 := HX5.out
                          rw [← e] at h1
                          have h2 := h1.same HT5.out
                          cases h2)
                        have HO6 : Hid (W6.ownsRow wc.heap.size 46 1 (.slice vo5 (wl + 1) vc5) (wl + 1) (css.flatten ++ [.slice (some ⟨TB, 0, none⟩) 1 1])) := Lib.hid (by rw [hW6]; exact row_store_at HO5.out HX5.out (by decide) 2)
                        have HL6 : Hid (ListS w1.heap.size 46 1 (Cr w1.heap.size) (x.whn ++ [[⟨[104, 101, 108, 100], 4, [], n, 0⟩]]) (.slice vo5 (wl + 1) vc5) W6) := Lib.hid (by
                          refine ListS.of_row (css := css ++ [[.slice (some ⟨TB, 0, none⟩) 1 1]]) ((HELS.out.chg (kp_r _) HC6.out).append ⟨rfl, fun i a cs ha hcs => ?_⟩) (by rw [List.flatten_append]; exact HO6.out) (by rw [List.length_append, HWL.out]; rfl) HGC.out
                          cases i with
                          | succ i => simp at ha
                          | zero =>
                            simp only [List.getElem?_cons_zero, Option.some.injEq] at ha hcs
                            subst ha
                            subst hcs
                            exact ⟨rfl, _, rfl, one_row (l := [⟨[104, 101, 108, 100], 4, [], n, 0⟩]) HT6.out HTG.out (by simp)⟩)
                        clear hW6 d2 f2 hTB HX4 HX5 HT5 HO5 HO4 HO6 HT6 HC4 HC5
                        have HB6 : Hid (Blk W6 B1 [.slice co 1 cp] 25) := Lib.hid (HC6.out.blk HB1.out (by simp))
                        have HLY6 := Lib.hid (HLY.out.keep (kp_i _) HC6.out (TyB.nil _ _ _))
                        obtain ⟨gy, yo, yc, hco, hcy, huy, j0, j1, j2, j3, j4, j5, j6, j7, j8⟩ := itm_first HLY6.out
                        subst hco
                        have HUY := Lib.hid huy
                        have HJ := Lib.hid (⟨j0, j1, j2, j3, j4, j5, j6, j7, j8⟩ : _ ∧ _ ∧ _ ∧ _ ∧ _ ∧ _ ∧ _ ∧ _ ∧ _)
                        obtain ⟨x2, hx2⟩ : ∃ x2 : Rl.Itm, x2 = { x with whn := x.whn ++ [[⟨[104, 101, 108, 100], 4, [], n, 0⟩]] } := ⟨_, rfl⟩
                        have HS2 : Hid (SimI false y x2) := Lib.hid (simI_of_ren (f := fun _ => 0) (g := fun _ => 0) (by rw [HY.out, hx2]; simp [Rl.renI, Rl.renS]))
                        have HE2 : Hid (x2.kind = x.kind ∧ x2.name = x.name ∧ x2.n = x.n ∧ x2.r = x.r ∧ x2.s = x.s ∧ x2.at_ = x.at_) := Lib.hid (by rw [hx2]; exact ⟨rfl, rfl, rfl, rfl, rfl, rfl⟩)
                        have HL2 : Hid (ListS w1.heap.size 46 1 (Cr w1.heap.size) x2.whn (.slice vo5 (wl + 1) vc5) W6) := Lib.hid (by rw [hx2]; exact HL6.out)
                        have HCW6 : Hid (Chg [] w W6) := Lib.hid (HHC.out.trans HC6.out (by simp))
                        clear hx2 huy j0 j1 j2 j3 j4 j5 j6 j7 j8 HL6 HLY6
                        have hE2 := HE2.out
                        have HX7 := HX6.out
                        rw [← hE2.1, ← hE2.2.1, ← hE2.2.2.1, ← hE2.2.2.2.1, ← hE2.2.2.2.2.1, ← hE2.2.2.2.2.2] at HX7
                        have HX7 := Lib.hid HX7
                        clear hE2
                        refine wp_region_held_drew (S := fun W' => Chg [] W6 W') (by kernel_rfl) (Chg.refl _ _).drew (fun hHeld => ?_)
                        refine wpAnyH_take (i := 0) (v := ?vz0) rfl (by kernel_rfl) (by kernel_rfl) (by kernel_rfl) (fun _ _ _ h => h) (Or.inl ⟨by kernel_rfl, ?hyz0⟩) (by assumption) ?rsz0
                        case hyz0 => (intro w9 hSw; skip; go_simp; try with_reducible rfl)
                        try simp only [Act.put, List.setIfInBounds_toArray, List.set_cons_zero, List.set_cons_succ, List.getElem_toArray, List.getElem_cons_succ, List.getElem_cons_zero]
                        refine wpAnyH_take (i := 1) (v := ?vz1) rfl (by kernel_rfl) (by kernel_rfl) (by kernel_rfl) (fun _ _ _ h => h) (Or.inl ⟨by kernel_rfl, ?hyz1⟩) (by assumption) ?rsz1
                        case hyz1 => (intro w9 hSw; skip; go_simp; try with_reducible rfl)
                        try simp only [Act.put, List.setIfInBounds_toArray, List.set_cons_zero, List.set_cons_succ, List.getElem_toArray, List.getElem_cons_succ, List.getElem_cons_zero]
                        refine wpAnyH_take (i := 2) (v := ?vz2) rfl (by kernel_rfl) (by kernel_rfl) (by kernel_rfl) (fun _ _ _ h => h) (Or.inl ⟨by kernel_rfl, ?hyz2⟩) (by assumption) ?rsz2
                        case hyz2 => (intro w9 hSw; skip; go_simp; try with_reducible rfl)
                        try simp only [Act.put, List.setIfInBounds_toArray, List.set_cons_zero, List.set_cons_succ, List.getElem_toArray, List.getElem_cons_succ, List.getElem_cons_zero]
                        refine wpAnyH_take (i := 3) (v := ?vz3) rfl (by kernel_rfl) (by kernel_rfl) (by kernel_rfl) (fun _ _ _ h => h) (Or.inl ⟨by kernel_rfl, ?hyz3⟩) (by assumption) ?rsz3
                        case hyz3 => (intro w9 hSw; have d := cell_quiet hSw (HB6.out.cell (i := 0) rfl) (by simp); go_simp; try with_reducible rfl)
                        try simp only [Act.put, List.setIfInBounds_toArray, List.set_cons_zero, List.set_cons_succ, List.getElem_toArray, List.getElem_cons_succ, List.getElem_cons_zero]
                        refine wpAnyH_take (i := 4) (v := ?vz4) rfl (by kernel_rfl) (by kernel_rfl) (by kernel_rfl) (fun _ _ _ h => h) (Or.inl ⟨by kernel_rfl, ?hyz4⟩) (by assumption) ?rsz4
                        case hyz4 => (intro w9 hSw; skip; go_simp; try with_reducible rfl)
                        try simp only [Act.put, List.setIfInBounds_toArray, List.set_cons_zero, List.set_cons_succ, List.getElem_toArray, List.getElem_cons_succ, List.getElem_cons_zero]
                        refine wpAnyH_take (i := 5) (v := ?vz5) rfl (by kernel_rfl) (by kernel_rfl) (by kernel_rfl) (fun _ _ _ h => h) (Or.inl ⟨by kernel_rfl, ?hyz5⟩) (by assumption) ?rsz5
                        case hyz5 => (intro w9 hSw; obtain ⟨k0, k1, k2, k3, k4, k5, k6, k7, k8⟩ := HJ.out; have l0 := cell_quiet hSw k0 (by simp); have l1 := cell_quiet hSw k1 (by simp); have l2 := cell_quiet hSw k2 (by simp); have l3 := cell_quiet hSw k3 (by simp); have l4 := cell_quiet hSw k4 (by simp); have l5 := cell_quiet hSw k5 (by simp); have l6 := cell_quiet hSw k6 (by simp); have l7 := cell_quiet hSw k7 (by simp); have l8 := cell_quiet hSw k8 (by simp); go_simp; try with_reducible rfl)
                        try simp only [Act.put, List.setIfInBounds_toArray, List.set_cons_zero, List.set_cons_succ, List.getElem_toArray, List.getElem_cons_succ, List.getElem_cons_zero]
                        refine wpAnyH_take (i := 6) (v := ?vz6) rfl (by kernel_rfl) (by kernel_rfl) (by kernel_rfl) (fun _ _ _ h => h) (Or.inl ⟨by kernel_rfl, ?hyz6⟩) (by assumption) ?rsz6
                        case hyz6 => (intro w9 hSw; have l0 := cell_quiet hSw (HX7.out.cell (i := 0) rfl) (by simp); have l1 := cell_quiet hSw (HX7.out.cell (i := 1) rfl) (by simp); have l2 := cell_quiet hSw (HX7.out.cell (i := 2) rfl) (by simp); have l3 := cell_quiet hSw (HX7.out.cell (i := 3) rfl) (by simp); have l4 := cell_quiet hSw (HX7.out.cell (i := 4) rfl) (by simp); have l5 := cell_quiet hSw (HX7.out.cell (i := 5) rfl) (by simp); have l6 := cell_quiet hSw (HX7.out.cell (i := 6) rfl) (by simp); have l7 := cell_quiet hSw (HX7.out.cell (i := 7) rfl) (by simp); have l8 := cell_quiet hSw (HX7.out.cell (i := 8) rfl) (by simp); go_simp; try with_reducible rfl)
                        try simp only [Act.put, List.setIfInBounds_toArray, List.set_cons_zero, List.set_cons_succ, List.getElem_toArray, List.getElem_cons_succ, List.getElem_cons_zero]
                        refine wpAnyH_ready (rs := [7]) (by kernel_rfl) (by simp) (AllReadyH.cons rfl (fun K hK => ?_) AllReadyH.nil)
                        go_simp
                        refine (sameitem_spec _ y x2 false HS2 _ _ yo vo5 _ (wl + 1) yc vc5 (Lib.hid (HUY.out.keep (kp_r _) hHeld (TyB.nil _ _ _))) (Lib.hid (HL2.out.keep (kp_r _) hHeld (TyB.nil _ _ _)))).mono ?_
                        rintro e9 w9 ⟨rfl, hcx⟩
                        refine hK.out _ _ (hHeld.trans hcx (by simp)) (fun hHeld => ?_)
                        clear hK K
                        try simp only [Act.put, List.setIfInBounds_toArray, List.set_cons_zero, List.set_cons_succ, List.getElem_toArray, List.getElem_cons_succ, List.getElem_cons_zero]
                        refine wpAnyH_take (i := 8) (v := ?vz8) rfl (by kernel_rfl) (by kernel_rfl) (by kernel_rfl) (fun _ _ _ h => h) (Or.inl ⟨by kernel_rfl, ?hyz8⟩) (by assumption) ?rsz8
                        case hyz8 => (intro w9 hSw; skip; go_simp; try with_reducible rfl)
                        try simp only [Act.put, List.setIfInBounds_toArray, List.set_cons_zero, List.set_cons_succ, List.getElem_toArray, List.getElem_cons_succ, List.getElem_cons_zero]
                        refine wpAnyH_take (i := 9) (v := ?vz9) rfl (by kernel_rfl) (by kernel_rfl) (by kernel_rfl) (fun _ _ _ h => h) (Or.inl ⟨by kernel_rfl, ?hyz9⟩) (by assumption) ?rsz9
                        case hyz9 => (intro w9 hSw; skip; go_simp; try with_reducible rfl)
                        try simp only [Act.put, List.setIfInBounds_toArray, List.set_cons_zero, List.set_cons_succ, List.getElem_toArray, List.getElem_cons_succ, List.getElem_cons_zero]
                        refine wpAnyH_done (by kernel_rfl) ?_ _
                        try simp only [Act.put, List.setIfInBounds_toArray, List.set_cons_zero, List.set_cons_succ, List.getElem_toArray, List.getElem_cons_succ, List.getElem_cons_zero]
                        have HH := Lib.hid hHeld
                        go_wp2_with fail
                        go_ret
                        exact ⟨rfl, HCW6.out.trans HH.out (by simp)⟩
              · have r4 : (12 : Int) ≤ (wl : Int) := by omega
                go_wp2_with fail
                go_ret
                exact ⟨rfl, HC13.out⟩
            · have r3 : ((ua : Int) != (p : Int)) = true := bne_iff_ne.2 (by omega)
              go_wp2_with fail
              go_ret
              exact ⟨rfl, HC13.out⟩
        · have n2 : ((k : Int) != 1) = true := bne_iff_ne.2 (by omega)
          go_wp2_with fail
          go_ret
          exact ⟨rfl, HC13.out⟩
      · have n1 : ((E1 : Int) != 0) = true := bne_iff_ne.2 (by omega)
        clear e1
        go_wp2_with fail
        go_ret
        exact ⟨rfl, HC13.out⟩
    · have q5 : ((sb[p].toNat : Int) != 59) = true := bne_iff_ne.2 (fun h => hb (UInt8.toNat_inj.1 (by have h2 : (59 : UInt8).toNat = 59 := rfl; omega)))
      clear hb
      go_wp2_with fail
      go_ret
      exact ⟨rfl, HC1.out⟩
  · have q1 : (4000 : Int) < (sb.size : Int) := by rw [HSZ.out]; omega
    go_wp2_with fail
    go_ret
    exact ⟨rfl, HC1.out⟩
end Go.Proofs.YtmfjebpefneboaaDoor
