/-
  Layer 4: the walk of TreeComplete.
-/
import Derived.Test.YtpeehlflhnhhjaaDoorTrM
import Derived.Deep.RegionHeld3
namespace Go.Proofs.YtpeehlflhnhhjaaDoor
set_option linter.unusedVariables false
set_option linter.unusedSimpArgs false
open Go Go.RowKit Go.Shelf

theorem short_len {l : List Bytes} {n : Nat} (h : Tr.short l n = true) : l.length ≤ n := (Tr.short_iff.1 h).1
theorem short_all {l : List Bytes} {n : Nat} (h : Tr.short l n = true) : ∀ x ∈ l, x.length ≤ 1000000 := fun x hx => Nat.le_trans ((Tr.short_iff.1 h).2 x hx) (by decide)
theorem short_yes (w : World) (v : Value) (l : List Bytes) (HV : Hid (Strs w v l)) (HS : Hid (Small l)) (N : Nat) (hN : N ≤ 1000) (H : Hid (Tr.short l N = true)) :
    Calls Tryd.prog 10 #[v, .int .i64 (N : Int)] w fun e w' => e = .returned (.bool true) ∧ w = w' := by
  have h := short_spec w v l HV HS N hN
  rwa [H.out] at h
theorem short_no (w : World) (v : Value) (l : List Bytes) (HV : Hid (Strs w v l)) (HS : Hid (Small l)) (N : Nat) (hN : N ≤ 1000) (H : Hid (Tr.short l N = false)) :
    Calls Tryd.prog 10 #[v, .int .i64 (N : Int)] w fun e w' => e = .returned (.bool false) ∧ w = w' := by
  have h := short_spec w v l HV HS N hN
  rwa [H.out] at h
theorem check_in_true (w : World) (HL : Hid (Laid w)) (root t : Bytes) (N I : Nat) (path : List Bytes) (v : Value) (HV : Hid (Strs w v path)) (ht : t.length ≤ 1000000) (hp : path.length ≤ 1000000) (HB : Hid (∀ x ∈ path, x.length ≤ 1000000))
    (hN : N ≤ 9223372036854775807) (hIN : I < N) (H : Hid (Tr.check root N I t path = true)) :
    Calls Tryd.prog 16 #[.string ⟨root.toArray⟩, .int .i64 (N : Int), .int .i64 (I : Int), .string ⟨t.toArray⟩, v] w fun e w' => e = .returned (.bool true) ∧ Chg [] w w' := by
  have h := check_in w HL root t N I path v HV ht hp HB hN hIN
  rwa [H.out] at h
theorem check_in_false (w : World) (HL : Hid (Laid w)) (root t : Bytes) (N I : Nat) (path : List Bytes) (v : Value) (HV : Hid (Strs w v path)) (ht : t.length ≤ 1000000) (hp : path.length ≤ 1000000) (HB : Hid (∀ x ∈ path, x.length ≤ 1000000))
    (hN : N ≤ 9223372036854775807) (hIN : I < N) (H : Hid (Tr.check root N I t path = false)) :
    Calls Tryd.prog 16 #[.string ⟨root.toArray⟩, .int .i64 (N : Int), .int .i64 (I : Int), .string ⟨t.toArray⟩, v] w fun e w' => e = .returned (.bool false) ∧ Chg [] w w' := by
  have h := check_in w HL root t N I path v HV ht hp HB hN hIN
  rwa [H.out] at h
theorem pathL_small : ∀ (ls : List (List Bytes)) (i : Nat), (∀ l ∈ ls, ∀ x ∈ l, x.length ≤ 1000000) → ∀ x ∈ Tr.pathL ls i, x.length ≤ 1000000
  | [], i, h, x, hx => by simp [Tr.pathL] at hx
  | l :: ls, i, h, x, hx => by
    rw [Tr.pathL] at hx
    rcases List.mem_append.1 hx with hx | hx
    · split at hx
      · rename_i hs
        simp at hx
        rw [List.getElem?_eq_getElem hs] at hx
        simp at hx
        rw [hx]
        exact h l (by simp) _ (List.getElem_mem _)
      · simp at hx
    · exact pathL_small ls (i / 2) (fun k hk => h k (by simp [hk])) x hx
theorem levs_small : ∀ (f : Nat) (l : List Bytes), (∀ x ∈ l, x.length ≤ 1000000) → ∀ k ∈ Tr.levs f l, ∀ x ∈ k, x.length ≤ 1000000
  | 0, l, h, k, hk => by simp [Tr.levs] at hk; rw [hk]; exact h
  | f + 1, l, h, k, hk => by
    unfold Tr.levs at hk
    split at hk
    · simp at hk; rw [hk]; exact h
    · rcases List.mem_cons.1 hk with rfl | hk
      · exact h
      · exact levs_small f (Tr.up l) (Tr.up_small h) k hk
theorem path_small (l : List Bytes) (i : Nat) : ∀ x ∈ Tr.path l i, x.length ≤ 1000000 :=
  pathL_small _ _ (levs_small _ _ (fun x hx => by
    obtain ⟨y, _, rfl⟩ := List.mem_map.1 hx
    exact leaf_le y))
theorem path_le (l : List Bytes) (i : Nat) : (Tr.path l i).length ≤ l.length + 1 := Nat.le_trans (Tr.pathL_len _ _) (Tr.levs_len _ _).1
theorem u8_rem (r m : Nat) (hm : 0 < m) (hr : r < 256) : ((r : Int) % (m : Int)) = ((r % m : Nat) : Int) := by simp

theorem held_step {w W W' : World} {a : Addr} {x : Value} (h : W.cell? a = some x) (hc : Chg [] w W) (hcx : Chg [] W W') : W'.cell? a = some x ∧ Chg [] w W' :=
  ⟨(World.cell?_of_block (hcx.block a.block (World.block_lt_of_cell? _ _ h) (by simp))).trans h, hc.trans hcx (by simp)⟩
set_option maxRecDepth 100000 in
set_option maxHeartbeats 2000000 in
theorem complete_walk (w : World) (HL : Hid (Laid w)) (v : Value) (l : List Bytes) (HV : Hid (Strs w v l)) (HS : Hid (Small l)) (r : Nat) (hr : r < 256) :
    Calls Tryd.prog 4 #[v, .int .u8 (r : Int)] w fun e w' => e = .returned (.bool true) ∧ Chg [] w w' := by
  obtain ⟨ao, cap, rfl, hcap, hv⟩ := HV.out
  have HE := Lib.hid hv
  obtain ⟨m, hm⟩ : ∃ m, m = l.length := ⟨_, rfl⟩
  have hm9 : m ≤ 9223372036854775807 := by rw [hm]; exact HS.out.1
  have HV2 : Hid (Strs w (.slice ao m cap) l) := Lib.hid (by rw [hm]; exact HV.out)
  rw [← hm] at hcap ⊢
  have HM := Lib.hid hm
  clear hv hm
  cases hsh : Tr.short l 60 with
  | false =>
    have HSH := Lib.hid hsh
    clear hsh
    go_enter Tryd.func4, Tryd.ntmps4
    go_wp2_with fail
    refine (head_spec w HL).mono ?_
    rintro e w1 ⟨rfl, hc⟩
    have HC := Lib.hid hc
    clear hc
    go_wp2_with fail
    refine (short_no _ _ l (Lib.hid (HV2.out.quiet HC.out)) HS 60 (by decide) HSH).mono ?_
    rintro e w2 ⟨rfl, rfl⟩
    go_wp2_with fail
    go_ret
    exact ⟨rfl, HC.out⟩
  | true =>
    have HSH := Lib.hid hsh
    have hm60 : m ≤ 60 := by rw [HM.out]; exact short_len hsh
    clear hsh
    by_cases hm0 : m = 0
    · subst hm0
      go_enter Tryd.func4, Tryd.ntmps4
      go_wp2_with fail
      refine (head_spec w HL).mono ?_
      rintro e w1 ⟨rfl, hc⟩
      have HC := Lib.hid hc
      clear hc
      go_wp2_with fail
      refine (short_yes _ _ l (Lib.hid (HV2.out.quiet HC.out)) HS 60 (by decide) HSH).mono ?_
      rintro e w2 ⟨rfl, rfl⟩
      go_wp2_with fail
      go_ret
      exact ⟨rfl, HC.out⟩
    · have hm1 : 0 < m := by omega
      have hmz : ((m : Int) == 0) = false := by rw [beq_eq_false_iff_ne]; omega
      have HM0 := Lib.hid hm0
      clear hm0
      have hr0 : (0 : Int) ≤ (r : Int) := by omega
      have hm2 : (0 : Int) < (m : Int) := by omega
      go_enter Tryd.func4, Tryd.ntmps4
      go_wp2_with fail
      refine (head_spec w HL).mono ?_
      rintro e w1 ⟨rfl, hc⟩
      have HC := Lib.hid hc
      clear hc
      go_wp2_with fail
      refine (short_yes _ _ l (Lib.hid (HV2.out.quiet HC.out)) HS 60 (by decide) HSH).mono ?_
      rintro e w2 ⟨rfl, rfl⟩
      go_wp2_with fail
      obtain ⟨i, hi⟩ : ∃ i, i = r % m := ⟨_, rfl⟩
      have him : i < m := by rw [hi]; exact Nat.mod_lt _ hm1
      rw [u8_rem r m hm1 hr, ← hi]
      clear hi hr0
      have hi0 : (0 : Int) ≤ (i : Int) := by omega
      have hi1 : (i : Int) < (m : Int) := by omega
      have HIL : Hid (i < l.length) := Lib.hid (by rw [← HM.out]; exact him)
      have HALL := Lib.hid (short_all HSH.out)
      refine (path_in _ (Lib.hid (HL.out.quiet HC.out)) _ l (Lib.hid (HV2.out.quiet HC.out)) (by rw [← HM.out]; omega) HALL i HIL.out).mono ?_
      rintro e w2 ⟨⟨u, rfl, hs⟩, hc2⟩
      have HC2 := Lib.hid (HC.out.trans hc2 (by simp))
      obtain ⟨po, pcap, rfl, hpc, hpe⟩ := hs
      have HP2 : Hid (Strs w2 (.slice po (Tr.path l i).length pcap) (Tr.path l i)) := Lib.hid ⟨po, pcap, rfl, hpc, hpe⟩
      have HPN : Hid ((Tr.path l i).length = Tr.need m m i) := Lib.hid (by rw [HM.out]; exact Tr.path_need l i HIL.out)
      rw [HPN.out] at HP2 hpc ⊢
      obtain ⟨pl, hpl⟩ : ∃ pl, pl = Tr.need m m i := ⟨_, rfl⟩
      have hpl9 : pl ≤ 61 := by have := path_le l i; rw [HPN.out, ← hpl, ← HM.out] at this; omega
      rw [← hpl] at HP2 hpc ⊢
      have HPL := Lib.hid hpl
      clear hc2 hpe hpl HC
      go_wp2_with fail
      go_loop [9, 10, 11, 12] (fun a b c d => ∃ (f n k t : Nat) (ev : Bool), a = .int .i64 t ∧ b = .bool ev ∧ c = .int .i64 k ∧ d = .int .i64 n ∧ k < n ∧ n ≤ 60 ∧ n ≤ f ∧ t + Tr.halv f n = Tr.halv m m ∧ (ev && Tr.evens f n k) = Tr.evens m m i ∧ t ≤ 60 - n) (fun _ _ _ d => (intOf d).toNat)
      case atStart => exact ⟨m, m, i, 0, true, rfl, rfl, rfl, rfl, him, hm60, Nat.le_refl _, by simp, by simp, by omega⟩
      case round =>
        obtain ⟨f, n, k, t, ev, rfl, rfl, rfl, rfl, hkn, hn60, hnf, hh, he, ht⟩ := hrel
        have HH := Lib.hid hh
        have HEV := Lib.hid he
        clear hh he
        by_cases hn1 : n ≤ 1
        · have HE1 : Hid (ev = Tr.evens m m i) := Lib.hid (by rw [← HEV.out, Tr.evens_end _ _ _ hn1, Bool.and_true])
          have HE2 : Hid (t = Tr.halv m m) := Lib.hid (by rw [← HH.out, Tr.halv_end _ _ hn1, Nat.add_zero])
          have hpt : pl ≤ t := by rw [HPL.out, HE2.out]; exact (Tr.need_le m m i).1
          have hq : ((pl : Int) == (t : Int)) = ev := by
            have := (Tr.need_le m m i).2
            rw [← HPL.out, ← HE2.out, ← HE1.out] at this
            cases ev with
            | true => rw [beq_iff_eq]; exact congrArg _ (this.2 rfl)
            | false => rw [beq_eq_false_iff_ne]; intro h; exact absurd (this.1 (by omega)) (by simp)
          obtain ⟨y, hy⟩ : ∃ y, l[i]? = some y := ⟨l[i]'HIL.out, by simp⟩
          obtain ⟨g, off, rfl, c0⟩ := HE.out i y hy
          have d0 := (World.cell?_of_block (HC2.out.block g (World.block_lt_of_cell? _ _ c0) (by simp))).trans c0
          have HY := Lib.hid hy
          have HYD : Hid (l.getD i [] = y) := Lib.hid (by rw [List.getD_eq_getElem?_getD, hy]; rfl)
          clear c0 hy
          have HL2 := Lib.hid (HL.out.quiet HC2.out)
          have HVW := Lib.hid (HV2.out.quiet HC2.out)
          have HCT : Hid (Tr.check (Tr.root l) m i y (Tr.path l i) = true) := Lib.hid (by
            have := Tr.check_path l i HIL.out
            rw [HYD.out, ← HM.out] at this
            exact this)
          have HYL : Hid (y.length ≤ 1000000) := Lib.hid (HALL.out y (List.mem_of_getElem? HY.out))
          have HL0 : Hid (l ≠ []) := Lib.hid (by intro h; have := HIL.out; rw [h] at this; simp at this)
          have HPS := Lib.hid (path_small l i)
          have hm62 : m ≤ 900 := by omega
          have HPL9 : Hid ((Tr.path l i).length ≤ 1000000) := Lib.hid (by have := path_le l i; rw [← HM.out] at this; omega)
          cases ev with
          | true =>
            have hpt2 : pl = t := by
              have := beq_iff_eq.1 hq
              omega
            clear hq
            subst hpt2
            go_wp2_with fail
            go_region_held3 (fun W => W.cell? ⟨g, off + i, none⟩ = some (.string ⟨y.toArray⟩) ∧ Chg [] w2 W) (first | exact ⟨d0, (Chg.refl _ _).drew⟩ | go_keep | (go_split_ands; exact held_step (by assumption) (by assumption) hcx))
              (first
                | (go_at_call 13; refine (root_cons _ (Lib.hid (HL2.out.quiet (by go_split_ands; assumption))) _ l (Lib.hid (HVW.out.quiet (by go_split_ands; assumption))) HL0.out (by rw [← HM.out]; exact hm62) HALL).mono ?_; rintro e wx ⟨rfl, hcx⟩)
                | (go_at_call 16; refine (check_in_true _ (Lib.hid (HL2.out.quiet (by go_split_ands; assumption))) (Tr.root l) y m i _ _ (Lib.hid (HP2.out.quiet (by go_split_ands; assumption))) HYL.out HPL9.out HPS hm9 him HCT).mono ?_; rintro e wx ⟨rfl, hcx⟩))
            all_goals
              (go_wp2_with fail)
              go_ret
              exact ⟨rfl, HC2.out.trans (by go_split_ands; assumption) (by simp)⟩
          | false =>
            go_wp2_with fail
            go_region_held3 (fun W => W.cell? ⟨g, off + i, none⟩ = some (.string ⟨y.toArray⟩) ∧ Chg [] w2 W) (first | exact ⟨d0, (Chg.refl _ _).drew⟩ | go_keep | (go_split_ands; exact held_step (by assumption) (by assumption) hcx))
              (first
                | (go_at_call 13; refine (root_cons _ (Lib.hid (HL2.out.quiet (by go_split_ands; assumption))) _ l (Lib.hid (HVW.out.quiet (by go_split_ands; assumption))) HL0.out (by rw [← HM.out]; exact hm62) HALL).mono ?_; rintro e wx ⟨rfl, hcx⟩)
                | (go_at_call 16; refine (check_in_true _ (Lib.hid (HL2.out.quiet (by go_split_ands; assumption))) (Tr.root l) y m i _ _ (Lib.hid (HP2.out.quiet (by go_split_ands; assumption))) HYL.out HPL9.out HPS hm9 him HCT).mono ?_; rintro e wx ⟨rfl, hcx⟩))
            all_goals
              (go_wp2_with fail)
              go_ret
              exact ⟨rfl, HC2.out.trans (by go_split_ands; assumption) (by simp)⟩
        · have HEG := Lib.hid (Tr.evens_go (f - 1) n k hn1)
          have HHG := Lib.hid (Tr.halv_go (f - 1) n hn1)
          rw [show f - 1 + 1 = f by omega] at HEG HHG
          have HSL := Lib.hid (Tr.sib_lt hkn)
          have hn2 : 1 < n := by omega
          clear hn1
          cases ev with
          | false =>
            go_wp2_with fail
            go_round
            case rel => exact ⟨f - 1, (n + 1) / 2, k / 2, t + 1, false, by go_num, rfl, by go_num, by go_num, by omega, by omega, by omega, by rw [← HH.out, HHG.out]; omega, by rw [← HEV.out]; rfl, by omega⟩
            case measure => simp [intOf]; omega
          | true =>
            by_cases hk2 : k % 2 = 1
            · have hkz : ((k : Int) % 2 == 1) = true := by rw [beq_iff_eq]; omega
              have HSS : Hid (decide (Tr.sib k < n) = true) := Lib.hid (decide_eq_true (HSL.out.2 (.inl hk2)))
              clear hk2
              go_wp2_with fail
              go_round
              case rel => exact ⟨f - 1, (n + 1) / 2, k / 2, t + 1, true, by go_num, rfl, by go_num, by go_num, by omega, by omega, by omega, by rw [← HH.out, HHG.out]; omega, by rw [← HEV.out, HEG.out, HSS.out]; rfl, by omega⟩
              case measure => simp [intOf]; omega
            · have hkz : ((k : Int) % 2 == 1) = false := by rw [beq_eq_false_iff_ne]; omega
              by_cases hk3 : k + 1 < n
              · have HSS : Hid (decide (Tr.sib k < n) = true) := Lib.hid (decide_eq_true (HSL.out.2 (.inr hk3)))
                have hk4 : (k : Int) + 1 < (n : Int) := by omega
                clear hk2
                go_wp2_with fail
                go_round
                case rel => exact ⟨f - 1, (n + 1) / 2, k / 2, t + 1, true, by go_num, rfl, by go_num, by go_num, by omega, by omega, by omega, by rw [← HH.out, HHG.out]; omega, by rw [← HEV.out, HEG.out, HSS.out]; rfl, by omega⟩
                case measure => simp [intOf]; omega
              · have HSS : Hid (decide (Tr.sib k < n) = false) := Lib.hid (decide_eq_false (fun h => (HSL.out.1 h).elim hk2 hk3))
                have hk4 : ¬ (k : Int) + 1 < (n : Int) := by omega
                clear hk2
                go_wp2_with fail
                go_round
                case rel => exact ⟨f - 1, (n + 1) / 2, k / 2, t + 1, false, by go_num, rfl, by go_num, by go_num, by omega, by omega, by omega, by rw [← HH.out, HHG.out]; omega, by rw [← HEV.out, HEG.out, HSS.out]; rfl, by omega⟩
                case measure => simp [intOf]; omega
end Go.Proofs.YtpeehlflhnhhjaaDoor
