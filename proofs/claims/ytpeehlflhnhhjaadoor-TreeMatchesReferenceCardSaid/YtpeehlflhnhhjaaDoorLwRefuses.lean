/-
  Layer 4: the walk of TreeRefuses.
-/
import Derived.Test.YtpeehlflhnhhjaaDoorLwParts
import Derived.Deep.AppendLies
import Derived.OwnWalk
namespace Go.Proofs.YtpeehlflhnhhjaaDoor
set_option linter.unusedVariables false
set_option linter.unusedSimpArgs false
open Go Go.RowKit Go.Shelf

section
variable {P : Program} (w : World)
/-- An append of nothing: the row stays. -/
theorem append_nothing (base : Nat) (t ty e : TypeId) (i : TypeInfo) (size : Nat) (ht : P.underlying t = some (.slice e)) (hi : P.info? e = some i)
    (v : Value) (n : Nat) (xs : List Value) (hown : w.ownsRow base e size v n xs) (c : Nat) : (Builtin.append_ #[t, t] ty #[v, .slice none 0 c]).run P w = .ok v w := by
  rcases hown.2 with ⟨rfl, rfl⟩ | ⟨g, cap, cur, rfl, _, _, hnc, _⟩
  · simp [Builtin.append_, run_underlying ht, sizeOf, typeInfo, hi, Builtin.lenOf, Builtin.firstCells]
  · simp [Builtin.append_, run_underlying ht, sizeOf, typeInfo, hi, Builtin.lenOf, Builtin.firstCells, hnc, storeCells]
/-- An append of a list of texts that can be read. -/
theorem wpList_append_strs {ops : Array Oper} {rest : List Oper} {o : Oper} {a : Act} {Q : Exit → Act → World → Prop} (hgd : o.guard = none) (s x : Operand) (t : TypeId)
    (ho : o.op = .call { callee := .builtin .append, args := #[s, x], argTypes := #[t, t] })
    (base : Nat) (e : TypeId) (i : TypeInfo) (z : Value) (bytes : Nat) (ht : P.underlying t = some (.slice e)) (hi : P.info? e = some i) (hz : i.zero = some z)
    (hsize : i.size = 1) (hby : i.bytes = bytes) (hzs : z.cells.size = 1)
    (v : Value) (n : Nat) (xs : List Value) (hs : a.eval s = v) (hown : w.ownsRow base e 1 v n xs)
    (xv : Value) (l : List Bytes) (hx : a.eval x = xv) (hS : Strs w xv l)
    (h63 : n + l.length ≤ maxLen) (hbytes : (n + l.length) * bytes ≤ 140737488355328) (hbase : base ≤ w.heap.size)
    (h : ∀ v' w', w'.ownsRow base e 1 v' (n + l.length) (xs ++ l.map vstr) → w.grownBy w' v.ownBlock → wpList P ops Q rest (a.put o.dst v') w') : wpList P ops Q (o :: rest) a w := by
  obtain ⟨ao, cap, rfl, hle, h2⟩ := hS
  cases ao with
  | some ad =>
    refine wpList_append_own w hgd s x t ho base e i z 1 bytes ht hi hz hsize hby hzs (by decide) v n xs hs hown ad l.length cap (l.map vstr) hx (by simp) (fun j u hj => ?_) (by
      intro u hu
      obtain ⟨b, _, rfl⟩ := List.mem_map.1 hu
      rfl) h63 hbytes hbase (fun v' w' h3 h4 _ => h v' w' h3 h4)
    rw [List.getElem?_map] at hj
    cases hl : l[j]? with
    | none => rw [hl] at hj; cases hj
    | some b =>
      rw [hl] at hj
      cases hj
      obtain ⟨g, off, he, hc⟩ := h2 j b hl
      cases he
      rw [addr_add]
      exact hc
  | none =>
    have hl : l = [] := by
      cases l with
      | nil => rfl
      | cons b r =>
        obtain ⟨g, off, he, _⟩ := h2 0 b rfl
        cases he
    subst hl
    refine wpList_plain hgd fun K hK => ?_
    have hrun := append_nothing (P := P) w base t o.type e i 1 ht hi v n xs hown cap
    unfold Oper.wp
    simp [execOp, ho, resolve, invoke, builtin, hs, hx, hrun, Result.andThen]
    exact hK _ _ (h v w (by simpa using hown) (World.grownBy.refl w _))
end
theorem own_ge {w : World} {base : Nat} {e : TypeId} {size : Nat} {v : Value} {n : Nat} {xs : List Value} (h : w.ownsRow base e size v n xs) : ∀ k, v.ownBlock = some k → base ≤ k := by
  rcases h.2 with ⟨rfl, _⟩ | ⟨g, cap, cur, rfl, hb, _⟩
  · intro k hk
    cases hk
  · intro k hk
    simp only [Value.ownBlock, Option.some.injEq] at hk
    omega
set_option maxRecDepth 100000 in
set_option maxHeartbeats 4000000 in
theorem refuses_walk (w : World) (HL : Hid (Laid w)) (v : Value) (l : List Bytes) (HV : Hid (Strs w v l)) (HS : Hid (Small l)) (r : Nat) (hr : r < 256) (more : Bytes) (hmore : more.length ≤ 9223372036854775807) (N : Int) (hN : -9223372036854775808 ≤ N ∧ N ≤ 9223372036854775807) :
    Calls Tryd.prog 8 #[v, .int .u8 (r : Int), .string ⟨more.toArray⟩, .int .i64 N] w fun e w' => e = .returned (.bool true) ∧ Chg [] w w' := by
  obtain ⟨ao, cap, rfl, hcap, hv⟩ := HV.out
  have HE := Lib.hid hv
  obtain ⟨m, hm⟩ : ∃ m, m = l.length := ⟨_, rfl⟩
  have hm9 : m ≤ 9223372036854775807 := by rw [hm]; exact HS.out.1
  have HV2 : Hid (Strs w (.slice ao m cap) l) := Lib.hid (by rw [hm]; exact HV.out)
  rw [← hm] at hcap ⊢
  have HM := Lib.hid hm
  clear hv hm
  cases hsh : Tr.short l 60 with
  | false =>
    have HSH := Lib.hid hsh
    clear hsh
    go_enter Tryd.func8, Tryd.ntmps8
    go_wp2_with fail
    refine (head_spec w HL).mono ?_
    rintro e w1 ⟨rfl, hc⟩
    have HC := Lib.hid hc
    clear hc
    go_wp2_with fail
    refine (short_no _ _ l (Lib.hid (HV2.out.quiet HC.out)) HS 60 (by decide) HSH).mono ?_
    rintro e w2 ⟨rfl, rfl⟩
    go_wp2_with fail
    go_ret
    exact ⟨rfl, HC.out⟩
  | true =>
    have HSH := Lib.hid hsh
    have hm60 : m ≤ 60 := by rw [HM.out]; exact short_len hsh
    clear hsh
    by_cases hm0 : m = 0
    · subst hm0
      go_enter Tryd.func8, Tryd.ntmps8
      go_wp2_with fail
      refine (head_spec w HL).mono ?_
      rintro e w1 ⟨rfl, hc⟩
      have HC := Lib.hid hc
      clear hc
      go_wp2_with fail
      refine (short_yes _ _ l (Lib.hid (HV2.out.quiet HC.out)) HS 60 (by decide) HSH).mono ?_
      rintro e w2 ⟨rfl, rfl⟩
      go_wp2_with fail
      go_ret
      exact ⟨rfl, HC.out⟩
    · have hm1 : 0 < m := by omega
      have hmz : ((m : Int) == 0) = false := by rw [beq_eq_false_iff_ne]; omega
      have HM0 := Lib.hid hm0
      clear hm0
      by_cases hmo : 200 < more.length
      · go_enter Tryd.func8, Tryd.ntmps8
        go_wp2_with fail
        refine (head_spec w HL).mono ?_
        rintro e w1 ⟨rfl, hc⟩
        have HC := Lib.hid hc
        clear hc
        go_wp2_with fail
        refine (short_yes _ _ l (Lib.hid (HV2.out.quiet HC.out)) HS 60 (by decide) HSH).mono ?_
        rintro e w2 ⟨rfl, rfl⟩
        go_wp2_with fail
        go_ret
        exact ⟨rfl, HC.out⟩
      · have hmo' : more.length ≤ 200 := by omega
        have hr0 : (0 : Int) ≤ (r : Int) := by omega
        have hm2 : (0 : Int) < (m : Int) := by omega
        go_enter Tryd.func8, Tryd.ntmps8
        go_wp2_with fail
        refine (head_spec w HL).mono ?_
        rintro e w1 ⟨rfl, hc⟩
        have HC := Lib.hid hc
        clear hc
        go_wp2_with fail
        refine (short_yes _ _ l (Lib.hid (HV2.out.quiet HC.out)) HS 60 (by decide) HSH).mono ?_
        rintro e w2 ⟨rfl, rfl⟩
        go_wp2_with fail
        obtain ⟨i, hi⟩ : ∃ i, i = r % m := ⟨_, rfl⟩
        have him : i < m := by rw [hi]; exact Nat.mod_lt _ hm1
        rw [u8_rem r m hm1 hr, ← hi]
        clear hi hr0
        have hi0 : (0 : Int) ≤ (i : Int) := by omega
        have hi1 : (i : Int) < (m : Int) := by omega
        have HIL : Hid (i < l.length) := Lib.hid (by rw [← HM.out]; exact him)
        have HALL := Lib.hid (short_all HSH.out)
        have HL0 : Hid (l ≠ []) := Lib.hid (by intro h; have := HIL.out; rw [h] at this; simp at this)
        have hm90 : m ≤ 900 := by omega
        have HL1 := Lib.hid (HL.out.quiet HC.out)
        refine (root_cons _ HL1 _ l (Lib.hid (HV2.out.quiet HC.out)) HL0.out (by rw [← HM.out]; exact hm90) HALL).mono ?_
        rintro e w2 ⟨rfl, hc2⟩
        have HC2 := Lib.hid (HC.out.trans hc2 (by simp))
        clear hc2 HC HL1
        go_wp2_with fail
        refine (path_in _ (Lib.hid (HL.out.quiet HC2.out)) _ l (Lib.hid (HV2.out.quiet HC2.out)) (by rw [← HM.out]; omega) HALL i HIL.out).mono ?_
        rintro e w3 ⟨⟨u, rfl, hs⟩, hc3⟩
        have HC3 := Lib.hid (HC2.out.trans hc3 (by simp))
        obtain ⟨po, pcap, rfl, hpc, hpe⟩ := hs
        have HP2 : Hid (Strs w3 (.slice po (Tr.path l i).length pcap) (Tr.path l i)) := Lib.hid ⟨po, pcap, rfl, hpc, hpe⟩
        have HPN : Hid ((Tr.path l i).length = Tr.need m m i) := Lib.hid (by rw [HM.out]; exact Tr.path_need l i HIL.out)
        obtain ⟨ps, hps⟩ : ∃ ps, ps = Tr.path l i := ⟨_, rfl⟩
        have HPS9 : Hid (∀ x ∈ ps, x.length ≤ 1000000) := Lib.hid (by rw [hps]; exact path_small l i)
        have hpl9 : (Tr.path l i).length ≤ 61 := by have := path_le l i; rw [← HM.out] at this; omega
        rw [← hps] at HP2 HPN hpc hpl9 ⊢
        obtain ⟨pl, hpl⟩ : ∃ pl, pl = ps.length := ⟨_, rfl⟩
        rw [← hpl] at HP2 HPN hpc hpl9 ⊢
        have HPL := Lib.hid hpl
        have HPS := Lib.hid hps
        clear hc3 hpe hpl HC2 hps
        obtain ⟨i0, hi, hz0, hz1, hz2⟩ := info_parts info_str
        have hown0 : (w3.alloc (.cells #[] 9)).ownsRow w3.heap.size 9 1 (.slice (some ⟨w3.heap.size, 0, none⟩) 0 0) 0 [] :=
          ⟨rfl, .inr ⟨w3.heap.size, 0, #[], rfl, Nat.le_refl _, World.alloc_heap_new _ _, Nat.le_refl _, Nat.zero_le _, rfl, rfl⟩⟩
        have HCA : Hid (Chg [] w3 (w3.alloc (.cells #[] 9))) := Lib.hid ((Chg.refl _ _).alloc _)
        have hpl61 : ps.length ≤ 61 := by rw [← HPL.out]; exact hpl9
        have hb1 : 0 + ps.length ≤ maxLen := by unfold maxLen; omega
        have hb2 : (0 + ps.length) * 16 ≤ 140737488355328 := by omega
        have hb3 : pl + 1 ≤ maxLen := by unfold maxLen; omega
        have hb4 : (pl + 1) * 16 ≤ 140737488355328 := by omega
        have hb5 : w3.heap.size ≤ (w3.alloc (.cells #[] 9)).heap.size := HCA.out.size
        have HOWN0 := Lib.hid hown0
        clear hown0
        go_wp2_with (first
          | (at_builtin; refine wpList_append_strs _ rfl (.tmp 47) (.tmp 48) 22 rfl w3.heap.size 9 i0 (.string ⟨#[]⟩) 16 Tryd.underlying22 hi hz0 hz1 hz2 rfl (.slice (some ⟨w3.heap.size, 0, none⟩) 0 0) 0 [] rfl HOWN0.out (.slice po pl pcap) ps rfl (HP2.out.quiet HCA.out) hb1 hb2 hb5 ?_; intro v1 w4 hown1 hgrow1; have HCB := Lib.hid (HCA.out.grown hgrow1 (fun k hk => .inr (own_ge HOWN0.out k hk))); rw [Nat.zero_add, List.nil_append, ← HPL.out] at hown1; have HOWN1 := Lib.hid hown1; clear hown1 hgrow1 hb1 hb2 hb5; have hb6 : w3.heap.size ≤ (w4.alloc (.cells #[.string ⟨more.toArray⟩] 9)).heap.size := Nat.le_trans HCB.out.size (by simp))
          | (at_builtin; refine wpList_append_strs _ rfl (.tmp 49) (.tmp 51) 22 rfl w3.heap.size 9 i0 (.string ⟨#[]⟩) 16 Tryd.underlying22 hi hz0 hz1 hz2 rfl v1 pl (ps.map vstr) rfl (row_keptB HOWN1.out ((Chg.refl _ _).alloc _)) (.slice (some ⟨w4.heap.size, 0, none⟩) 1 1) [more] rfl (one_strs w4 more) hb3 hb4 hb6 ?_; intro v2 w5 hown2 hgrow2; have HCC := Lib.hid ((HCB.out.alloc _).grown hgrow2 (fun k hk => .inr (own_ge HOWN1.out k hk))); have HOWN2 := Lib.hid hown2; clear hown2 hgrow2 hb3 hb4 hb6))
        have HLONG : Hid (Strs w5 v2 (ps ++ [more])) := Lib.hid (strs_row (by have h := HOWN2.out; rw [HPL.out, ← List.map_append] at h; rw [List.length_append]; exact h))
        have HC5 : Hid (Chg [] w3 w5) := Lib.hid HCC.out
        have HCW : Hid (Chg [] w w5) := Lib.hid (HC3.out.trans HCC.out (by simp))
        have HL5 := Lib.hid (HL.out.quiet HCW.out)
        have HP5 := Lib.hid (HP2.out.quiet HC5.out)
        obtain ⟨y, hy⟩ : ∃ y, l[i]? = some y := ⟨l[i]'HIL.out, by simp⟩
        obtain ⟨g, off, rfl, c0⟩ := HE.out i y hy
        have d0 := (World.cell?_of_block (HCW.out.block g (World.block_lt_of_cell? _ _ c0) (by simp))).trans c0
        have HYL : Hid (y.length ≤ 1000000) := Lib.hid (HALL.out y (List.mem_of_getElem? hy))
        have HLL : Hid (∀ x ∈ ps ++ [more], x.length ≤ 1000000) := Lib.hid (fun x hx => by
          rcases List.mem_append.1 hx with h | h
          · exact HPS9.out x h
          · simp at h; rw [h]; omega)
        have HL9 : Hid ((ps ++ [more]).length ≤ 1000000) := Lib.hid (by rw [List.length_append]; simp; omega)
        have HCT1 : Hid (Tr.check (Tr.root l) m i y (ps ++ [more]) = false) := Lib.hid (Tr.check_length _ _ _ _ _ (by rw [← HPN.out, List.length_append, ← HPL.out]; simp))
        clear HOWN2 HCC HOWN1 HCB HOWN0 HCA hy c0
        by_cases hz : 0 < pl
        · obtain ⟨pk, hpk⟩ : ∃ pk, pl = pk + 1 := ⟨pl - 1, by omega⟩
          have hw1 : IntKind.i64.wrap ((pl : Int) - 1) = (pk : Int) := by rw [IntWalk.i64_in _ (by omega)]; omega
          have hk0 : (0 : Int) ≤ (pk : Int) := by omega
          have hk1 : (pk : Int) ≤ (pcap : Int) := by omega
          have hk2 : ((pk : Int)).toNat = pk := by omega
          have HFR : Hid (Strs w5 (.slice po pk pcap) (ps.take pk)) := Lib.hid (HP5.out.front (by rw [← HPL.out]; omega))
          have HF9 : Hid ((ps.take pk).length ≤ 1000000) := Lib.hid (by rw [List.length_take, ← HPL.out]; omega)
          have HFA : Hid (∀ x ∈ ps.take pk, x.length ≤ 1000000) := Lib.hid (fun x hx => HPS9.out x (List.mem_of_mem_take hx))
          have HCT2 : Hid (Tr.check (Tr.root l) m i y (ps.take pk) = false) := Lib.hid (Tr.check_length _ _ _ _ _ (by rw [← HPN.out, List.length_take, ← HPL.out]; omega))
          clear hpk
          refine wp_region_held_drew (S := (fun W => W.cell? ⟨g, off + i, none⟩ = some (.string ⟨y.toArray⟩) ∧ Chg [] w5 W)) (by kernel_rfl) ⟨d0, (Chg.refl _ _).drew⟩ (fun hHeld => ?_)
          refine wpAnyH_take (i := 0) (v := ?vy0) rfl (by kernel_rfl) (by kernel_rfl) (by kernel_rfl) (fun _ _ _ h => h) (Or.inl ⟨by kernel_rfl, ?hyy0⟩) (by assumption) ?rsy0
          case hyy0 => (intro w9 hSw; (try dsimp only at hSw); go_split_ands; go_simp; try with_reducible rfl)
          try simp only [Act.put, List.setIfInBounds_toArray, List.set_cons_zero, List.set_cons_succ, List.getElem_toArray, List.getElem_cons_succ, List.getElem_cons_zero]
          refine wpAnyH_take (i := 1) (v := ?vy1) rfl (by kernel_rfl) (by kernel_rfl) (by kernel_rfl) (fun _ _ _ h => h) (Or.inl ⟨by kernel_rfl, ?hyy1⟩) (by assumption) ?rsy1
          case hyy1 => (intro w9 hSw; (try dsimp only at hSw); go_split_ands; go_simp; try with_reducible rfl)
          try simp only [Act.put, List.setIfInBounds_toArray, List.set_cons_zero, List.set_cons_succ, List.getElem_toArray, List.getElem_cons_succ, List.getElem_cons_zero]
          refine wpAnyH_take (i := 2) (v := ?vy2) rfl (by kernel_rfl) (by kernel_rfl) (by kernel_rfl) (fun _ _ _ h => h) (Or.inl ⟨by kernel_rfl, ?hyy2⟩) (by assumption) ?rsy2
          case hyy2 => (intro w9 hSw; (try dsimp only at hSw); go_split_ands; go_simp; try with_reducible rfl)
          try simp only [Act.put, List.setIfInBounds_toArray, List.set_cons_zero, List.set_cons_succ, List.getElem_toArray, List.getElem_cons_succ, List.getElem_cons_zero]
          refine wpAnyH_take (i := 3) (v := ?vy3) rfl (by kernel_rfl) (by kernel_rfl) (by kernel_rfl) (fun _ _ _ h => h) (Or.inl ⟨by kernel_rfl, ?hyy3⟩) (by assumption) ?rsy3
          case hyy3 => (intro w9 hSw; (try dsimp only at hSw); go_split_ands; go_simp; try with_reducible rfl)
          try simp only [Act.put, List.setIfInBounds_toArray, List.set_cons_zero, List.set_cons_succ, List.getElem_toArray, List.getElem_cons_succ, List.getElem_cons_zero]
          refine wpAnyH_take (i := 4) (v := ?vy4) rfl (by kernel_rfl) (by kernel_rfl) (by kernel_rfl) (fun _ _ _ h => h) (Or.inl ⟨by kernel_rfl, ?hyy4⟩) (by assumption) ?rsy4
          case hyy4 => (intro w9 hSw; (try dsimp only at hSw); go_split_ands; go_simp; try with_reducible rfl)
          try simp only [Act.put, List.setIfInBounds_toArray, List.set_cons_zero, List.set_cons_succ, List.getElem_toArray, List.getElem_cons_succ, List.getElem_cons_zero]
          refine wpAnyH_take (i := 5) (v := ?vy5) rfl (by kernel_rfl) (by kernel_rfl) (by kernel_rfl) (fun _ _ _ h => h) (Or.inl ⟨by kernel_rfl, ?hyy5⟩) (by assumption) ?rsy5
          case hyy5 => (intro w9 hSw; (try dsimp only at hSw); go_split_ands; go_simp; try with_reducible rfl)
          try simp only [Act.put, List.setIfInBounds_toArray, List.set_cons_zero, List.set_cons_succ, List.getElem_toArray, List.getElem_cons_succ, List.getElem_cons_zero]
          refine wpAnyH_take (i := 6) (v := ?vy6) rfl (by kernel_rfl) (by kernel_rfl) (by kernel_rfl) (fun _ _ _ h => h) (Or.inl ⟨by kernel_rfl, ?hyy6⟩) (by assumption) ?rsy6
          case hyy6 => (intro w9 hSw; (try dsimp only at hSw); go_split_ands; go_simp; try with_reducible rfl)
          try simp only [Act.put, List.setIfInBounds_toArray, List.set_cons_zero, List.set_cons_succ, List.getElem_toArray, List.getElem_cons_succ, List.getElem_cons_zero]
          refine wpAnyH_take (i := 7) (v := ?vy7) rfl (by kernel_rfl) (by kernel_rfl) (by kernel_rfl) (fun _ _ _ h => h) (Or.inl ⟨by kernel_rfl, ?hyy7⟩) (by assumption) ?rsy7
          case hyy7 => (intro w9 hSw; (try dsimp only at hSw); go_split_ands; go_simp; try with_reducible rfl)
          try simp only [Act.put, List.setIfInBounds_toArray, List.set_cons_zero, List.set_cons_succ, List.getElem_toArray, List.getElem_cons_succ, List.getElem_cons_zero]
          refine wpAnyH_take (i := 8) (v := ?vy8) rfl (by kernel_rfl) (by kernel_rfl) (by kernel_rfl) (fun _ _ _ h => h) (Or.inl ⟨by kernel_rfl, ?hyy8⟩) (by assumption) ?rsy8
          case hyy8 => (intro w9 hSw; (try dsimp only at hSw); go_split_ands; go_simp; try with_reducible rfl)
          try simp only [Act.put, List.setIfInBounds_toArray, List.set_cons_zero, List.set_cons_succ, List.getElem_toArray, List.getElem_cons_succ, List.getElem_cons_zero]
          refine wpAnyH_ready (rs := [9]) (by kernel_rfl) (by simp) (AllReadyH.cons rfl (fun K hK => ?_) AllReadyH.nil)
          go_simp
          refine (check_in_false _ (Lib.hid (HL5.out.quiet hHeld.2)) (Tr.root l) y m i (ps ++ [more]) v2 (Lib.hid (HLONG.out.quiet hHeld.2)) HYL.out HL9.out HLL hm9 him HCT1).mono ?_
          rintro e w6 ⟨rfl, hcx⟩
          refine hK.out _ _ (held_step hHeld.1 hHeld.2 hcx) (fun hHeld => ?_)
          clear hK K
          try simp only [Act.put, List.setIfInBounds_toArray, List.set_cons_zero, List.set_cons_succ, List.getElem_toArray, List.getElem_cons_succ, List.getElem_cons_zero]
          refine wpAnyH_take (i := 10) (v := ?vy10) rfl (by kernel_rfl) (by kernel_rfl) (by kernel_rfl) (fun _ _ _ h => h) (Or.inl ⟨by kernel_rfl, ?hyy10⟩) (by assumption) ?rsy10
          case hyy10 => (intro w9 hSw; (try dsimp only at hSw); go_split_ands; go_simp; try with_reducible rfl)
          try simp only [Act.put, List.setIfInBounds_toArray, List.set_cons_zero, List.set_cons_succ, List.getElem_toArray, List.getElem_cons_succ, List.getElem_cons_zero]
          refine wpAnyH_take (i := 11) (v := ?vy11) rfl (by kernel_rfl) (by kernel_rfl) (by kernel_rfl) (fun _ _ _ h => h) (Or.inl ⟨by kernel_rfl, ?hyy11⟩) (by assumption) ?rsy11
          case hyy11 => (intro w9 hSw; (try dsimp only at hSw); go_split_ands; go_simp; try with_reducible rfl)
          try simp only [Act.put, List.setIfInBounds_toArray, List.set_cons_zero, List.set_cons_succ, List.getElem_toArray, List.getElem_cons_succ, List.getElem_cons_zero]
          refine wpAnyH_take (i := 12) (v := ?vy12) rfl (by kernel_rfl) (by kernel_rfl) (by kernel_rfl) (fun _ _ _ h => h) (Or.inl ⟨by kernel_rfl, ?hyy12⟩) (by assumption) ?rsy12
          case hyy12 => (intro w9 hSw; (try dsimp only at hSw); go_split_ands; go_simp; try with_reducible rfl)
          try simp only [Act.put, List.setIfInBounds_toArray, List.set_cons_zero, List.set_cons_succ, List.getElem_toArray, List.getElem_cons_succ, List.getElem_cons_zero]
          refine wpAnyH_take (i := 13) (v := ?vy13) rfl (by kernel_rfl) (by kernel_rfl) (by kernel_rfl) (fun _ _ _ h => h) (Or.inl ⟨by kernel_rfl, ?hyy13⟩) (by assumption) ?rsy13
          case hyy13 => (intro w9 hSw; (try dsimp only at hSw); go_split_ands; go_simp; try with_reducible rfl)
          try simp only [Act.put, List.setIfInBounds_toArray, List.set_cons_zero, List.set_cons_succ, List.getElem_toArray, List.getElem_cons_succ, List.getElem_cons_zero]
          refine wpAnyH_take (i := 14) (v := ?vy14) rfl (by kernel_rfl) (by kernel_rfl) (by kernel_rfl) (fun _ _ _ h => h) (Or.inl ⟨by kernel_rfl, ?hyy14⟩) (by assumption) ?rsy14
          case hyy14 => (intro w9 hSw; (try dsimp only at hSw); go_split_ands; go_simp; try with_reducible rfl)
          try simp only [Act.put, List.setIfInBounds_toArray, List.set_cons_zero, List.set_cons_succ, List.getElem_toArray, List.getElem_cons_succ, List.getElem_cons_zero]
          refine wpAnyH_take (i := 15) (v := ?vy15) rfl (by kernel_rfl) (by kernel_rfl) (by kernel_rfl) (fun _ _ _ h => h) (Or.inl ⟨by kernel_rfl, ?hyy15⟩) (by assumption) ?rsy15
          case hyy15 => (intro w9 hSw; (try dsimp only at hSw); go_split_ands; go_simp; try with_reducible rfl)
          try simp only [Act.put, List.setIfInBounds_toArray, List.set_cons_zero, List.set_cons_succ, List.getElem_toArray, List.getElem_cons_succ, List.getElem_cons_zero]
          refine wpAnyH_take (i := 16) (v := ?vy16) rfl (by kernel_rfl) (by kernel_rfl) (by kernel_rfl) (fun _ _ _ h => h) (Or.inl ⟨by kernel_rfl, ?hyy16⟩) (by assumption) ?rsy16
          case hyy16 => (intro w9 hSw; (try dsimp only at hSw); go_split_ands; go_simp; try with_reducible rfl)
          try simp only [Act.put, List.setIfInBounds_toArray, List.set_cons_zero, List.set_cons_succ, List.getElem_toArray, List.getElem_cons_succ, List.getElem_cons_zero]
          refine wpAnyH_take (i := 17) (v := ?vy17) rfl (by kernel_rfl) (by kernel_rfl) (by kernel_rfl) (fun _ _ _ h => h) (Or.inl ⟨by kernel_rfl, ?hyy17⟩) (by assumption) ?rsy17
          case hyy17 => (intro w9 hSw; (try dsimp only at hSw); go_split_ands; go_simp; try with_reducible rfl)
          try simp only [Act.put, List.setIfInBounds_toArray, List.set_cons_zero, List.set_cons_succ, List.getElem_toArray, List.getElem_cons_succ, List.getElem_cons_zero]
          refine wpAnyH_take (i := 18) (v := ?vy18) rfl (by kernel_rfl) (by kernel_rfl) (by kernel_rfl) (fun _ _ _ h => h) (Or.inl ⟨by kernel_rfl, ?hyy18⟩) (by assumption) ?rsy18
          case hyy18 => (intro w9 hSw; (try dsimp only at hSw); go_split_ands; go_simp; try with_reducible rfl)
          try simp only [Act.put, List.setIfInBounds_toArray, List.set_cons_zero, List.set_cons_succ, List.getElem_toArray, List.getElem_cons_succ, List.getElem_cons_zero]
          refine wpAnyH_take (i := 19) (v := ?vy19) rfl (by kernel_rfl) (by kernel_rfl) (by kernel_rfl) (fun _ _ _ h => h) (Or.inl ⟨by kernel_rfl, ?hyy19⟩) (by assumption) ?rsy19
          case hyy19 => (intro w9 hSw; (try dsimp only at hSw); go_split_ands; go_simp; try with_reducible rfl)
          try simp only [Act.put, List.setIfInBounds_toArray, List.set_cons_zero, List.set_cons_succ, List.getElem_toArray, List.getElem_cons_succ, List.getElem_cons_zero]
          refine wpAnyH_take (i := 20) (v := ?vy20) rfl (by kernel_rfl) (by kernel_rfl) (by kernel_rfl) (fun _ _ _ h => h) (Or.inl ⟨by kernel_rfl, ?hyy20⟩) (by assumption) ?rsy20
          case hyy20 => (intro w9 hSw; (try dsimp only at hSw); go_split_ands; go_simp; try with_reducible rfl)
          try simp only [Act.put, List.setIfInBounds_toArray, List.set_cons_zero, List.set_cons_succ, List.getElem_toArray, List.getElem_cons_succ, List.getElem_cons_zero]
          refine wpAnyH_take (i := 21) (v := ?vy21) rfl (by kernel_rfl) (by kernel_rfl) (by kernel_rfl) (fun _ _ _ h => h) (Or.inl ⟨by kernel_rfl, ?hyy21⟩) (by assumption) ?rsy21
          case hyy21 => (intro w9 hSw; (try dsimp only at hSw); go_split_ands; go_simp; try with_reducible rfl)
          try simp only [Act.put, List.setIfInBounds_toArray, List.set_cons_zero, List.set_cons_succ, List.getElem_toArray, List.getElem_cons_succ, List.getElem_cons_zero]
          refine wpAnyH_take (i := 22) (v := ?vy22) rfl (by kernel_rfl) (by kernel_rfl) (by kernel_rfl) (fun _ _ _ h => h) (Or.inl ⟨by kernel_rfl, ?hyy22⟩) (by assumption) ?rsy22
          case hyy22 => (intro w9 hSw; (try dsimp only at hSw); go_split_ands; go_simp; try with_reducible rfl)
          try simp only [Act.put, List.setIfInBounds_toArray, List.set_cons_zero, List.set_cons_succ, List.getElem_toArray, List.getElem_cons_succ, List.getElem_cons_zero]
          refine wpAnyH_take (i := 23) (v := ?vy23) rfl (by kernel_rfl) (by kernel_rfl) (by kernel_rfl) (fun _ _ _ h => h) (Or.inl ⟨by kernel_rfl, ?hyy23⟩) (by assumption) ?rsy23
          case hyy23 => (intro w9 hSw; (try dsimp only at hSw); go_split_ands; go_simp; try with_reducible rfl)
          try simp only [Act.put, List.setIfInBounds_toArray, List.set_cons_zero, List.set_cons_succ, List.getElem_toArray, List.getElem_cons_succ, List.getElem_cons_zero]
          refine wpAnyH_take (i := 24) (v := ?vy24) rfl (by kernel_rfl) (by kernel_rfl) (by kernel_rfl) (fun _ _ _ h => h) (Or.inl ⟨by kernel_rfl, ?hyy24⟩) (by assumption) ?rsy24
          case hyy24 => (intro w9 hSw; (try dsimp only at hSw); go_split_ands; go_simp; try with_reducible rfl)
          try simp only [Act.put, List.setIfInBounds_toArray, List.set_cons_zero, List.set_cons_succ, List.getElem_toArray, List.getElem_cons_succ, List.getElem_cons_zero]
          refine wpAnyH_take (i := 25) (v := ?vy25) rfl (by kernel_rfl) (by kernel_rfl) (by kernel_rfl) (fun _ _ _ h => h) (Or.inl ⟨by kernel_rfl, ?hyy25⟩) (by assumption) ?rsy25
          case hyy25 => (intro w9 hSw; (try dsimp only at hSw); go_split_ands; go_simp; try with_reducible rfl)
          try simp only [Act.put, List.setIfInBounds_toArray, List.set_cons_zero, List.set_cons_succ, List.getElem_toArray, List.getElem_cons_succ, List.getElem_cons_zero]
          refine wpAnyH_take (i := 26) (v := ?vy26) rfl (by kernel_rfl) (by kernel_rfl) (by kernel_rfl) (fun _ _ _ h => h) (Or.inl ⟨by kernel_rfl, ?hyy26⟩) (by assumption) ?rsy26
          case hyy26 => (intro w9 hSw; (try dsimp only at hSw); go_split_ands; go_simp; try with_reducible rfl)
          try simp only [Act.put, List.setIfInBounds_toArray, List.set_cons_zero, List.set_cons_succ, List.getElem_toArray, List.getElem_cons_succ, List.getElem_cons_zero]
          refine wpAnyH_take (i := 27) (v := ?vy27) rfl (by kernel_rfl) (by kernel_rfl) (by kernel_rfl) (fun _ _ _ h => h) (Or.inl ⟨by kernel_rfl, ?hyy27⟩) (by assumption) ?rsy27
          case hyy27 => (intro w9 hSw; (try dsimp only at hSw); go_split_ands; go_simp; try with_reducible rfl)
          try simp only [Act.put, List.setIfInBounds_toArray, List.set_cons_zero, List.set_cons_succ, List.getElem_toArray, List.getElem_cons_succ, List.getElem_cons_zero]
          refine wpAnyH_ready (rs := [28]) (by kernel_rfl) (by simp) (AllReadyH.cons rfl (fun K hK => ?_) AllReadyH.nil)
          go_simp
          refine (check_in_false _ (Lib.hid (HL5.out.quiet hHeld.2)) (Tr.root l) y m i (ps.take pk) (.slice po pk pcap) (Lib.hid (HFR.out.quiet hHeld.2)) HYL.out HF9.out HFA hm9 him HCT2).mono ?_
          rintro e w7 ⟨rfl, hcy⟩
          refine hK.out _ _ (held_step hHeld.1 hHeld.2 hcy) (fun hHeld => ?_)
          clear hK K
          try simp only [Act.put, List.setIfInBounds_toArray, List.set_cons_zero, List.set_cons_succ, List.getElem_toArray, List.getElem_cons_succ, List.getElem_cons_zero]
          refine wpAnyH_take (i := 29) (v := ?vy29) rfl (by kernel_rfl) (by kernel_rfl) (by kernel_rfl) (fun _ _ _ h => h) (Or.inl ⟨by kernel_rfl, ?hyy29⟩) (by assumption) ?rsy29
          case hyy29 => (intro w9 hSw; (try dsimp only at hSw); go_split_ands; go_simp; try with_reducible rfl)
          try simp only [Act.put, List.setIfInBounds_toArray, List.set_cons_zero, List.set_cons_succ, List.getElem_toArray, List.getElem_cons_succ, List.getElem_cons_zero]
          refine wpAnyH_take (i := 30) (v := ?vy30) rfl (by kernel_rfl) (by kernel_rfl) (by kernel_rfl) (fun _ _ _ h => h) (Or.inl ⟨by kernel_rfl, ?hyy30⟩) (by assumption) ?rsy30
          case hyy30 => (intro w9 hSw; (try dsimp only at hSw); go_split_ands; go_simp; try with_reducible rfl)
          try simp only [Act.put, List.setIfInBounds_toArray, List.set_cons_zero, List.set_cons_succ, List.getElem_toArray, List.getElem_cons_succ, List.getElem_cons_zero]
          refine wpAnyH_done (by kernel_rfl) ?_ _
          try simp only [Act.put, List.setIfInBounds_toArray, List.set_cons_zero, List.set_cons_succ, List.getElem_toArray, List.getElem_cons_succ, List.getElem_cons_zero]
          clear hw1 hk2
          have HC6 := Lib.hid (HCW.out.trans hHeld.2 (by simp))
          have c6 := hHeld.1
          clear hHeld
          go_wp2_with fail
          refine (path_out _ _ l (Lib.hid (HV2.out.quiet HC6.out)) (by rw [← HM.out]; exact hm90) (-1 - (i : Int)) (.inl (by omega))).mono ?_
          rintro e w8 ⟨rfl, hc8⟩
          have c8 := (World.cell?_of_block (a := ⟨g, off + i, none⟩) (hc8.block g (World.block_lt_of_cell? _ _ c6) (by simp))).trans c6
          have HC8 := Lib.hid (HC6.out.trans hc8 (by simp))
          clear hc8 c6 HC6
          go_wp2_with fail
          refine (check_out _ _ N (-1 - (i : Int)) ⟨y.toArray⟩ _ (.inr (.inl (by omega)))).mono ?_
          rintro e w9 ⟨rfl, hc9⟩
          have c9 := (World.cell?_of_block (a := ⟨g, off + i, none⟩) (hc9.block g (World.block_lt_of_cell? _ _ c8) (by simp))).trans c8
          have HC9 := Lib.hid (HC8.out.trans hc9 (by simp))
          clear hc9 c8 HC8
          go_wp2_with fail
          refine (check_out _ _ (-(i : Int)) (i : Int) ⟨y.toArray⟩ _ (.inl (by omega))).mono ?_
          rintro e w10 ⟨rfl, hc10⟩
          have c10 := (World.cell?_of_block (a := ⟨g, off + i, none⟩) (hc10.block g (World.block_lt_of_cell? _ _ c9) (by simp))).trans c9
          have HC10 := Lib.hid (HC9.out.trans hc10 (by simp))
          clear hc10 c9 HC9
          go_wp2_with fail
          refine (check_out _ _ (i : Int) (i : Int) ⟨y.toArray⟩ _ (.inr (.inr (Int.le_refl _)))).mono ?_
          rintro e w11 ⟨rfl, hc11⟩
          have HC11 := Lib.hid (HC10.out.trans hc11 (by simp))
          clear hc11 c10 HC10
          go_wp2_with fail
          go_ret
          exact ⟨rfl, HC11.out⟩
        · have hz0 : 0 ≤ pl := Nat.zero_le _
          refine wp_region_held_drew (S := (fun W => W.cell? ⟨g, off + i, none⟩ = some (.string ⟨y.toArray⟩) ∧ Chg [] w5 W)) (by kernel_rfl) ⟨d0, (Chg.refl _ _).drew⟩ (fun hHeld => ?_)
          refine wpAnyH_take (i := 0) (v := ?vn0) rfl (by kernel_rfl) (by kernel_rfl) (by kernel_rfl) (fun _ _ _ h => h) (Or.inl ⟨by kernel_rfl, ?hyn0⟩) (by assumption) ?rsn0
          case hyn0 => (intro w9 hSw; (try dsimp only at hSw); go_split_ands; go_simp; try with_reducible rfl)
          try simp only [Act.put, List.setIfInBounds_toArray, List.set_cons_zero, List.set_cons_succ, List.getElem_toArray, List.getElem_cons_succ, List.getElem_cons_zero]
          refine wpAnyH_take (i := 1) (v := ?vn1) rfl (by kernel_rfl) (by kernel_rfl) (by kernel_rfl) (fun _ _ _ h => h) (Or.inl ⟨by kernel_rfl, ?hyn1⟩) (by assumption) ?rsn1
          case hyn1 => (intro w9 hSw; (try dsimp only at hSw); go_split_ands; go_simp; try with_reducible rfl)
          try simp only [Act.put, List.setIfInBounds_toArray, List.set_cons_zero, List.set_cons_succ, List.getElem_toArray, List.getElem_cons_succ, List.getElem_cons_zero]
          refine wpAnyH_take (i := 2) (v := ?vn2) rfl (by kernel_rfl) (by kernel_rfl) (by kernel_rfl) (fun _ _ _ h => h) (Or.inl ⟨by kernel_rfl, ?hyn2⟩) (by assumption) ?rsn2
          case hyn2 => (intro w9 hSw; (try dsimp only at hSw); go_split_ands; go_simp; try with_reducible rfl)
          try simp only [Act.put, List.setIfInBounds_toArray, List.set_cons_zero, List.set_cons_succ, List.getElem_toArray, List.getElem_cons_succ, List.getElem_cons_zero]
          refine wpAnyH_take (i := 3) (v := ?vn3) rfl (by kernel_rfl) (by kernel_rfl) (by kernel_rfl) (fun _ _ _ h => h) (Or.inl ⟨by kernel_rfl, ?hyn3⟩) (by assumption) ?rsn3
          case hyn3 => (intro w9 hSw; (try dsimp only at hSw); go_split_ands; go_simp; try with_reducible rfl)
          try simp only [Act.put, List.setIfInBounds_toArray, List.set_cons_zero, List.set_cons_succ, List.getElem_toArray, List.getElem_cons_succ, List.getElem_cons_zero]
          refine wpAnyH_take (i := 4) (v := ?vn4) rfl (by kernel_rfl) (by kernel_rfl) (by kernel_rfl) (fun _ _ _ h => h) (Or.inl ⟨by kernel_rfl, ?hyn4⟩) (by assumption) ?rsn4
          case hyn4 => (intro w9 hSw; (try dsimp only at hSw); go_split_ands; go_simp; try with_reducible rfl)
          try simp only [Act.put, List.setIfInBounds_toArray, List.set_cons_zero, List.set_cons_succ, List.getElem_toArray, List.getElem_cons_succ, List.getElem_cons_zero]
          refine wpAnyH_take (i := 5) (v := ?vn5) rfl (by kernel_rfl) (by kernel_rfl) (by kernel_rfl) (fun _ _ _ h => h) (Or.inl ⟨by kernel_rfl, ?hyn5⟩) (by assumption) ?rsn5
          case hyn5 => (intro w9 hSw; (try dsimp only at hSw); go_split_ands; go_simp; try with_reducible rfl)
          try simp only [Act.put, List.setIfInBounds_toArray, List.set_cons_zero, List.set_cons_succ, List.getElem_toArray, List.getElem_cons_succ, List.getElem_cons_zero]
          refine wpAnyH_take (i := 6) (v := ?vn6) rfl (by kernel_rfl) (by kernel_rfl) (by kernel_rfl) (fun _ _ _ h => h) (Or.inl ⟨by kernel_rfl, ?hyn6⟩) (by assumption) ?rsn6
          case hyn6 => (intro w9 hSw; (try dsimp only at hSw); go_split_ands; go_simp; try with_reducible rfl)
          try simp only [Act.put, List.setIfInBounds_toArray, List.set_cons_zero, List.set_cons_succ, List.getElem_toArray, List.getElem_cons_succ, List.getElem_cons_zero]
          refine wpAnyH_take (i := 7) (v := ?vn7) rfl (by kernel_rfl) (by kernel_rfl) (by kernel_rfl) (fun _ _ _ h => h) (Or.inl ⟨by kernel_rfl, ?hyn7⟩) (by assumption) ?rsn7
          case hyn7 => (intro w9 hSw; (try dsimp only at hSw); go_split_ands; go_simp; try with_reducible rfl)
          try simp only [Act.put, List.setIfInBounds_toArray, List.set_cons_zero, List.set_cons_succ, List.getElem_toArray, List.getElem_cons_succ, List.getElem_cons_zero]
          refine wpAnyH_take (i := 8) (v := ?vn8) rfl (by kernel_rfl) (by kernel_rfl) (by kernel_rfl) (fun _ _ _ h => h) (Or.inl ⟨by kernel_rfl, ?hyn8⟩) (by assumption) ?rsn8
          case hyn8 => (intro w9 hSw; (try dsimp only at hSw); go_split_ands; go_simp; try with_reducible rfl)
          try simp only [Act.put, List.setIfInBounds_toArray, List.set_cons_zero, List.set_cons_succ, List.getElem_toArray, List.getElem_cons_succ, List.getElem_cons_zero]
          refine wpAnyH_ready (rs := [9]) (by kernel_rfl) (by simp) (AllReadyH.cons rfl (fun K hK => ?_) AllReadyH.nil)
          go_simp
          refine (check_in_false _ (Lib.hid (HL5.out.quiet hHeld.2)) (Tr.root l) y m i (ps ++ [more]) v2 (Lib.hid (HLONG.out.quiet hHeld.2)) HYL.out HL9.out HLL hm9 him HCT1).mono ?_
          rintro e w6 ⟨rfl, hcx⟩
          refine hK.out _ _ (held_step hHeld.1 hHeld.2 hcx) (fun hHeld => ?_)
          clear hK K
          try simp only [Act.put, List.setIfInBounds_toArray, List.set_cons_zero, List.set_cons_succ, List.getElem_toArray, List.getElem_cons_succ, List.getElem_cons_zero]
          refine wpAnyH_take (i := 10) (v := ?vn10) rfl (by kernel_rfl) (by kernel_rfl) (by kernel_rfl) (fun _ _ _ h => h) (Or.inl ⟨by kernel_rfl, ?hyn10⟩) (by assumption) ?rsn10
          case hyn10 => (intro w9 hSw; (try dsimp only at hSw); go_split_ands; go_simp; try with_reducible rfl)
          try simp only [Act.put, List.setIfInBounds_toArray, List.set_cons_zero, List.set_cons_succ, List.getElem_toArray, List.getElem_cons_succ, List.getElem_cons_zero]
          refine wpAnyH_take (i := 11) (v := ?vn11) rfl (by kernel_rfl) (by kernel_rfl) (by kernel_rfl) (fun _ _ _ h => h) (Or.inl ⟨by kernel_rfl, ?hyn11⟩) (by assumption) ?rsn11
          case hyn11 => (intro w9 hSw; (try dsimp only at hSw); go_split_ands; go_simp; try with_reducible rfl)
          try simp only [Act.put, List.setIfInBounds_toArray, List.set_cons_zero, List.set_cons_succ, List.getElem_toArray, List.getElem_cons_succ, List.getElem_cons_zero]
          refine wpAnyH_take (i := 12) (v := ?vn12) rfl (by kernel_rfl) (by kernel_rfl) (by kernel_rfl) (fun _ _ _ h => h) (Or.inl ⟨by kernel_rfl, ?hyn12⟩) (by assumption) ?rsn12
          case hyn12 => (intro w9 hSw; (try dsimp only at hSw); go_split_ands; go_simp; try with_reducible rfl)
          try simp only [Act.put, List.setIfInBounds_toArray, List.set_cons_zero, List.set_cons_succ, List.getElem_toArray, List.getElem_cons_succ, List.getElem_cons_zero]
          refine wpAnyH_take (i := 13) (v := ?vn13) rfl (by kernel_rfl) (by kernel_rfl) (by kernel_rfl) (fun _ _ _ h => h) (Or.inl ⟨by kernel_rfl, ?hyn13⟩) (by assumption) ?rsn13
          case hyn13 => (intro w9 hSw; (try dsimp only at hSw); go_split_ands; go_simp; try with_reducible rfl)
          try simp only [Act.put, List.setIfInBounds_toArray, List.set_cons_zero, List.set_cons_succ, List.getElem_toArray, List.getElem_cons_succ, List.getElem_cons_zero]
          refine wpAnyH_take (i := 14) (v := ?vn14) rfl (by kernel_rfl) (by kernel_rfl) (by kernel_rfl) (fun _ _ _ h => h) (Or.inl ⟨by kernel_rfl, ?hyn14⟩) (by assumption) ?rsn14
          case hyn14 => (intro w9 hSw; (try dsimp only at hSw); go_split_ands; go_simp; try with_reducible rfl)
          try simp only [Act.put, List.setIfInBounds_toArray, List.set_cons_zero, List.set_cons_succ, List.getElem_toArray, List.getElem_cons_succ, List.getElem_cons_zero]
          refine wpAnyH_take (i := 15) (v := undef) rfl (by kernel_rfl) (by kernel_rfl) (by kernel_rfl) (fun _ _ _ h => h) (Or.inr ⟨by kernel_rfl, rfl⟩) (by assumption) ?rsn15
          try simp only [Act.put, List.setIfInBounds_toArray, List.set_cons_zero, List.set_cons_succ, List.getElem_toArray, List.getElem_cons_succ, List.getElem_cons_zero]
          refine wpAnyH_take (i := 16) (v := undef) rfl (by kernel_rfl) (by kernel_rfl) (by kernel_rfl) (fun _ _ _ h => h) (Or.inr ⟨by kernel_rfl, rfl⟩) (by assumption) ?rsn16
          try simp only [Act.put, List.setIfInBounds_toArray, List.set_cons_zero, List.set_cons_succ, List.getElem_toArray, List.getElem_cons_succ, List.getElem_cons_zero]
          refine wpAnyH_take (i := 17) (v := undef) rfl (by kernel_rfl) (by kernel_rfl) (by kernel_rfl) (fun _ _ _ h => h) (Or.inr ⟨by kernel_rfl, rfl⟩) (by assumption) ?rsn17
          try simp only [Act.put, List.setIfInBounds_toArray, List.set_cons_zero, List.set_cons_succ, List.getElem_toArray, List.getElem_cons_succ, List.getElem_cons_zero]
          refine wpAnyH_take (i := 18) (v := undef) rfl (by kernel_rfl) (by kernel_rfl) (by kernel_rfl) (fun _ _ _ h => h) (Or.inr ⟨by kernel_rfl, rfl⟩) (by assumption) ?rsn18
          try simp only [Act.put, List.setIfInBounds_toArray, List.set_cons_zero, List.set_cons_succ, List.getElem_toArray, List.getElem_cons_succ, List.getElem_cons_zero]
          refine wpAnyH_take (i := 19) (v := undef) rfl (by kernel_rfl) (by kernel_rfl) (by kernel_rfl) (fun _ _ _ h => h) (Or.inr ⟨by kernel_rfl, rfl⟩) (by assumption) ?rsn19
          try simp only [Act.put, List.setIfInBounds_toArray, List.set_cons_zero, List.set_cons_succ, List.getElem_toArray, List.getElem_cons_succ, List.getElem_cons_zero]
          refine wpAnyH_take (i := 20) (v := undef) rfl (by kernel_rfl) (by kernel_rfl) (by kernel_rfl) (fun _ _ _ h => h) (Or.inr ⟨by kernel_rfl, rfl⟩) (by assumption) ?rsn20
          try simp only [Act.put, List.setIfInBounds_toArray, List.set_cons_zero, List.set_cons_succ, List.getElem_toArray, List.getElem_cons_succ, List.getElem_cons_zero]
          refine wpAnyH_take (i := 21) (v := undef) rfl (by kernel_rfl) (by kernel_rfl) (by kernel_rfl) (fun _ _ _ h => h) (Or.inr ⟨by kernel_rfl, rfl⟩) (by assumption) ?rsn21
          try simp only [Act.put, List.setIfInBounds_toArray, List.set_cons_zero, List.set_cons_succ, List.getElem_toArray, List.getElem_cons_succ, List.getElem_cons_zero]
          refine wpAnyH_take (i := 22) (v := undef) rfl (by kernel_rfl) (by kernel_rfl) (by kernel_rfl) (fun _ _ _ h => h) (Or.inr ⟨by kernel_rfl, rfl⟩) (by assumption) ?rsn22
          try simp only [Act.put, List.setIfInBounds_toArray, List.set_cons_zero, List.set_cons_succ, List.getElem_toArray, List.getElem_cons_succ, List.getElem_cons_zero]
          refine wpAnyH_take (i := 23) (v := undef) rfl (by kernel_rfl) (by kernel_rfl) (by kernel_rfl) (fun _ _ _ h => h) (Or.inr ⟨by kernel_rfl, rfl⟩) (by assumption) ?rsn23
          try simp only [Act.put, List.setIfInBounds_toArray, List.set_cons_zero, List.set_cons_succ, List.getElem_toArray, List.getElem_cons_succ, List.getElem_cons_zero]
          refine wpAnyH_take (i := 24) (v := undef) rfl (by kernel_rfl) (by kernel_rfl) (by kernel_rfl) (fun _ _ _ h => h) (Or.inr ⟨by kernel_rfl, rfl⟩) (by assumption) ?rsn24
          try simp only [Act.put, List.setIfInBounds_toArray, List.set_cons_zero, List.set_cons_succ, List.getElem_toArray, List.getElem_cons_succ, List.getElem_cons_zero]
          refine wpAnyH_take (i := 25) (v := undef) rfl (by kernel_rfl) (by kernel_rfl) (by kernel_rfl) (fun _ _ _ h => h) (Or.inr ⟨by kernel_rfl, rfl⟩) (by assumption) ?rsn25
          try simp only [Act.put, List.setIfInBounds_toArray, List.set_cons_zero, List.set_cons_succ, List.getElem_toArray, List.getElem_cons_succ, List.getElem_cons_zero]
          refine wpAnyH_take (i := 26) (v := undef) rfl (by kernel_rfl) (by kernel_rfl) (by kernel_rfl) (fun _ _ _ h => h) (Or.inr ⟨by kernel_rfl, rfl⟩) (by assumption) ?rsn26
          try simp only [Act.put, List.setIfInBounds_toArray, List.set_cons_zero, List.set_cons_succ, List.getElem_toArray, List.getElem_cons_succ, List.getElem_cons_zero]
          refine wpAnyH_take (i := 27) (v := undef) rfl (by kernel_rfl) (by kernel_rfl) (by kernel_rfl) (fun _ _ _ h => h) (Or.inr ⟨by kernel_rfl, rfl⟩) (by assumption) ?rsn27
          try simp only [Act.put, List.setIfInBounds_toArray, List.set_cons_zero, List.set_cons_succ, List.getElem_toArray, List.getElem_cons_succ, List.getElem_cons_zero]
          refine wpAnyH_take (i := 28) (v := undef) rfl (by kernel_rfl) (by kernel_rfl) (by kernel_rfl) (fun _ _ _ h => h) (Or.inr ⟨by kernel_rfl, rfl⟩) (by assumption) ?rsn28
          try simp only [Act.put, List.setIfInBounds_toArray, List.set_cons_zero, List.set_cons_succ, List.getElem_toArray, List.getElem_cons_succ, List.getElem_cons_zero]
          refine wpAnyH_take (i := 29) (v := ?vn29) rfl (by kernel_rfl) (by kernel_rfl) (by kernel_rfl) (fun _ _ _ h => h) (Or.inl ⟨by kernel_rfl, ?hyn29⟩) (by assumption) ?rsn29
          case hyn29 => (intro w9 hSw; (try dsimp only at hSw); go_split_ands; go_simp; try with_reducible rfl)
          try simp only [Act.put, List.setIfInBounds_toArray, List.set_cons_zero, List.set_cons_succ, List.getElem_toArray, List.getElem_cons_succ, List.getElem_cons_zero]
          refine wpAnyH_take (i := 30) (v := ?vn30) rfl (by kernel_rfl) (by kernel_rfl) (by kernel_rfl) (fun _ _ _ h => h) (Or.inl ⟨by kernel_rfl, ?hyn30⟩) (by assumption) ?rsn30
          case hyn30 => (intro w9 hSw; (try dsimp only at hSw); go_split_ands; go_simp; try with_reducible rfl)
          try simp only [Act.put, List.setIfInBounds_toArray, List.set_cons_zero, List.set_cons_succ, List.getElem_toArray, List.getElem_cons_succ, List.getElem_cons_zero]
          refine wpAnyH_done (by kernel_rfl) ?_ _
          try simp only [Act.put, List.setIfInBounds_toArray, List.set_cons_zero, List.set_cons_succ, List.getElem_toArray, List.getElem_cons_succ, List.getElem_cons_zero]
          have HC6 := Lib.hid (HCW.out.trans hHeld.2 (by simp))
          have c6 := hHeld.1
          clear hHeld
          go_wp2_with fail
          refine (path_out _ _ l (Lib.hid (HV2.out.quiet HC6.out)) (by rw [← HM.out]; exact hm90) (-1 - (i : Int)) (.inl (by omega))).mono ?_
          rintro e w8 ⟨rfl, hc8⟩
          have c8 := (World.cell?_of_block (a := ⟨g, off + i, none⟩) (hc8.block g (World.block_lt_of_cell? _ _ c6) (by simp))).trans c6
          have HC8 := Lib.hid (HC6.out.trans hc8 (by simp))
          clear hc8 c6 HC6
          go_wp2_with fail
          refine (check_out _ _ N (-1 - (i : Int)) ⟨y.toArray⟩ _ (.inr (.inl (by omega)))).mono ?_
          rintro e w9 ⟨rfl, hc9⟩
          have c9 := (World.cell?_of_block (a := ⟨g, off + i, none⟩) (hc9.block g (World.block_lt_of_cell? _ _ c8) (by simp))).trans c8
          have HC9 := Lib.hid (HC8.out.trans hc9 (by simp))
          clear hc9 c8 HC8
          go_wp2_with fail
          refine (check_out _ _ (-(i : Int)) (i : Int) ⟨y.toArray⟩ _ (.inl (by omega))).mono ?_
          rintro e w10 ⟨rfl, hc10⟩
          have c10 := (World.cell?_of_block (a := ⟨g, off + i, none⟩) (hc10.block g (World.block_lt_of_cell? _ _ c9) (by simp))).trans c9
          have HC10 := Lib.hid (HC9.out.trans hc10 (by simp))
          clear hc10 c9 HC9
          go_wp2_with fail
          refine (check_out _ _ (i : Int) (i : Int) ⟨y.toArray⟩ _ (.inr (.inr (Int.le_refl _)))).mono ?_
          rintro e w11 ⟨rfl, hc11⟩
          have HC11 := Lib.hid (HC10.out.trans hc11 (by simp))
          clear hc11 c10 HC10
          go_wp2_with fail
          go_ret
          exact ⟨rfl, HC11.out⟩
end Go.Proofs.YtpeehlflhnhhjaaDoor
