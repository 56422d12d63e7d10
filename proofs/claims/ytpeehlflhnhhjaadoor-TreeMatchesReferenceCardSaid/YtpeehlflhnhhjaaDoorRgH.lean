/-
  The reference of the tree (layer 4): the contract of Check.
-/
import Derived.Test.YtpeehlflhnhhjaaDoorRgG
namespace Go.Proofs.YtpeehlflhnhhjaaDoor
set_option linter.unusedVariables false
set_option linter.unusedSimpArgs false
open Go Go.RowKit Go.Shelf

theorem rcheck_out (w : World) (root : ByteArray) (n i : Int) (t : ByteArray) (v : Value) (h : n < 1 ∨ i < 0 ∨ n ≤ i) :
    Calls Tryd.prog 17 #[.string root, .int .i64 n, .int .i64 i, .string t, v] w fun e w' => e = .returned (.bool false) ∧ Chg [] w w' := by
  by_cases h1 : n < 1
  · clear h
    go_enter Tryd.func17, Tryd.ntmps17
    go_wp2_with fail
    go_ret
    exact ⟨rfl, Chg.refl _ _⟩
  · have h1' : 1 ≤ n := by omega
    by_cases h2 : i < 0
    · clear h
      go_enter Tryd.func17, Tryd.ntmps17
      go_wp2_with fail
      go_ret
      exact ⟨rfl, Chg.refl _ _⟩
    · have h2' : 0 ≤ i := by omega
      have h3 : n ≤ i := by omega
      clear h
      go_enter Tryd.func17, Tryd.ntmps17
      go_wp2_with fail
      go_ret
      exact ⟨rfl, Chg.refl _ _⟩
set_option maxHeartbeats 4000000 in
theorem rcheck_in (w : World) (root t : Bytes) (N I : Nat) (path : List Bytes) (v : Value) (HV : Hid (Strs w v path)) (ht : t.length ≤ 1000000) (hp : path.length ≤ 1000000) (HB : Hid (∀ x ∈ path, x.length ≤ 1000000))
    (hN : N ≤ 9223372036854775807) (hIN : I < N) :
    Calls Tryd.prog 17 #[.string ⟨root.toArray⟩, .int .i64 (N : Int), .int .i64 (I : Int), .string ⟨t.toArray⟩, v] w fun e w' => e = .returned (.bool (Tr.check root N I t path)) ∧ Chg [] w w' := by
  have HCK : Hid (Tr.check root (N : Int) (I : Int) t path = match Tr.climb N N I (Tr.leaf t) path with
    | Option.none => false
    | some (at_, ps) => decide (ps = [] ∧ at_ = root)) := Lib.hid (by
    unfold Tr.check
    rw [if_neg (by omega)]
    simp only [Int.toNat_natCast]
    cases Tr.climb N N I (Tr.leaf t) path <;> rfl)
  have g1 : (1 : Int) ≤ (N : Int) := by omega
  have g2 : (0 : Int) ≤ (I : Int) := by omega
  have g3 : ¬ N ≤ I := by omega
  obtain ⟨uo, ucap, rfl, hucap, hu⟩ := HV.out
  have HUE := Lib.hid hu
  obtain ⟨pq, hpq⟩ : ∃ pq, pq = path.length := ⟨_, rfl⟩
  rw [← hpq] at hucap hp ⊢
  have HPQ := Lib.hid hpq
  clear hu hpq
  go_enter Tryd.func17, Tryd.ntmps17
  go_wp2_with fail
  refine (rleaf_spec _ t ht).mono ?_
  rintro e w2 ⟨rfl, hc⟩
  have HC := Lib.hid hc
  clear hc
  go_wp2_with fail
  go_loopw [1, 2, 11, 12] (fun a b at_ uv wr => ∃ (f n i used : Nat) (ps : List Bytes) (y : Bytes), a = .int .i64 (n : Int) ∧ b = .int .i64 (i : Int) ∧ at_ = .string ⟨y.toArray⟩ ∧ uv = .int .i64 (used : Int) ∧ n ≤ 9223372036854775807 ∧ i < n ∧ n ≤ f ∧ path.drop used = ps ∧ used ≤ pq ∧ y.length ≤ 1000000 ∧ Tr.climb N N I (Tr.leaf t) path = Tr.climb f n i y ps ∧ Chg [] w wr) (fun a _ _ _ _ => (intOf a).toNat)
  case atStart => exact ⟨N, N, I, 0, path, Tr.leaf t, rfl, rfl, rfl, rfl, hN, hIN, Nat.le_refl _, rfl, Nat.zero_le _, by rw [Tr.leaf_len]; decide, rfl, HC.out⟩
  case round =>
    obtain ⟨f, n, i, used, ps, y, rfl, rfl, rfl, rfl, hn, hin, hnf, hdr, hus, hy, hcl, hC⟩ := hrel
    have HDR := Lib.hid hdr
    have HY := Lib.hid hy
    have HCL := Lib.hid hcl
    have HC1 := Lib.hid hC
    have HPL : Hid (ps.length = pq - used) := Lib.hid (by rw [← hdr, List.length_drop, HPQ.out])
    clear hdr hy hcl hC HC
    by_cases hn1 : n ≤ 1
    · have HE : Hid (Tr.check root (N : Int) (I : Int) t path = decide (ps = [] ∧ y = root)) := Lib.hid (by
        rw [HCK.out, HCL.out, Tr.climb_end _ _ _ _ _ hn1])
      by_cases hup : used = pq
      · have hub : ((used : Int) == (pq : Int)) = true := by rw [beq_iff_eq]; omega
        have hps : ps = [] := List.eq_nil_of_length_eq_zero (by rw [HPL.out]; omega)
        by_cases hyr : y = root
        · have hb : (y == root) = true := by simpa using hyr
          have HE2 : Hid (Tr.check root (N : Int) (I : Int) t path = true) := Lib.hid (by rw [HE.out]; exact decide_eq_true ⟨hps, hyr⟩)
          clear hyr hps hup
          go_wp2_with fail
          go_ret
          exact ⟨by rw [HE2.out]; rfl, HC1.out⟩
        · have hb : (y == root) = false := by simpa using hyr
          have HE2 : Hid (Tr.check root (N : Int) (I : Int) t path = false) := Lib.hid (by rw [HE.out]; exact decide_eq_false (fun h => hyr h.2))
          clear hyr hps hup
          go_wp2_with fail
          go_ret
          exact ⟨by rw [HE2.out]; rfl, HC1.out⟩
      · have hub : ((used : Int) == (pq : Int)) = false := by rw [beq_eq_false_iff_ne]; omega
        have HE2 : Hid (Tr.check root (N : Int) (I : Int) t path = false) := Lib.hid (by
          rw [HE.out]
          exact decide_eq_false (fun h => hup (by
            have h2 := HPL.out
            rw [h.1, List.length_nil] at h2
            omega)))
        clear hup
        go_wp2_with fail
        go_ret
        exact ⟨by rw [HE2.out]; rfl, HC1.out⟩
    · obtain ⟨f, rfl⟩ : ∃ f', f = f' + 1 := ⟨f - 1, by omega⟩
      have hot := other_eq i
      obtain ⟨s, hs⟩ : ∃ s, s = Tr.sib i := ⟨_, rfl⟩
      rw [← hs] at hot
      have HSI := Lib.hid hs
      have HN1 := Lib.hid hn1
      have hn1' : 1 < n := by omega
      have hk0 : (0 : Int) ≤ (i : Int) := by omega
      have hk2 : (i : Int) % 2 ≤ 1 := by omega
      have hk3 : (0 : Int) ≤ (i : Int) % 2 := by omega
      clear hs hn1
      by_cases hsn : n ≤ s
      · have HSN := Lib.hid (Tr.climb_skip f n i y ps HN1.out (by rw [← HSI.out]; exact hsn))
        have hsn2 : ¬ (s : Int) < (n : Int) := by omega
        go_wp2_with fail
        go_roundw
        case rel => exact ⟨f, n - n / 2, i / 2, used, ps, y, by go_num, by go_num, rfl, rfl, by omega, by omega, by omega, HDR.out, hus, HY.out, by rw [HCL.out, HSN.out], HC1.out⟩
        case measure => simp [intOf]; omega
      · have hsn2 : (s : Int) < (n : Int) := by omega
        cases ps with
        | nil =>
          have HE : Hid (Tr.check root (N : Int) (I : Int) t path = false) := Lib.hid (by
            rw [HCK.out, HCL.out, Tr.climb_stop f n i y HN1.out (by rw [← HSI.out]; exact hsn)])
          have hup : ((used : Int) == (pq : Int)) = true := by
            have h2 := HPL.out
            rw [List.length_nil] at h2
            rw [beq_iff_eq]; omega
          go_wp2_with fail
          go_ret
          exact ⟨by rw [HE.out]; rfl, HC1.out⟩
        | cons p ps =>
          have HSN := Lib.hid (Tr.climb_go f n i y p ps HN1.out (by rw [← HSI.out]; exact hsn))
          have hup2 : used < pq := by
            have h2 := HPL.out
            rw [List.length_cons] at h2
            omega
          have hup : ((used : Int) == (pq : Int)) = false := by rw [beq_eq_false_iff_ne]; omega
          have hpe : path[used]? = some p := by
            have := congrArg (fun z => z[0]?) HDR.out
            simpa using this
          have HD2 : Hid (path.drop (used + 1) = ps) := Lib.hid (by
            have := congrArg (List.drop 1) HDR.out
            rwa [List.drop_drop, List.drop_succ_cons, List.drop_zero] at this)
          have hpel : p.length ≤ 1000000 := HB.out p (List.mem_of_getElem? hpe)
          obtain ⟨pg, poff, rfl, pc⟩ := HUE.out used p hpe
          have pc1 := (World.cell?_of_block (HC1.out.block pg (World.block_lt_of_cell? _ _ pc) (by simp))).trans pc
          clear hpe pc
          by_cases hi2 : i % 2 = 0
          · have his : (i : Int) < (s : Int) := by
              have := HSI.out
              unfold Tr.sib at this
              rw [if_pos hi2] at this
              omega
            have HI2 := Lib.hid hi2
            clear hi2
            go_wp2_with fail
            refine (rnode_spec _ y p HY.out hpel).mono ?_
            rintro e w5 ⟨rfl, hc⟩
            have HC5 := Lib.hid (HC1.out.trans hc (by simp))
            clear hc pc1
            go_wp2_with fail
            go_roundw
            case rel => exact ⟨f, n - n / 2, i / 2, used + 1, ps, _, by go_num, by go_num, rfl, by go_num, by omega, by omega, by omega, HD2.out, by omega, node_le _ _, by rw [HCL.out, HSN.out, if_pos HI2.out], HC5.out⟩
            case measure => simp [intOf]; omega
          · have his : ¬ (i : Int) < (s : Int) := by
              have := HSI.out
              unfold Tr.sib at this
              rw [if_neg hi2] at this
              omega
            have HI2 := Lib.hid hi2
            clear hi2
            go_wp2_with fail
            refine (rnode_spec _ p y hpel HY.out).mono ?_
            rintro e w5 ⟨rfl, hc⟩
            have HC5 := Lib.hid (HC1.out.trans hc (by simp))
            clear hc pc1
            go_wp2_with fail
            go_roundw
            case rel => exact ⟨f, n - n / 2, i / 2, used + 1, ps, _, by go_num, by go_num, rfl, by go_num, by omega, by omega, by omega, HD2.out, by omega, node_le _ _, by rw [HCL.out, HSN.out, if_neg HI2.out], HC5.out⟩
            case measure => simp [intOf]; omega
theorem check_any (w : World) (HL : Hid (Laid w)) (root t : Bytes) (n i : Int) (path : List Bytes) (v : Value) (HV : Hid (Strs w v path)) (ht : t.length ≤ 1000000) (hp : path.length ≤ 1000000) (HB : Hid (∀ x ∈ path, x.length ≤ 1000000)) (hn : n ≤ 9223372036854775807) :
    Calls Tryd.prog 16 #[.string ⟨root.toArray⟩, .int .i64 n, .int .i64 i, .string ⟨t.toArray⟩, v] w fun e w' => e = .returned (.bool (Tr.check root n i t path)) ∧ Chg [] w w' := by
  by_cases h : n < 1 ∨ i < 0 ∨ n ≤ i
  · have hf : Tr.check root n i t path = false := by unfold Tr.check; rw [if_pos h]
    rw [hf]
    exact check_out w _ n i _ v h
  · obtain ⟨N, rfl⟩ : ∃ N : Nat, n = (N : Int) := ⟨n.toNat, by omega⟩
    obtain ⟨I, rfl⟩ : ∃ I : Nat, i = (I : Int) := ⟨i.toNat, by omega⟩
    exact check_in w HL root t N I path v HV ht hp HB (by omega) (by omega)
theorem rcheck_any (w : World) (root t : Bytes) (n i : Int) (path : List Bytes) (v : Value) (HV : Hid (Strs w v path)) (ht : t.length ≤ 1000000) (hp : path.length ≤ 1000000) (HB : Hid (∀ x ∈ path, x.length ≤ 1000000)) (hn : n ≤ 9223372036854775807) :
    Calls Tryd.prog 17 #[.string ⟨root.toArray⟩, .int .i64 n, .int .i64 i, .string ⟨t.toArray⟩, v] w fun e w' => e = .returned (.bool (Tr.check root n i t path)) ∧ Chg [] w w' := by
  by_cases h : n < 1 ∨ i < 0 ∨ n ≤ i
  · have hf : Tr.check root n i t path = false := by unfold Tr.check; rw [if_pos h]
    rw [hf]
    exact rcheck_out w _ n i _ v h
  · obtain ⟨N, rfl⟩ : ∃ N : Nat, n = (N : Int) := ⟨n.toNat, by omega⟩
    obtain ⟨I, rfl⟩ : ∃ I : Nat, i = (I : Int) := ⟨i.toNat, by omega⟩
    exact rcheck_in w root t N I path v HV ht hp HB (by omega) (by omega)
def Tr.pcode (l : List Bytes) (i : Int) : Int := if 0 ≤ i ∧ i < l.length then 0 else 1
def Tr.pans (l : List Bytes) (i : Int) : List Bytes := if 0 ≤ i ∧ i < l.length then Tr.path l i.toNat else []
/-- What Path answers: a list, and whether there is such an element. -/
def PathAns (l : List Bytes) (i : Int) (e : Ending) (w' : World) : Prop := ∃ u, e = .returned (.tuple #[u, .int .i64 (Tr.pcode l i)]) ∧ Strs w' u (Tr.pans l i)
theorem path_any (w : World) (HL : Hid (Laid w)) (v : Value) (l : List Bytes) (HV : Hid (Strs w v l)) (hl : l.length ≤ 60) (HB : Hid (∀ x ∈ l, x.length ≤ 1000000)) (i : Int) :
    Calls Tryd.prog 11 #[v, .int .i64 i] w fun e w' => PathAns l i e w' ∧ Chg [] w w' := by
  by_cases h : 0 ≤ i ∧ i < l.length
  · obtain ⟨I, rfl⟩ : ∃ I : Nat, i = (I : Int) := ⟨i.toNat, by omega⟩
    refine (path_in w HL v l HV (by omega) HB I (by omega)).mono ?_
    rintro e w' ⟨⟨u, rfl, hs⟩, hc⟩
    exact ⟨⟨u, by rw [Tr.pcode, if_pos h], by rw [Tr.pans, if_pos h]; exact hs⟩, hc⟩
  · refine (path_out w v l HV (by omega) i (by omega)).mono ?_
    rintro e w' ⟨rfl, hc⟩
    exact ⟨⟨_, by rw [Tr.pcode, if_neg h], by rw [Tr.pans, if_neg h]; exact Strs.nil _⟩, hc⟩
theorem rpath_any (w : World) (v : Value) (l : List Bytes) (HV : Hid (Strs w v l)) (hl : l.length ≤ 60) (HB : Hid (∀ x ∈ l, x.length ≤ 1000000)) (i : Int) :
    Calls Tryd.prog 12 #[v, .int .i64 i] w fun e w' => PathAns l i e w' ∧ Chg [] w w' := by
  by_cases h : 0 ≤ i ∧ i < l.length
  · obtain ⟨I, rfl⟩ : ∃ I : Nat, i = (I : Int) := ⟨i.toNat, by omega⟩
    refine (rpath_in w v l HV (by omega) HB I (by omega)).mono ?_
    rintro e w' ⟨⟨u, rfl, hs⟩, hc⟩
    exact ⟨⟨u, by rw [Tr.pcode, if_pos h], by rw [Tr.pans, if_pos h]; exact hs⟩, hc⟩
  · refine (rpath_out w v l HV (by omega) i (by omega)).mono ?_
    rintro e w' ⟨rfl, hc⟩
    exact ⟨⟨_, by rw [Tr.pcode, if_neg h], by rw [Tr.pans, if_neg h]; exact Strs.nil _⟩, hc⟩
end Go.Proofs.YtpeehlflhnhhjaaDoor
