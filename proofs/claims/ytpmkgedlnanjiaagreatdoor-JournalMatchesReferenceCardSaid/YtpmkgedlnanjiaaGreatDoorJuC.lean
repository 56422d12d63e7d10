/-
  Journal: the reference's records of a text.
-/
import Derived.Test.YtpmkgedlnanjiaaGreatDoorJuB
namespace Go.Proofs.YtpmkgedlnanjiaaGreatDoor
set_option linter.unusedVariables false
set_option linter.unusedSimpArgs false
set_option maxRecDepth 100000
open Go Go.RowKit
attribute [local go_sem ↓] Go.wp_at_zero Go.wp_at_succ
attribute [local irreducible] Go.wpStill
/-- An operation that is not wanted is passed. -/
theorem tn {P : Program} {ops : Array Oper} {Q : Exit → Act → World → Prop} {S : World → Prop} {md : Region.Mode} {oi : Oper} {fuel : Nat} {listed : Array Bool} {a : Act} {w : World} (i : Nat)
    (h : wpAnyH P md ops Q S fuel (listed.setIfInBounds i true) (a.put oi.dst undef) w)
    (hi : ops[i]? = some oi := by rfl) (hs : Region.noSelect ops = true := by kernel_rfl) (hf : Region.free md ops listed i = true := by kernel_rfl) (hr : (Region.ready md ops listed).contains i = true := by kernel_rfl)
    (hw : Region.wanted oi (yielded ops a.tmps) = false := by kernel_rfl)
    (hQ : ∀ c a w, Q (.panic c) (a.put oi.dst undef) w → Q (.panic c) a w := by exact fun _ _ _ h => h) (hS : S w := by assumption) : wpAnyH P md ops Q S (fuel + 1) listed a w :=
  wpAnyH_take hi hs hf hr hQ (Or.inr ⟨hw, rfl⟩) hS h
namespace Jn
theorem map_two {o : Option (List Bytes)} {ps : List Bytes} {x : Bytes} : (o.map (fun l => x :: l)).map (fun l => ps ++ l) = o.map (fun l => (ps ++ [x]) ++ l) := by
  cases o with
  | none => rfl
  | some l => simp
end Jn
/-- What Parse answers. -/
def Parsed44 (w : World) (o : Option (List Bytes)) (R : Ending → World → Prop) : Prop :=
  (o = none → ∀ w', Chg [] w w' → R (.returned (.tuple #[.slice none 0 0, .bool false])) w') ∧ ∀ l, o = some l → ∀ v w', OwT w.heap.size l v w' → Chg [] w w' → R (.returned (.tuple #[v, .bool true])) w'
set_option maxHeartbeats 4000000 in
theorem rparse_r {w : World} (s : Bytes) (hs : s.length ≤ 100000) {R : Ending → World → Prop} (h : Hid (Parsed44 w (Jn.records s) R)) :
    Calls Tryz.prog 57 #[.string ⟨s.toArray⟩] w R := by
  have HRR := h
  clear h
  obtain ⟨B, hB⟩ : ∃ B, B = w.heap.size := ⟨_, rfl⟩
  have HBB := Lib.hid hB
  clear hB
  go_enter Tryz.func57, Tryz.ntmps57
  go_wp2_with fail
  go_loopw [0, 4] (fun sv vv wr => ∃ (r : Bytes) (ps : List Bytes) (ao : Option Addr) (cp : Nat), sv = .string ⟨r.toArray⟩ ∧ vv = .slice ao ps.length cp ∧ Hid (OwT B ps (.slice ao ps.length cp) wr) ∧ Hid (Chg [] w wr) ∧ Hid (Jn.records s = (Jn.records r).map (fun l => ps ++ l)) ∧ ps.length + r.length ≤ 100000) (fun sv _ _ => sLen sv)
  case atStart => exact ⟨s, [], none, 0, rfl, rfl, Lib.hid (OwT.nil _ _), Lib.hid (Chg.refl _ _), Lib.hid (by cases Jn.records s <;> simp), by simpa using hs⟩
  case round =>
    rename World => wo
    obtain ⟨r, ps, ao, cp, rfl, rfl, HO, HC, HP, hl⟩ := hrel
    obtain ⟨n, hn⟩ : ∃ n, n = r.length := ⟨_, rfl⟩
    have hsz : (⟨r.toArray⟩ : ByteArray).size = n := by rw [hn]; rfl
    have HN := Lib.hid hn
    rw [← hn] at hl
    by_cases hr : r = []
    · have hn0 : n = 0 := by rw [hn, hr]; rfl
      subst hr
      have z0 : ¬ 0 < (n : Int) := by omega
      clear hn
      go_wp2_with fail
      refine HRR.out.2 ps ?_ _ wo ?_ HC.out
      · rw [HP.out, Jn.records_nil]; simp
      · rw [← HBB.out]; exact HO.out
    have HR0 := Lib.hid hr
    have hn0 : 0 < n := by rw [hn]; exact List.length_pos_iff.2 hr
    have z0 : (0 : Int) < (n : Int) := by omega
    clear hn hr
    have HNO : Hid (Jn.records r = none → R (.returned (.tuple #[.slice none 0 0, .bool false])) wo) := Lib.hid (fun h => HRR.out.1 (by rw [HP.out, h]; rfl) wo HC.out)
    go_wp2_with fail
    go_loopw [5] (fun iv wr => ∃ k : Nat, k ≤ n ∧ k ≤ 5 ∧ iv = .int .i64 (k : Int) ∧ wr = wo ∧ Hid (∀ i, i < k → r[i]? ≠ some 58)) (fun iv _ => n - (intOf iv).toNat)
    case atStart => exact ⟨0, Nat.zero_le _, Nat.zero_le _, rfl, rfl, Lib.hid (fun i h => by omega)⟩
    case round =>
      obtain ⟨k, hk, hk5, rfl, rfl, HA⟩ := hrel
      have y0 : (0 : Int) ≤ (k : Int) := by omega
      by_cases hlt : k < n
      rotate_left
      · have z1 : ¬ (k : Int) < (n : Int) := by omega
        have z2 : (n : Int) ≤ (k : Int) := by omega
        have HNN : Hid (Jn.records r = none) := Lib.hid (Jn.records_none HR0.out (k := k) HA.out (.inl (by rw [← HN.out]; omega)))
        go_wp2_with fail
        exact HNO.out HNN.out
      have z1 : (k : Int) < (n : Int) := by omega
      have z2 : ¬ (n : Int) ≤ (k : Int) := by omega
      obtain ⟨c, hx⟩ : ∃ c, r[k]? = some c := ⟨r[k]'(by rw [← HN.out]; exact hlt), by simp⟩
      have hkx : k < (⟨r.toArray⟩ : ByteArray).size := by rw [hsz]; exact hlt
      have hbx := byte_of hx hkx
      have HX := Lib.hid hx
      clear hx
      by_cases h58 : c = 58
      rotate_left
      · have q1 : ((c.toNat : Int) == 58) = false := by
          rw [beq_eq_false_iff_ne]
          intro e
          exact h58 (UInt8.toNat_inj.1 (by show c.toNat = 58; omega))
        have q2 : ((c.toNat : Int) != 58) = true := by rw [bne, q1]; rfl
        have HA2 : Hid (∀ i, i < k + 1 → r[i]? ≠ some 58) := Lib.hid (fun i hi => by
          by_cases e : i = k
          · rw [e, HX.out]
            intro e2
            injection e2 with e2
            exact h58 e2
          · exact HA.out i (by omega))
        by_cases h5 : k < 5
        · have z3 : (k : Int) < 5 := by omega
          clear h58
          go_wp2_with fail
          go_roundw
          case rel => exact ⟨k + 1, by omega, by omega, by go_num, trivial, HA2⟩
          case measure => simp [intOf]; omega
        · have z3 : ¬ (k : Int) < 5 := by omega
          have HNN : Hid (Jn.records r = none) := Lib.hid (Jn.records_none HR0.out (k := k) HA.out (.inr ⟨by omega, by rw [show 5 = k by omega, HX.out]; intro e2; injection e2 with e2; exact h58 e2⟩))
          clear h58
          go_wp2_with fail
          exact HNO.out HNN.out
      subst h58
      have HCO := Lib.hid (Jn.records_colon HA.out HX.out)
      have q1 : (((58 : UInt8).toNat : Int) == 58) = true := by decide
      have q2 : (((58 : UInt8).toNat : Int) != 58) = false := by decide
      have HEX : Hid ((⟨r.toArray⟩ : ByteArray).extract 0 k = ⟨(r.take k).toArray⟩) := Lib.hid (cutTo44 (Lib.hid rfl) k)
      have hle : (k : Int) ≤ (n : Int) := by omega
      by_cases h5 : k < 5
      · have z3 : (k : Int) < 5 := by omega
        go_wp2_with fail
        rw [HEX.out]
        refine rnumber_r (r.take k) (by rw [List.length_take]; omega) ?_
        cases hv : Jn.numR (r.take k) with
        | none =>
          rw [hv] at HCO
          have HNN : Hid (Jn.records r = none) := HCO
          clear hv
          rw [show Jn.oi none = -1 from rfl]
          go_upto_region 9 with (fail)
          refine wp_region_held_drew (S := fun W' => Chg [] wr W') (by kernel_rfl) ((Chg.refl _ _).drew) (fun hHeld => ?_)
          obtain ⟨wd, hwd⟩ : ∃ x, x = wr.drew := ⟨_, rfl⟩
          rw [← hwd] at hHeld ⊢
          have CD : Hid (Chg [] wr wd) := Lib.hid hHeld
          clear hwd
          refine tk 0 ?vx1 ?hyx1 ?rsx1
          case hyx1 => (intro w9 hSw; go_simp; try with_reducible rfl)
          try simp only [qq]
          refine tk 1 ?vx2 ?hyx2 ?rsx2
          case hyx2 => (intro w9 hSw; go_simp; try with_reducible rfl)
          try simp only [qq]
          refine tk 2 ?vx3 ?hyx3 ?rsx3
          case hyx3 => (intro w9 hSw; go_simp; try with_reducible rfl)
          try simp only [qq]
          refine tn 3 ?_
          try simp only [qq]
          refine tn 4 ?_
          try simp only [qq]
          refine tk 5 ?vx4 ?hyx4 ?rsx4
          case hyx4 => (intro w9 hSw; go_simp; try with_reducible rfl)
          try simp only [qq]
          refine tk 6 ?vx5 ?hyx5 ?rsx5
          case hyx5 => (intro w9 hSw; go_simp; try with_reducible rfl)
          try simp only [qq]
          refine tn 7 ?_
          try simp only [qq]
          refine tn 8 ?_
          try simp only [qq]
          refine tn 9 ?_
          try simp only [qq]
          refine tn 10 ?_
          try simp only [qq]
          refine tn 11 ?_
          try simp only [qq]
          refine tn 12 ?_
          try simp only [qq]
          refine tk 13 ?vx6 ?hyx6 ?rsx6
          case hyx6 => (intro w9 hSw; go_simp; try with_reducible rfl)
          try simp only [qq]
          refine tk 14 ?vx7 ?hyx7 ?rsx7
          case hyx7 => (intro w9 hSw; go_simp; try with_reducible rfl)
          try simp only [qq]
          refine tn 15 ?_
          try simp only [qq]
          refine tn 16 ?_
          try simp only [qq]
          refine tn 17 ?_
          try simp only [qq]
          refine tn 18 ?_
          try simp only [qq]
          refine tn 19 ?_
          try simp only [qq]
          refine tn 20 ?_
          try simp only [qq]
          refine tn 21 ?_
          try simp only [qq]
          refine tk 22 ?vx8 ?hyx8 ?rsx8
          case hyx8 => (intro w9 hSw; go_simp; try with_reducible rfl)
          try simp only [qq]
          refine wpAnyH_done (by kernel_rfl) ?_ _
          try simp only [qq]
          clear hHeld
          go_wp2_with fail
          exact HRR.out.1 (by rw [HP.out, HNN.out]; rfl) _ (HC.out.trans CD.out (by simp))
        | some v =>
          have HV := Lib.hid hv
          rw [hv] at HCO
          have HCO : Hid (Jn.records r = if v ≤ 2000 ∧ Lib.itoa (v : Int) = r.take k ∧ k + 1 + v ≤ r.length then (Jn.records (r.drop (k + 1 + v))).map (fun l => (r.drop (k + 1)).take v :: l) else none) := HCO
          have hv8 : v < 100000 := by
            obtain ⟨h1, h2⟩ := Jn.numR_some hv
            have h3 := Jn.val_lt _ h1
            rw [h2, List.length_take] at h3
            have h4 : (10 : Nat) ^ (min k r.length) ≤ 10 ^ 5 := Nat.pow_le_pow_right (by decide) (by omega)
            have h5 : (10 : Nat) ^ 5 = 100000 := rfl
            omega
          clear hv
          rw [show Jn.oi (some v) = (v : Int) from rfl]
          have q5 : ¬ (v : Int) < 0 := by omega
          have d0 : decide ((v : Int) < 0) = false := decide_eq_false q5
          by_cases h2k : 2000 < v
          · have q6 : (2000 : Int) < (v : Int) := by omega
            have d1 : decide ((2000 : Int) < (v : Int)) = true := decide_eq_true q6
            have HNN : Hid (Jn.records r = none) := Lib.hid (by rw [HCO.out, if_neg (by omega)])
            go_upto_region 9 with (fail)
            refine wp_region_held_drew (S := fun W' => Chg [] wr W') (by kernel_rfl) ((Chg.refl _ _).drew) (fun hHeld => ?_)
            obtain ⟨wd, hwd⟩ : ∃ x, x = wr.drew := ⟨_, rfl⟩
            rw [← hwd] at hHeld ⊢
            have CD : Hid (Chg [] wr wd) := Lib.hid hHeld
            clear hwd
            refine tk 0 ?vx9 ?hyx9 ?rsx9
            case hyx9 => (intro w9 hSw; go_simp; try with_reducible rfl)
            try simp only [qq]
            refine tk 1 ?vx10 ?hyx10 ?rsx10
            case hyx10 => (intro w9 hSw; go_simp; try with_reducible rfl)
            try simp only [qq]
            refine tk 2 ?vx11 ?hyx11 ?rsx11
            case hyx11 => (intro w9 hSw; go_simp; try with_reducible rfl)
            try simp only [qq]
            refine tk 3 ?vx12 ?hyx12 ?rsx12
            case hyx12 => (intro w9 hSw; go_simp; try with_reducible rfl)
            try simp only [qq]
            refine tk 4 ?vx13 ?hyx13 ?rsx13
            case hyx13 => (intro w9 hSw; go_simp; try with_reducible rfl)
            try simp only [qq]
            refine tk 5 ?vx14 ?hyx14 ?rsx14
            case hyx14 => (intro w9 hSw; go_simp; try with_reducible rfl)
            try simp only [qq]
            refine tk 6 ?vx15 ?hyx15 ?rsx15
            case hyx15 => (intro w9 hSw; go_simp; try with_reducible rfl)
            try simp only [qq]
            refine tn 7 ?_
            try simp only [qq]
            refine tn 8 ?_
            try simp only [qq]
            refine tn 9 ?_
            try simp only [qq]
            refine tn 10 ?_
            try simp only [qq]
            refine tn 11 ?_
            try simp only [qq]
            refine tn 12 ?_
            try simp only [qq]
            refine tk 13 ?vx16 ?hyx16 ?rsx16
            case hyx16 => (intro w9 hSw; go_simp; try with_reducible rfl)
            try simp only [qq]
            refine tk 14 ?vx17 ?hyx17 ?rsx17
            case hyx17 => (intro w9 hSw; go_simp; try with_reducible rfl)
            try simp only [qq]
            refine tn 15 ?_
            try simp only [qq]
            refine tn 16 ?_
            try simp only [qq]
            refine tn 17 ?_
            try simp only [qq]
            refine tn 18 ?_
            try simp only [qq]
            refine tn 19 ?_
            try simp only [qq]
            refine tn 20 ?_
            try simp only [qq]
            refine tn 21 ?_
            try simp only [qq]
            refine tk 22 ?vx18 ?hyx18 ?rsx18
            case hyx18 => (intro w9 hSw; go_simp; try with_reducible rfl)
            try simp only [qq]
            refine wpAnyH_done (by kernel_rfl) ?_ _
            try simp only [qq]
            clear hHeld
            go_wp2_with fail
            exact HRR.out.1 (by rw [HP.out, HNN.out]; rfl) _ (HC.out.trans CD.out (by simp))
          have q6 : ¬ (2000 : Int) < (v : Int) := by omega
          have d1 : decide ((2000 : Int) < (v : Int)) = false := decide_eq_false q6
          obtain ⟨k1, hk1⟩ : ∃ z, z = k + 1 := ⟨_, rfl⟩
          obtain ⟨e, hE⟩ : ∃ z, z = k1 + v := ⟨_, rfl⟩
          have y1 : IntKind.i64.wrap ((k : Int) + 1) = (k1 : Int) := by rw [IntWalk.i64_in _ (by omega)]; omega
          have y2 : IntKind.i64.wrap ((k1 : Int) + (v : Int)) = (e : Int) := by rw [IntWalk.i64_in _ (by omega)]; omega
          have HK1 := Lib.hid hk1
          have HE1 := Lib.hid hE
          clear hk1 hE
          obtain ⟨kb, hkb⟩ : ∃ z, z = (⟨r.toArray⟩ : ByteArray).extract 0 k := ⟨_, rfl⟩
          have HKB : Hid (kb = ⟨(r.take k).toArray⟩) := Lib.hid (by rw [hkb, HEX.out])
          have HKQ := Lib.hid hkb
          clear hkb
          go_upto_region 9 with (fail)
          refine wp_region_held_drew (S := fun W' => Chg [] wr W') (by kernel_rfl) ((Chg.refl _ _).drew) (fun hHeld => ?_)
          obtain ⟨wd, hwd⟩ : ∃ x, x = wr.drew := ⟨_, rfl⟩
          rw [← hwd] at hHeld ⊢
          have CD : Hid (Chg [] wr wd) := Lib.hid hHeld
          clear hwd
          refine tk 0 ?vx19 ?hyx19 ?rsx19
          case hyx19 => (intro w9 hSw; go_simp; try with_reducible rfl)
          try simp only [qq]
          refine tk 1 ?vx20 ?hyx20 ?rsx20
          case hyx20 => (intro w9 hSw; go_simp; try with_reducible rfl)
          try simp only [qq]
          refine tk 2 ?vx21 ?hyx21 ?rsx21
          case hyx21 => (intro w9 hSw; go_simp; try with_reducible rfl)
          try simp only [qq]
          refine tk 3 ?vx22 ?hyx22 ?rsx22
          case hyx22 => (intro w9 hSw; go_simp; try with_reducible rfl)
          try simp only [qq]
          refine tk 4 ?vx23 ?hyx23 ?rsx23
          case hyx23 => (intro w9 hSw; go_simp; try with_reducible rfl)
          try simp only [qq]
          refine tk 5 ?vx24 ?hyx24 ?rsx24
          case hyx24 => (intro w9 hSw; go_simp; try with_reducible rfl)
          try simp only [qq]
          refine tk 6 ?vx25 ?hyx25 ?rsx25
          case hyx25 => (intro w9 hSw; go_simp; try with_reducible rfl)
          try simp only [qq]
          refine tk 7 ?vx26 ?hyx26 ?rsx26
          case hyx26 => (intro w9 hSw; go_simp; try with_reducible rfl)
          try simp only [qq]
          refine tk 9 ?vx27 ?hyx27 ?rsx27
          case hyx27 => (intro w9 hSw; go_simp; try with_reducible rfl)
          try simp only [qq]
          refine tk 10 ?vx28 ?hyx28 ?rsx28
          case hyx28 => (intro w9 hSw; go_simp; try with_reducible rfl)
          try simp only [qq]
          refine rd2 8 11 ?oa29 ?ob29
          case oa29 =>
            intro K hK
            go_simp
            refine (decimal_spec wd v (by omega)).mono ?_
            rintro e w3 ⟨rfl, rfl⟩
            obtain ⟨db, hdb⟩ : ∃ z : ByteArray, z = ⟨(Lib.itoa (v : Int)).toArray⟩ := ⟨_, rfl⟩
            rw [← hdb]
            have HDB := Lib.hid hdb
            clear hdb
            refine hK.out _ _ hHeld (fun hHeld => ?_)
            clear hK K
            try simp only [qq]
            refine rd1 11 (fun K hK => ?_)
            go_simp
            rw [← HKQ.out]
            refine hK.out _ _ hHeld (fun hHeld => ?_)
            clear hK K
            try simp only [qq]
            by_cases hs9 : Lib.itoa (v : Int) = r.take k
            · have dv : (!db.toList == kb.toList) = false := by rw [str_eq HDB.out HKB.out, decide_eq_true hs9]; rfl
              have HS9 := Lib.hid hs9
              clear hs9
              refine tk 12 ?vx30 ?hyx30 ?rsx30
              case hyx30 => (intro w9 hSw; go_simp; try with_reducible rfl)
              try simp only [qq]
              refine tk 13 ?vx31 ?hyx31 ?rsx31
              case hyx31 => (intro w9 hSw; go_simp; try with_reducible rfl)
              try simp only [qq]
              refine tk 14 ?vx32 ?hyx32 ?rsx32
              case hyx32 => (intro w9 hSw; go_simp; try with_reducible rfl)
              try simp only [qq]
              refine tk 15 ?vx33 ?hyx33 ?rsx33
              case hyx33 => (intro w9 hSw; go_simp; try with_reducible rfl)
              try simp only [qq]
              refine tk 16 ?vx34 ?hyx34 ?rsx34
              case hyx34 => (intro w9 hSw; go_simp; try with_reducible rfl)
              try simp only [qq]
              refine tk 17 ?vx35 ?hyx35 ?rsx35
              case hyx35 => (intro w9 hSw; go_simp; try with_reducible rfl)
              try simp only [qq]
              refine tk 18 ?vx36 ?hyx36 ?rsx36
              case hyx36 => (intro w9 hSw; go_simp; try with_reducible rfl)
              try simp only [qq]
              refine tk 19 ?vx37 ?hyx37 ?rsx37
              case hyx37 => (intro w9 hSw; go_simp; try with_reducible rfl)
              try simp only [qq]
              refine tk 20 ?vx38 ?hyx38 ?rsx38
              case hyx38 => (intro w9 hSw; go_simp; try with_reducible rfl)
              try simp only [qq]
              by_cases he9 : n < e
              · have d2 : decide ((n : Int) < (e : Int)) = true := decide_eq_true (by omega)
                refine tk 21 ?vx39 ?hyx39 ?rsx39
                case hyx39 => (intro w9 hSw; go_simp; try with_reducible rfl)
                try simp only [qq]
                refine tk 22 ?vx40 ?hyx40 ?rsx40
                case hyx40 => (intro w9 hSw; go_simp; try with_reducible rfl)
                try simp only [qq]
                refine wpAnyH_done (by kernel_rfl) ?_ _
                try simp only [qq]
                clear hHeld
                have HNN : Hid (Jn.records r = none) := Lib.hid (by rw [HCO.out, if_neg (fun h => by have h1 := h.2.2; rw [← HN.out] at h1; have h2 := HK1.out; have h3 := HE1.out; omega)])
                go_wp2_with fail
                exact HRR.out.1 (by rw [HP.out, HNN.out]; rfl) _ (HC.out.trans CD.out (by simp))
              have d2 : decide ((n : Int) < (e : Int)) = false := decide_eq_false (by omega)
              refine tk 21 ?vx41 ?hyx41 ?rsx41
              case hyx41 => (intro w9 hSw; go_simp; try with_reducible rfl)
              try simp only [qq]
              refine tk 22 ?vx42 ?hyx42 ?rsx42
              case hyx42 => (intro w9 hSw; go_simp; try with_reducible rfl)
              try simp only [qq]
              refine wpAnyH_done (by kernel_rfl) ?_ _
              try simp only [qq]
              clear hHeld
              have HK1b := HK1.out
              have HE1b := HE1.out
              have q7 : (k1 : Int) ≤ (e : Int) := by omega
              have q8 : (e : Int) ≤ (n : Int) := by omega
              have q9 : (0 : Int) ≤ (k1 : Int) := by omega
              clear HK1b HE1b
              have HRE : Hid (Jn.records r = (Jn.records (r.drop e)).map (fun l => (r.drop (k + 1)).take v :: l)) := Lib.hid (by rw [HCO.out, if_pos ⟨by omega, HS9.out, by rw [← HN.out]; have h2 := HK1.out; have h3 := HE1.out; omega⟩, show e = k + 1 + v by (have h2 := HK1.out; have h3 := HE1.out; omega)])
              obtain ⟨x, hx9⟩ : ∃ x, x = (r.drop (k + 1)).take v := ⟨_, rfl⟩
              rw [← hx9] at HRE
              have HX9 : Hid ((⟨r.toArray⟩ : ByteArray).extract k1 e = ⟨x.toArray⟩) := Lib.hid (by rw [cutMid44 (Lib.hid rfl) k1 e (by omega), hx9, show e - k1 = v by (have h3 := HE1.out; omega), HK1.out])
              have HXE : Hid ((⟨r.toArray⟩ : ByteArray).extract e n = ⟨(r.drop e).toArray⟩) := Lib.hid (cutFrom44 (Lib.hid rfl) e n (by rw [HN.out]; exact Nat.le_refl _))
              clear hx9
              have HCW : Hid (Chg [] wd (wd.alloc (.cells #[.string ((⟨r.toArray⟩ : ByteArray).extract k1 e)] 9))) := Lib.hid ((Chg.refl _ _).alloc _)
              have HXS : Hid (Strs (wd.alloc (.cells #[.string ((⟨r.toArray⟩ : ByteArray).extract k1 e)] 9)) (.slice (some ⟨wd.heap.size, 0, none⟩) 1 1) [x]) := Lib.hid (by rw [HX9.out]; exact strs_one wd x)
              have CX : Hid (Chg [] wr (wd.alloc (.cells #[.string ((⟨r.toArray⟩ : ByteArray).extract k1 e)] 9))) := Lib.hid (CD.out.trans HCW.out (by simp))
              have HOX := Lib.hid (HO.out.keep CX.out (by simp))
              have HBA : Hid (B ≤ (wd.alloc (.cells #[.string ((⟨r.toArray⟩ : ByteArray).extract k1 e)] 9)).heap.size) := Lib.hid (by have h1 := HC.out.size; have h2 := HBB.out; have h3 := CX.out.size; omega)
              go_wp2_with (at_builtin; go_loud (refine wpList_strs rfl (.tmp 63) (.tmp 72) rfl B ps (.slice ao ps.length cp) (by rfl) HOX.out [x] (.slice (some ⟨wd.heap.size, 0, none⟩) 1 1) (by rfl) HXS.out (by simp only [List.length_singleton]; omega) HBA.out ?kk))
              case kk =>
                intro v9 w9 h5 h6 h7
                have HO9 : Hid (OwT B (ps ++ [x]) v9 w9) := Lib.hid h5
                obtain ⟨a9, c9, rfl⟩ := h5.form
                have C9 : Hid (Chg [] w w9) := Lib.hid ((HC.out.trans CX.out (by simp)).trans h6 (fun q hq => .inr (by have := (HOX.out.ge q (Option.mem_toList.1 hq)).1; rw [← HBB.out]; exact this)))
                have HP9 : Hid (Jn.records s = (Jn.records (r.drop e)).map (fun l => (ps ++ [x]) ++ l)) := Lib.hid (by rw [HP.out, HRE.out, Jn.map_two])
                have HPL : Hid ((ps ++ [x]).length + (r.drop e).length ≤ 100000) := Lib.hid (by rw [List.length_append, List.length_singleton, List.length_drop, ← HN.out]; have h2 := HK1.out; have h3 := HE1.out; omega)
                have HSL : Hid ((r.drop e).length < n) := Lib.hid (by rw [List.length_drop, ← HN.out]; have h2 := HK1.out; have h3 := HE1.out; omega)
                clear h5 h6 h7
                obtain ⟨p2, hp2⟩ : ∃ z, z = ps ++ [x] := ⟨_, rfl⟩
                rw [← hp2] at HO9 HP9 HPL ⊢
                clear hp2
                go_wp2_with fail
                go_roundw
                case rel => exact ⟨r.drop e, p2, a9, c9, by rw [HXE.out], rfl, HO9, C9, HP9, HPL.out⟩
                case measure =>
                  have h8 := HSL.out
                  have h9 : (⟨(List.drop e r).toArray⟩ : ByteArray).size = (r.drop e).length := rfl
                  simp [sLen, HXE.out]
                  rw [h9, hsz]
                  exact h8
            · have dv : (!db.toList == kb.toList) = true := by rw [str_eq HDB.out HKB.out, decide_eq_false hs9]; rfl
              have HS9 := Lib.hid hs9
              clear hs9
              refine tk 12 ?vx43 ?hyx43 ?rsx43
              case hyx43 => (intro w9 hSw; go_simp; try with_reducible rfl)
              try simp only [qq]
              refine tk 13 ?vx44 ?hyx44 ?rsx44
              case hyx44 => (intro w9 hSw; go_simp; try with_reducible rfl)
              try simp only [qq]
              refine tk 14 ?vx45 ?hyx45 ?rsx45
              case hyx45 => (intro w9 hSw; go_simp; try with_reducible rfl)
              try simp only [qq]
              refine tn 15 ?_
              try simp only [qq]
              refine tn 16 ?_
              try simp only [qq]
              refine tn 17 ?_
              try simp only [qq]
              refine tn 18 ?_
              try simp only [qq]
              refine tn 19 ?_
              try simp only [qq]
              refine tn 20 ?_
              try simp only [qq]
              refine tn 21 ?_
              try simp only [qq]
              refine tk 22 ?vx46 ?hyx46 ?rsx46
              case hyx46 => (intro w9 hSw; go_simp; try with_reducible rfl)
              try simp only [qq]
              refine wpAnyH_done (by kernel_rfl) ?_ _
              try simp only [qq]
              clear hHeld
              have HNN : Hid (Jn.records r = none) := Lib.hid (by rw [HCO.out, if_neg (fun h => HS9.out h.2.1)])
              go_wp2_with fail
              exact HRR.out.1 (by rw [HP.out, HNN.out]; rfl) _ (HC.out.trans CD.out (by simp))
          case ob29 =>
            intro K hK
            go_simp
            rw [← HKQ.out]
            refine hK.out _ _ hHeld (fun hHeld => ?_)
            clear hK K
            try simp only [qq]
            refine rd1 8 (fun K hK => ?_)
            go_simp
            refine (decimal_spec wd v (by omega)).mono ?_
            rintro e w3 ⟨rfl, rfl⟩
            obtain ⟨db, hdb⟩ : ∃ z : ByteArray, z = ⟨(Lib.itoa (v : Int)).toArray⟩ := ⟨_, rfl⟩
            rw [← hdb]
            have HDB := Lib.hid hdb
            clear hdb
            refine hK.out _ _ hHeld (fun hHeld => ?_)
            clear hK K
            try simp only [qq]
            by_cases hs9 : Lib.itoa (v : Int) = r.take k
            · have dv : (!db.toList == kb.toList) = false := by rw [str_eq HDB.out HKB.out, decide_eq_true hs9]; rfl
              have HS9 := Lib.hid hs9
              clear hs9
              refine tk 12 ?vx47 ?hyx47 ?rsx47
              case hyx47 => (intro w9 hSw; go_simp; try with_reducible rfl)
              try simp only [qq]
              refine tk 13 ?vx48 ?hyx48 ?rsx48
              case hyx48 => (intro w9 hSw; go_simp; try with_reducible rfl)
              try simp only [qq]
              refine tk 14 ?vx49 ?hyx49 ?rsx49
              case hyx49 => (intro w9 hSw; go_simp; try with_reducible rfl)
              try simp only [qq]
              refine tk 15 ?vx50 ?hyx50 ?rsx50
              case hyx50 => (intro w9 hSw; go_simp; try with_reducible rfl)
              try simp only [qq]
              refine tk 16 ?vx51 ?hyx51 ?rsx51
              case hyx51 => (intro w9 hSw; go_simp; try with_reducible rfl)
              try simp only [qq]
              refine tk 17 ?vx52 ?hyx52 ?rsx52
              case hyx52 => (intro w9 hSw; go_simp; try with_reducible rfl)
              try simp only [qq]
              refine tk 18 ?vx53 ?hyx53 ?rsx53
              case hyx53 => (intro w9 hSw; go_simp; try with_reducible rfl)
              try simp only [qq]
              refine tk 19 ?vx54 ?hyx54 ?rsx54
              case hyx54 => (intro w9 hSw; go_simp; try with_reducible rfl)
              try simp only [qq]
              refine tk 20 ?vx55 ?hyx55 ?rsx55
              case hyx55 => (intro w9 hSw; go_simp; try with_reducible rfl)
              try simp only [qq]
              by_cases he9 : n < e
              · have d2 : decide ((n : Int) < (e : Int)) = true := decide_eq_true (by omega)
                refine tk 21 ?vx56 ?hyx56 ?rsx56
                case hyx56 => (intro w9 hSw; go_simp; try with_reducible rfl)
                try simp only [qq]
                refine tk 22 ?vx57 ?hyx57 ?rsx57
                case hyx57 => (intro w9 hSw; go_simp; try with_reducible rfl)
                try simp only [qq]
                refine wpAnyH_done (by kernel_rfl) ?_ _
                try simp only [qq]
                clear hHeld
                have HNN : Hid (Jn.records r = none) := Lib.hid (by rw [HCO.out, if_neg (fun h => by have h1 := h.2.2; rw [← HN.out] at h1; have h2 := HK1.out; have h3 := HE1.out; omega)])
                go_wp2_with fail
                exact HRR.out.1 (by rw [HP.out, HNN.out]; rfl) _ (HC.out.trans CD.out (by simp))
              have d2 : decide ((n : Int) < (e : Int)) = false := decide_eq_false (by omega)
              refine tk 21 ?vx58 ?hyx58 ?rsx58
              case hyx58 => (intro w9 hSw; go_simp; try with_reducible rfl)
              try simp only [qq]
              refine tk 22 ?vx59 ?hyx59 ?rsx59
              case hyx59 => (intro w9 hSw; go_simp; try with_reducible rfl)
              try simp only [qq]
              refine wpAnyH_done (by kernel_rfl) ?_ _
              try simp only [qq]
              clear hHeld
              have HK1b := HK1.out
              have HE1b := HE1.out
              have q7 : (k1 : Int) ≤ (e : Int) := by omega
              have q8 : (e : Int) ≤ (n : Int) := by omega
              have q9 : (0 : Int) ≤ (k1 : Int) := by omega
              clear HK1b HE1b
              have HRE : Hid (Jn.records r = (Jn.records (r.drop e)).map (fun l => (r.drop (k + 1)).take v :: l)) := Lib.hid (by rw [HCO.out, if_pos ⟨by omega, HS9.out, by rw [← HN.out]; have h2 := HK1.out; have h3 := HE1.out; omega⟩, show e = k + 1 + v by (have h2 := HK1.out; have h3 := HE1.out; omega)])
              obtain ⟨x, hx9⟩ : ∃ x, x = (r.drop (k + 1)).take v := ⟨_, rfl⟩
              rw [← hx9] at HRE
              have HX9 : Hid ((⟨r.toArray⟩ : ByteArray).extract k1 e = ⟨x.toArray⟩) := Lib.hid (by rw [cutMid44 (Lib.hid rfl) k1 e (by omega), hx9, show e - k1 = v by (have h3 := HE1.out; omega), HK1.out])
              have HXE : Hid ((⟨r.toArray⟩ : ByteArray).extract e n = ⟨(r.drop e).toArray⟩) := Lib.hid (cutFrom44 (Lib.hid rfl) e n (by rw [HN.out]; exact Nat.le_refl _))
              clear hx9
              have HCW : Hid (Chg [] wd (wd.alloc (.cells #[.string ((⟨r.toArray⟩ : ByteArray).extract k1 e)] 9))) := Lib.hid ((Chg.refl _ _).alloc _)
              have HXS : Hid (Strs (wd.alloc (.cells #[.string ((⟨r.toArray⟩ : ByteArray).extract k1 e)] 9)) (.slice (some ⟨wd.heap.size, 0, none⟩) 1 1) [x]) := Lib.hid (by rw [HX9.out]; exact strs_one wd x)
              have CX : Hid (Chg [] wr (wd.alloc (.cells #[.string ((⟨r.toArray⟩ : ByteArray).extract k1 e)] 9))) := Lib.hid (CD.out.trans HCW.out (by simp))
              have HOX := Lib.hid (HO.out.keep CX.out (by simp))
              have HBA : Hid (B ≤ (wd.alloc (.cells #[.string ((⟨r.toArray⟩ : ByteArray).extract k1 e)] 9)).heap.size) := Lib.hid (by have h1 := HC.out.size; have h2 := HBB.out; have h3 := CX.out.size; omega)
              go_wp2_with (at_builtin; go_loud (refine wpList_strs rfl (.tmp 63) (.tmp 72) rfl B ps (.slice ao ps.length cp) (by rfl) HOX.out [x] (.slice (some ⟨wd.heap.size, 0, none⟩) 1 1) (by rfl) HXS.out (by simp only [List.length_singleton]; omega) HBA.out ?kk))
              case kk =>
                intro v9 w9 h5 h6 h7
                have HO9 : Hid (OwT B (ps ++ [x]) v9 w9) := Lib.hid h5
                obtain ⟨a9, c9, rfl⟩ := h5.form
                have C9 : Hid (Chg [] w w9) := Lib.hid ((HC.out.trans CX.out (by simp)).trans h6 (fun q hq => .inr (by have := (HOX.out.ge q (Option.mem_toList.1 hq)).1; rw [← HBB.out]; exact this)))
                have HP9 : Hid (Jn.records s = (Jn.records (r.drop e)).map (fun l => (ps ++ [x]) ++ l)) := Lib.hid (by rw [HP.out, HRE.out, Jn.map_two])
                have HPL : Hid ((ps ++ [x]).length + (r.drop e).length ≤ 100000) := Lib.hid (by rw [List.length_append, List.length_singleton, List.length_drop, ← HN.out]; have h2 := HK1.out; have h3 := HE1.out; omega)
                have HSL : Hid ((r.drop e).length < n) := Lib.hid (by rw [List.length_drop, ← HN.out]; have h2 := HK1.out; have h3 := HE1.out; omega)
                clear h5 h6 h7
                obtain ⟨p2, hp2⟩ : ∃ z, z = ps ++ [x] := ⟨_, rfl⟩
                rw [← hp2] at HO9 HP9 HPL ⊢
                clear hp2
                go_wp2_with fail
                go_roundw
                case rel => exact ⟨r.drop e, p2, a9, c9, by rw [HXE.out], rfl, HO9, C9, HP9, HPL.out⟩
                case measure =>
                  have h8 := HSL.out
                  have h9 : (⟨(List.drop e r).toArray⟩ : ByteArray).size = (r.drop e).length := rfl
                  simp [sLen, HXE.out]
                  rw [h9, hsz]
                  exact h8
            · have dv : (!db.toList == kb.toList) = true := by rw [str_eq HDB.out HKB.out, decide_eq_false hs9]; rfl
              have HS9 := Lib.hid hs9
              clear hs9
              refine tk 12 ?vx60 ?hyx60 ?rsx60
              case hyx60 => (intro w9 hSw; go_simp; try with_reducible rfl)
              try simp only [qq]
              refine tk 13 ?vx61 ?hyx61 ?rsx61
              case hyx61 => (intro w9 hSw; go_simp; try with_reducible rfl)
              try simp only [qq]
              refine tk 14 ?vx62 ?hyx62 ?rsx62
              case hyx62 => (intro w9 hSw; go_simp; try with_reducible rfl)
              try simp only [qq]
              refine tn 15 ?_
              try simp only [qq]
              refine tn 16 ?_
              try simp only [qq]
              refine tn 17 ?_
              try simp only [qq]
              refine tn 18 ?_
              try simp only [qq]
              refine tn 19 ?_
              try simp only [qq]
              refine tn 20 ?_
              try simp only [qq]
              refine tn 21 ?_
              try simp only [qq]
              refine tk 22 ?vx63 ?hyx63 ?rsx63
              case hyx63 => (intro w9 hSw; go_simp; try with_reducible rfl)
              try simp only [qq]
              refine wpAnyH_done (by kernel_rfl) ?_ _
              try simp only [qq]
              clear hHeld
              have HNN : Hid (Jn.records r = none) := Lib.hid (by rw [HCO.out, if_neg (fun h => HS9.out h.2.1)])
              go_wp2_with fail
              exact HRR.out.1 (by rw [HP.out, HNN.out]; rfl) _ (HC.out.trans CD.out (by simp))
      · have z3 : ¬ (k : Int) < 5 := by omega
        go_wp2_with fail
        rw [HEX.out]
        refine rnumber_r (r.take k) (by rw [List.length_take]; omega) ?_
        cases hv : Jn.numR (r.take k) with
        | none =>
          rw [hv] at HCO
          have HNN : Hid (Jn.records r = none) := HCO
          clear hv
          rw [show Jn.oi none = -1 from rfl]
          go_upto_region 9 with (fail)
          refine wp_region_held_drew (S := fun W' => Chg [] wr W') (by kernel_rfl) ((Chg.refl _ _).drew) (fun hHeld => ?_)
          obtain ⟨wd, hwd⟩ : ∃ x, x = wr.drew := ⟨_, rfl⟩
          rw [← hwd] at hHeld ⊢
          have CD : Hid (Chg [] wr wd) := Lib.hid hHeld
          clear hwd
          refine tk 0 ?vx64 ?hyx64 ?rsx64
          case hyx64 => (intro w9 hSw; go_simp; try with_reducible rfl)
          try simp only [qq]
          refine tk 1 ?vx65 ?hyx65 ?rsx65
          case hyx65 => (intro w9 hSw; go_simp; try with_reducible rfl)
          try simp only [qq]
          refine tk 2 ?vx66 ?hyx66 ?rsx66
          case hyx66 => (intro w9 hSw; go_simp; try with_reducible rfl)
          try simp only [qq]
          refine tn 3 ?_
          try simp only [qq]
          refine tn 4 ?_
          try simp only [qq]
          refine tk 5 ?vx67 ?hyx67 ?rsx67
          case hyx67 => (intro w9 hSw; go_simp; try with_reducible rfl)
          try simp only [qq]
          refine tk 6 ?vx68 ?hyx68 ?rsx68
          case hyx68 => (intro w9 hSw; go_simp; try with_reducible rfl)
          try simp only [qq]
          refine tn 7 ?_
          try simp only [qq]
          refine tn 8 ?_
          try simp only [qq]
          refine tn 9 ?_
          try simp only [qq]
          refine tn 10 ?_
          try simp only [qq]
          refine tn 11 ?_
          try simp only [qq]
          refine tn 12 ?_
          try simp only [qq]
          refine tk 13 ?vx69 ?hyx69 ?rsx69
          case hyx69 => (intro w9 hSw; go_simp; try with_reducible rfl)
          try simp only [qq]
          refine tk 14 ?vx70 ?hyx70 ?rsx70
          case hyx70 => (intro w9 hSw; go_simp; try with_reducible rfl)
          try simp only [qq]
          refine tn 15 ?_
          try simp only [qq]
          refine tn 16 ?_
          try simp only [qq]
          refine tn 17 ?_
          try simp only [qq]
          refine tn 18 ?_
          try simp only [qq]
          refine tn 19 ?_
          try simp only [qq]
          refine tn 20 ?_
          try simp only [qq]
          refine tn 21 ?_
          try simp only [qq]
          refine tk 22 ?vx71 ?hyx71 ?rsx71
          case hyx71 => (intro w9 hSw; go_simp; try with_reducible rfl)
          try simp only [qq]
          refine wpAnyH_done (by kernel_rfl) ?_ _
          try simp only [qq]
          clear hHeld
          go_wp2_with fail
          exact HRR.out.1 (by rw [HP.out, HNN.out]; rfl) _ (HC.out.trans CD.out (by simp))
        | some v =>
          have HV := Lib.hid hv
          rw [hv] at HCO
          have HCO : Hid (Jn.records r = if v ≤ 2000 ∧ Lib.itoa (v : Int) = r.take k ∧ k + 1 + v ≤ r.length then (Jn.records (r.drop (k + 1 + v))).map (fun l => (r.drop (k + 1)).take v :: l) else none) := HCO
          have hv8 : v < 100000 := by
            obtain ⟨h1, h2⟩ := Jn.numR_some hv
            have h3 := Jn.val_lt _ h1
            rw [h2, List.length_take] at h3
            have h4 : (10 : Nat) ^ (min k r.length) ≤ 10 ^ 5 := Nat.pow_le_pow_right (by decide) (by omega)
            have h5 : (10 : Nat) ^ 5 = 100000 := rfl
            omega
          clear hv
          rw [show Jn.oi (some v) = (v : Int) from rfl]
          have q5 : ¬ (v : Int) < 0 := by omega
          have d0 : decide ((v : Int) < 0) = false := decide_eq_false q5
          by_cases h2k : 2000 < v
          · have q6 : (2000 : Int) < (v : Int) := by omega
            have d1 : decide ((2000 : Int) < (v : Int)) = true := decide_eq_true q6
            have HNN : Hid (Jn.records r = none) := Lib.hid (by rw [HCO.out, if_neg (by omega)])
            go_upto_region 9 with (fail)
            refine wp_region_held_drew (S := fun W' => Chg [] wr W') (by kernel_rfl) ((Chg.refl _ _).drew) (fun hHeld => ?_)
            obtain ⟨wd, hwd⟩ : ∃ x, x = wr.drew := ⟨_, rfl⟩
            rw [← hwd] at hHeld ⊢
            have CD : Hid (Chg [] wr wd) := Lib.hid hHeld
            clear hwd
            refine tk 0 ?vx72 ?hyx72 ?rsx72
            case hyx72 => (intro w9 hSw; go_simp; try with_reducible rfl)
            try simp only [qq]
            refine tk 1 ?vx73 ?hyx73 ?rsx73
            case hyx73 => (intro w9 hSw; go_simp; try with_reducible rfl)
            try simp only [qq]
            refine tk 2 ?vx74 ?hyx74 ?rsx74
            case hyx74 => (intro w9 hSw; go_simp; try with_reducible rfl)
            try simp only [qq]
            refine tk 3 ?vx75 ?hyx75 ?rsx75
            case hyx75 => (intro w9 hSw; go_simp; try with_reducible rfl)
            try simp only [qq]
            refine tk 4 ?vx76 ?hyx76 ?rsx76
            case hyx76 => (intro w9 hSw; go_simp; try with_reducible rfl)
            try simp only [qq]
            refine tk 5 ?vx77 ?hyx77 ?rsx77
            case hyx77 => (intro w9 hSw; go_simp; try with_reducible rfl)
            try simp only [qq]
            refine tk 6 ?vx78 ?hyx78 ?rsx78
            case hyx78 => (intro w9 hSw; go_simp; try with_reducible rfl)
            try simp only [qq]
            refine tn 7 ?_
            try simp only [qq]
            refine tn 8 ?_
            try simp only [qq]
            refine tn 9 ?_
            try simp only [qq]
            refine tn 10 ?_
            try simp only [qq]
            refine tn 11 ?_
            try simp only [qq]
            refine tn 12 ?_
            try simp only [qq]
            refine tk 13 ?vx79 ?hyx79 ?rsx79
            case hyx79 => (intro w9 hSw; go_simp; try with_reducible rfl)
            try simp only [qq]
            refine tk 14 ?vx80 ?hyx80 ?rsx80
            case hyx80 => (intro w9 hSw; go_simp; try with_reducible rfl)
            try simp only [qq]
            refine tn 15 ?_
            try simp only [qq]
            refine tn 16 ?_
            try simp only [qq]
            refine tn 17 ?_
            try simp only [qq]
            refine tn 18 ?_
            try simp only [qq]
            refine tn 19 ?_
            try simp only [qq]
            refine tn 20 ?_
            try simp only [qq]
            refine tn 21 ?_
            try simp only [qq]
            refine tk 22 ?vx81 ?hyx81 ?rsx81
            case hyx81 => (intro w9 hSw; go_simp; try with_reducible rfl)
            try simp only [qq]
            refine wpAnyH_done (by kernel_rfl) ?_ _
            try simp only [qq]
            clear hHeld
            go_wp2_with fail
            exact HRR.out.1 (by rw [HP.out, HNN.out]; rfl) _ (HC.out.trans CD.out (by simp))
          have q6 : ¬ (2000 : Int) < (v : Int) := by omega
          have d1 : decide ((2000 : Int) < (v : Int)) = false := decide_eq_false q6
          obtain ⟨k1, hk1⟩ : ∃ z, z = k + 1 := ⟨_, rfl⟩
          obtain ⟨e, hE⟩ : ∃ z, z = k1 + v := ⟨_, rfl⟩
          have y1 : IntKind.i64.wrap ((k : Int) + 1) = (k1 : Int) := by rw [IntWalk.i64_in _ (by omega)]; omega
          have y2 : IntKind.i64.wrap ((k1 : Int) + (v : Int)) = (e : Int) := by rw [IntWalk.i64_in _ (by omega)]; omega
          have HK1 := Lib.hid hk1
          have HE1 := Lib.hid hE
          clear hk1 hE
          obtain ⟨kb, hkb⟩ : ∃ z, z = (⟨r.toArray⟩ : ByteArray).extract 0 k := ⟨_, rfl⟩
          have HKB : Hid (kb = ⟨(r.take k).toArray⟩) := Lib.hid (by rw [hkb, HEX.out])
          have HKQ := Lib.hid hkb
          clear hkb
          go_upto_region 9 with (fail)
          refine wp_region_held_drew (S := fun W' => Chg [] wr W') (by kernel_rfl) ((Chg.refl _ _).drew) (fun hHeld => ?_)
          obtain ⟨wd, hwd⟩ : ∃ x, x = wr.drew := ⟨_, rfl⟩
          rw [← hwd] at hHeld ⊢
          have CD : Hid (Chg [] wr wd) := Lib.hid hHeld
          clear hwd
          refine tk 0 ?vx82 ?hyx82 ?rsx82
          case hyx82 => (intro w9 hSw; go_simp; try with_reducible rfl)
          try simp only [qq]
          refine tk 1 ?vx83 ?hyx83 ?rsx83
          case hyx83 => (intro w9 hSw; go_simp; try with_reducible rfl)
          try simp only [qq]
          refine tk 2 ?vx84 ?hyx84 ?rsx84
          case hyx84 => (intro w9 hSw; go_simp; try with_reducible rfl)
          try simp only [qq]
          refine tk 3 ?vx85 ?hyx85 ?rsx85
          case hyx85 => (intro w9 hSw; go_simp; try with_reducible rfl)
          try simp only [qq]
          refine tk 4 ?vx86 ?hyx86 ?rsx86
          case hyx86 => (intro w9 hSw; go_simp; try with_reducible rfl)
          try simp only [qq]
          refine tk 5 ?vx87 ?hyx87 ?rsx87
          case hyx87 => (intro w9 hSw; go_simp; try with_reducible rfl)
          try simp only [qq]
          refine tk 6 ?vx88 ?hyx88 ?rsx88
          case hyx88 => (intro w9 hSw; go_simp; try with_reducible rfl)
          try simp only [qq]
          refine tk 7 ?vx89 ?hyx89 ?rsx89
          case hyx89 => (intro w9 hSw; go_simp; try with_reducible rfl)
          try simp only [qq]
          refine tk 9 ?vx90 ?hyx90 ?rsx90
          case hyx90 => (intro w9 hSw; go_simp; try with_reducible rfl)
          try simp only [qq]
          refine tk 10 ?vx91 ?hyx91 ?rsx91
          case hyx91 => (intro w9 hSw; go_simp; try with_reducible rfl)
          try simp only [qq]
          refine rd2 8 11 ?oa92 ?ob92
          case oa92 =>
            intro K hK
            go_simp
            refine (decimal_spec wd v (by omega)).mono ?_
            rintro e w3 ⟨rfl, rfl⟩
            obtain ⟨db, hdb⟩ : ∃ z : ByteArray, z = ⟨(Lib.itoa (v : Int)).toArray⟩ := ⟨_, rfl⟩
            rw [← hdb]
            have HDB := Lib.hid hdb
            clear hdb
            refine hK.out _ _ hHeld (fun hHeld => ?_)
            clear hK K
            try simp only [qq]
            refine rd1 11 (fun K hK => ?_)
            go_simp
            rw [← HKQ.out]
            refine hK.out _ _ hHeld (fun hHeld => ?_)
            clear hK K
            try simp only [qq]
            by_cases hs9 : Lib.itoa (v : Int) = r.take k
            · have dv : (!db.toList == kb.toList) = false := by rw [str_eq HDB.out HKB.out, decide_eq_true hs9]; rfl
              have HS9 := Lib.hid hs9
              clear hs9
              refine tk 12 ?vx93 ?hyx93 ?rsx93
              case hyx93 => (intro w9 hSw; go_simp; try with_reducible rfl)
              try simp only [qq]
              refine tk 13 ?vx94 ?hyx94 ?rsx94
              case hyx94 => (intro w9 hSw; go_simp; try with_reducible rfl)
              try simp only [qq]
              refine tk 14 ?vx95 ?hyx95 ?rsx95
              case hyx95 => (intro w9 hSw; go_simp; try with_reducible rfl)
              try simp only [qq]
              refine tk 15 ?vx96 ?hyx96 ?rsx96
              case hyx96 => (intro w9 hSw; go_simp; try with_reducible rfl)
              try simp only [qq]
              refine tk 16 ?vx97 ?hyx97 ?rsx97
              case hyx97 => (intro w9 hSw; go_simp; try with_reducible rfl)
              try simp only [qq]
              refine tk 17 ?vx98 ?hyx98 ?rsx98
              case hyx98 => (intro w9 hSw; go_simp; try with_reducible rfl)
              try simp only [qq]
              refine tk 18 ?vx99 ?hyx99 ?rsx99
              case hyx99 => (intro w9 hSw; go_simp; try with_reducible rfl)
              try simp only [qq]
              refine tk 19 ?vx100 ?hyx100 ?rsx100
              case hyx100 => (intro w9 hSw; go_simp; try with_reducible rfl)
              try simp only [qq]
              refine tk 20 ?vx101 ?hyx101 ?rsx101
              case hyx101 => (intro w9 hSw; go_simp; try with_reducible rfl)
              try simp only [qq]
              by_cases he9 : n < e
              · have d2 : decide ((n : Int) < (e : Int)) = true := decide_eq_true (by omega)
                refine tk 21 ?vx102 ?hyx102 ?rsx102
                case hyx102 => (intro w9 hSw; go_simp; try with_reducible rfl)
                try simp only [qq]
                refine tk 22 ?vx103 ?hyx103 ?rsx103
                case hyx103 => (intro w9 hSw; go_simp; try with_reducible rfl)
                try simp only [qq]
                refine wpAnyH_done (by kernel_rfl) ?_ _
                try simp only [qq]
                clear hHeld
                have HNN : Hid (Jn.records r = none) := Lib.hid (by rw [HCO.out, if_neg (fun h => by have h1 := h.2.2; rw [← HN.out] at h1; have h2 := HK1.out; have h3 := HE1.out; omega)])
                go_wp2_with fail
                exact HRR.out.1 (by rw [HP.out, HNN.out]; rfl) _ (HC.out.trans CD.out (by simp))
              have d2 : decide ((n : Int) < (e : Int)) = false := decide_eq_false (by omega)
              refine tk 21 ?vx104 ?hyx104 ?rsx104
              case hyx104 => (intro w9 hSw; go_simp; try with_reducible rfl)
              try simp only [qq]
              refine tk 22 ?vx105 ?hyx105 ?rsx105
              case hyx105 => (intro w9 hSw; go_simp; try with_reducible rfl)
              try simp only [qq]
              refine wpAnyH_done (by kernel_rfl) ?_ _
              try simp only [qq]
              clear hHeld
              have HK1b := HK1.out
              have HE1b := HE1.out
              have q7 : (k1 : Int) ≤ (e : Int) := by omega
              have q8 : (e : Int) ≤ (n : Int) := by omega
              have q9 : (0 : Int) ≤ (k1 : Int) := by omega
              clear HK1b HE1b
              have HRE : Hid (Jn.records r = (Jn.records (r.drop e)).map (fun l => (r.drop (k + 1)).take v :: l)) := Lib.hid (by rw [HCO.out, if_pos ⟨by omega, HS9.out, by rw [← HN.out]; have h2 := HK1.out; have h3 := HE1.out; omega⟩, show e = k + 1 + v by (have h2 := HK1.out; have h3 := HE1.out; omega)])
              obtain ⟨x, hx9⟩ : ∃ x, x = (r.drop (k + 1)).take v := ⟨_, rfl⟩
              rw [← hx9] at HRE
              have HX9 : Hid ((⟨r.toArray⟩ : ByteArray).extract k1 e = ⟨x.toArray⟩) := Lib.hid (by rw [cutMid44 (Lib.hid rfl) k1 e (by omega), hx9, show e - k1 = v by (have h3 := HE1.out; omega), HK1.out])
              have HXE : Hid ((⟨r.toArray⟩ : ByteArray).extract e n = ⟨(r.drop e).toArray⟩) := Lib.hid (cutFrom44 (Lib.hid rfl) e n (by rw [HN.out]; exact Nat.le_refl _))
              clear hx9
              have HCW : Hid (Chg [] wd (wd.alloc (.cells #[.string ((⟨r.toArray⟩ : ByteArray).extract k1 e)] 9))) := Lib.hid ((Chg.refl _ _).alloc _)
              have HXS : Hid (Strs (wd.alloc (.cells #[.string ((⟨r.toArray⟩ : ByteArray).extract k1 e)] 9)) (.slice (some ⟨wd.heap.size, 0, none⟩) 1 1) [x]) := Lib.hid (by rw [HX9.out]; exact strs_one wd x)
              have CX : Hid (Chg [] wr (wd.alloc (.cells #[.string ((⟨r.toArray⟩ : ByteArray).extract k1 e)] 9))) := Lib.hid (CD.out.trans HCW.out (by simp))
              have HOX := Lib.hid (HO.out.keep CX.out (by simp))
              have HBA : Hid (B ≤ (wd.alloc (.cells #[.string ((⟨r.toArray⟩ : ByteArray).extract k1 e)] 9)).heap.size) := Lib.hid (by have h1 := HC.out.size; have h2 := HBB.out; have h3 := CX.out.size; omega)
              go_wp2_with (at_builtin; go_loud (refine wpList_strs rfl (.tmp 63) (.tmp 72) rfl B ps (.slice ao ps.length cp) (by rfl) HOX.out [x] (.slice (some ⟨wd.heap.size, 0, none⟩) 1 1) (by rfl) HXS.out (by simp only [List.length_singleton]; omega) HBA.out ?kk))
              case kk =>
                intro v9 w9 h5 h6 h7
                have HO9 : Hid (OwT B (ps ++ [x]) v9 w9) := Lib.hid h5
                obtain ⟨a9, c9, rfl⟩ := h5.form
                have C9 : Hid (Chg [] w w9) := Lib.hid ((HC.out.trans CX.out (by simp)).trans h6 (fun q hq => .inr (by have := (HOX.out.ge q (Option.mem_toList.1 hq)).1; rw [← HBB.out]; exact this)))
                have HP9 : Hid (Jn.records s = (Jn.records (r.drop e)).map (fun l => (ps ++ [x]) ++ l)) := Lib.hid (by rw [HP.out, HRE.out, Jn.map_two])
                have HPL : Hid ((ps ++ [x]).length + (r.drop e).length ≤ 100000) := Lib.hid (by rw [List.length_append, List.length_singleton, List.length_drop, ← HN.out]; have h2 := HK1.out; have h3 := HE1.out; omega)
                have HSL : Hid ((r.drop e).length < n) := Lib.hid (by rw [List.length_drop, ← HN.out]; have h2 := HK1.out; have h3 := HE1.out; omega)
                clear h5 h6 h7
                obtain ⟨p2, hp2⟩ : ∃ z, z = ps ++ [x] := ⟨_, rfl⟩
                rw [← hp2] at HO9 HP9 HPL ⊢
                clear hp2
                go_wp2_with fail
                go_roundw
                case rel => exact ⟨r.drop e, p2, a9, c9, by rw [HXE.out], rfl, HO9, C9, HP9, HPL.out⟩
                case measure =>
                  have h8 := HSL.out
                  have h9 : (⟨(List.drop e r).toArray⟩ : ByteArray).size = (r.drop e).length := rfl
                  simp [sLen, HXE.out]
                  rw [h9, hsz]
                  exact h8
            · have dv : (!db.toList == kb.toList) = true := by rw [str_eq HDB.out HKB.out, decide_eq_false hs9]; rfl
              have HS9 := Lib.hid hs9
              clear hs9
              refine tk 12 ?vx106 ?hyx106 ?rsx106
              case hyx106 => (intro w9 hSw; go_simp; try with_reducible rfl)
              try simp only [qq]
              refine tk 13 ?vx107 ?hyx107 ?rsx107
              case hyx107 => (intro w9 hSw; go_simp; try with_reducible rfl)
              try simp only [qq]
              refine tk 14 ?vx108 ?hyx108 ?rsx108
              case hyx108 => (intro w9 hSw; go_simp; try with_reducible rfl)
              try simp only [qq]
              refine tn 15 ?_
              try simp only [qq]
              refine tn 16 ?_
              try simp only [qq]
              refine tn 17 ?_
              try simp only [qq]
              refine tn 18 ?_
              try simp only [qq]
              refine tn 19 ?_
              try simp only [qq]
              refine tn 20 ?_
              try simp only [qq]
              refine tn 21 ?_
              try simp only [qq]
              refine tk 22 ?vx109 ?hyx109 ?rsx109
              case hyx109 => (intro w9 hSw; go_simp; try with_reducible rfl)
              try simp only [qq]
              refine wpAnyH_done (by kernel_rfl) ?_ _
              try simp only [qq]
              clear hHeld
              have HNN : Hid (Jn.records r = none) := Lib.hid (by rw [HCO.out, if_neg (fun h => HS9.out h.2.1)])
              go_wp2_with fail
              exact HRR.out.1 (by rw [HP.out, HNN.out]; rfl) _ (HC.out.trans CD.out (by simp))
          case ob92 =>
            intro K hK
            go_simp
            rw [← HKQ.out]
            refine hK.out _ _ hHeld (fun hHeld => ?_)
            clear hK K
            try simp only [qq]
            refine rd1 8 (fun K hK => ?_)
            go_simp
            refine (decimal_spec wd v (by omega)).mono ?_
            rintro e w3 ⟨rfl, rfl⟩
            obtain ⟨db, hdb⟩ : ∃ z : ByteArray, z = ⟨(Lib.itoa (v : Int)).toArray⟩ := ⟨_, rfl⟩
            rw [← hdb]
            have HDB := Lib.hid hdb
            clear hdb
            refine hK.out _ _ hHeld (fun hHeld => ?_)
            clear hK K
            try simp only [qq]
            by_cases hs9 : Lib.itoa (v : Int) = r.take k
            · have dv : (!db.toList == kb.toList) = false := by rw [str_eq HDB.out HKB.out, decide_eq_true hs9]; rfl
              have HS9 := Lib.hid hs9
              clear hs9
              refine tk 12 ?vx110 ?hyx110 ?rsx110
              case hyx110 => (intro w9 hSw; go_simp; try with_reducible rfl)
              try simp only [qq]
              refine tk 13 ?vx111 ?hyx111 ?rsx111
              case hyx111 => (intro w9 hSw; go_simp; try with_reducible rfl)
              try simp only [qq]
              refine tk 14 ?vx112 ?hyx112 ?rsx112
              case hyx112 => (intro w9 hSw; go_simp; try with_reducible rfl)
              try simp only [qq]
              refine tk 15 ?vx113 ?hyx113 ?rsx113
              case hyx113 => (intro w9 hSw; go_simp; try with_reducible rfl)
              try simp only [qq]
              refine tk 16 ?vx114 ?hyx114 ?rsx114
              case hyx114 => (intro w9 hSw; go_simp; try with_reducible rfl)
              try simp only [qq]
              refine tk 17 ?vx115 ?hyx115 ?rsx115
              case hyx115 => (intro w9 hSw; go_simp; try with_reducible rfl)
              try simp only [qq]
              refine tk 18 ?vx116 ?hyx116 ?rsx116
              case hyx116 => (intro w9 hSw; go_simp; try with_reducible rfl)
              try simp only [qq]
              refine tk 19 ?vx117 ?hyx117 ?rsx117
              case hyx117 => (intro w9 hSw; go_simp; try with_reducible rfl)
              try simp only [qq]
              refine tk 20 ?vx118 ?hyx118 ?rsx118
              case hyx118 => (intro w9 hSw; go_simp; try with_reducible rfl)
              try simp only [qq]
              by_cases he9 : n < e
              · have d2 : decide ((n : Int) < (e : Int)) = true := decide_eq_true (by omega)
                refine tk 21 ?vx119 ?hyx119 ?rsx119
                case hyx119 => (intro w9 hSw; go_simp; try with_reducible rfl)
                try simp only [qq]
                refine tk 22 ?vx120 ?hyx120 ?rsx120
                case hyx120 => (intro w9 hSw; go_simp; try with_reducible rfl)
                try simp only [qq]
                refine wpAnyH_done (by kernel_rfl) ?_ _
                try simp only [qq]
                clear hHeld
                have HNN : Hid (Jn.records r = none) := Lib.hid (by rw [HCO.out, if_neg (fun h => by have h1 := h.2.2; rw [← HN.out] at h1; have h2 := HK1.out; have h3 := HE1.out; omega)])
                go_wp2_with fail
                exact HRR.out.1 (by rw [HP.out, HNN.out]; rfl) _ (HC.out.trans CD.out (by simp))
              have d2 : decide ((n : Int) < (e : Int)) = false := decide_eq_false (by omega)
              refine tk 21 ?vx121 ?hyx121 ?rsx121
              case hyx121 => (intro w9 hSw; go_simp; try with_reducible rfl)
              try simp only [qq]
              refine tk 22 ?vx122 ?hyx122 ?rsx122
              case hyx122 => (intro w9 hSw; go_simp; try with_reducible rfl)
              try simp only [qq]
              refine wpAnyH_done (by kernel_rfl) ?_ _
              try simp only [qq]
              clear hHeld
              have HK1b := HK1.out
              have HE1b := HE1.out
              have q7 : (k1 : Int) ≤ (e : Int) := by omega
              have q8 : (e : Int) ≤ (n : Int) := by omega
              have q9 : (0 : Int) ≤ (k1 : Int) := by omega
              clear HK1b HE1b
              have HRE : Hid (Jn.records r = (Jn.records (r.drop e)).map (fun l => (r.drop (k + 1)).take v :: l)) := Lib.hid (by rw [HCO.out, if_pos ⟨by omega, HS9.out, by rw [← HN.out]; have h2 := HK1.out; have h3 := HE1.out; omega⟩, show e = k + 1 + v by (have h2 := HK1.out; have h3 := HE1.out; omega)])
              obtain ⟨x, hx9⟩ : ∃ x, x = (r.drop (k + 1)).take v := ⟨_, rfl⟩
              rw [← hx9] at HRE
              have HX9 : Hid ((⟨r.toArray⟩ : ByteArray).extract k1 e = ⟨x.toArray⟩) := Lib.hid (by rw [cutMid44 (Lib.hid rfl) k1 e (by omega), hx9, show e - k1 = v by (have h3 := HE1.out; omega), HK1.out])
              have HXE : Hid ((⟨r.toArray⟩ : ByteArray).extract e n = ⟨(r.drop e).toArray⟩) := Lib.hid (cutFrom44 (Lib.hid rfl) e n (by rw [HN.out]; exact Nat.le_refl _))
              clear hx9
              have HCW : Hid (Chg [] wd (wd.alloc (.cells #[.string ((⟨r.toArray⟩ : ByteArray).extract k1 e)] 9))) := Lib.hid ((Chg.refl _ _).alloc _)
              have HXS : Hid (Strs (wd.alloc (.cells #[.string ((⟨r.toArray⟩ : ByteArray).extract k1 e)] 9)) (.slice (some ⟨wd.heap.size, 0, none⟩) 1 1) [x]) := Lib.hid (by rw [HX9.out]; exact strs_one wd x)
              have CX : Hid (Chg [] wr (wd.alloc (.cells #[.string ((⟨r.toArray⟩ : ByteArray).extract k1 e)] 9))) := Lib.hid (CD.out.trans HCW.out (by simp))
              have HOX := Lib.hid (HO.out.keep CX.out (by simp))
              have HBA : Hid (B ≤ (wd.alloc (.cells #[.string ((⟨r.toArray⟩ : ByteArray).extract k1 e)] 9)).heap.size) := Lib.hid (by have h1 := HC.out.size; have h2 := HBB.out; have h3 := CX.out.size; omega)
              go_wp2_with (at_builtin; go_loud (refine wpList_strs rfl (.tmp 63) (.tmp 72) rfl B ps (.slice ao ps.length cp) (by rfl) HOX.out [x] (.slice (some ⟨wd.heap.size, 0, none⟩) 1 1) (by rfl) HXS.out (by simp only [List.length_singleton]; omega) HBA.out ?kk))
              case kk =>
                intro v9 w9 h5 h6 h7
                have HO9 : Hid (OwT B (ps ++ [x]) v9 w9) := Lib.hid h5
                obtain ⟨a9, c9, rfl⟩ := h5.form
                have C9 : Hid (Chg [] w w9) := Lib.hid ((HC.out.trans CX.out (by simp)).trans h6 (fun q hq => .inr (by have := (HOX.out.ge q (Option.mem_toList.1 hq)).1; rw [← HBB.out]; exact this)))
                have HP9 : Hid (Jn.records s = (Jn.records (r.drop e)).map (fun l => (ps ++ [x]) ++ l)) := Lib.hid (by rw [HP.out, HRE.out, Jn.map_two])
                have HPL : Hid ((ps ++ [x]).length + (r.drop e).length ≤ 100000) := Lib.hid (by rw [List.length_append, List.length_singleton, List.length_drop, ← HN.out]; have h2 := HK1.out; have h3 := HE1.out; omega)
                have HSL : Hid ((r.drop e).length < n) := Lib.hid (by rw [List.length_drop, ← HN.out]; have h2 := HK1.out; have h3 := HE1.out; omega)
                clear h5 h6 h7
                obtain ⟨p2, hp2⟩ : ∃ z, z = ps ++ [x] := ⟨_, rfl⟩
                rw [← hp2] at HO9 HP9 HPL ⊢
                clear hp2
                go_wp2_with fail
                go_roundw
                case rel => exact ⟨r.drop e, p2, a9, c9, by rw [HXE.out], rfl, HO9, C9, HP9, HPL.out⟩
                case measure =>
                  have h8 := HSL.out
                  have h9 : (⟨(List.drop e r).toArray⟩ : ByteArray).size = (r.drop e).length := rfl
                  simp [sLen, HXE.out]
                  rw [h9, hsz]
                  exact h8
            · have dv : (!db.toList == kb.toList) = true := by rw [str_eq HDB.out HKB.out, decide_eq_false hs9]; rfl
              have HS9 := Lib.hid hs9
              clear hs9
              refine tk 12 ?vx123 ?hyx123 ?rsx123
              case hyx123 => (intro w9 hSw; go_simp; try with_reducible rfl)
              try simp only [qq]
              refine tk 13 ?vx124 ?hyx124 ?rsx124
              case hyx124 => (intro w9 hSw; go_simp; try with_reducible rfl)
              try simp only [qq]
              refine tk 14 ?vx125 ?hyx125 ?rsx125
              case hyx125 => (intro w9 hSw; go_simp; try with_reducible rfl)
              try simp only [qq]
              refine tn 15 ?_
              try simp only [qq]
              refine tn 16 ?_
              try simp only [qq]
              refine tn 17 ?_
              try simp only [qq]
              refine tn 18 ?_
              try simp only [qq]
              refine tn 19 ?_
              try simp only [qq]
              refine tn 20 ?_
              try simp only [qq]
              refine tn 21 ?_
              try simp only [qq]
              refine tk 22 ?vx126 ?hyx126 ?rsx126
              case hyx126 => (intro w9 hSw; go_simp; try with_reducible rfl)
              try simp only [qq]
              refine wpAnyH_done (by kernel_rfl) ?_ _
              try simp only [qq]
              clear hHeld
              have HNN : Hid (Jn.records r = none) := Lib.hid (by rw [HCO.out, if_neg (fun h => HS9.out h.2.1)])
              go_wp2_with fail
              exact HRR.out.1 (by rw [HP.out, HNN.out]; rfl) _ (HC.out.trans CD.out (by simp))
end Go.Proofs.YtpmkgedlnanjiaaGreatDoor
