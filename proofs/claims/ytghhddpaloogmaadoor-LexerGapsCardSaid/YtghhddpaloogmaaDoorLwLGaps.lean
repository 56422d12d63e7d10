/-
  Layer 22: the law LexerGaps: the walk.
-/
import Derived.Test.YtghhddpaloogmaaDoorLxR
import Derived.Test.YtghhddpaloogmaaDoorLxN
import Derived.Test.YtghhddpaloogmaaDoorLwBegin
import Derived.Deep.RegionHeld3
namespace Go.Proofs.YtghhddpaloogmaaDoor
set_option linter.unusedVariables false
set_option linter.unusedSimpArgs false
open Go Go.RowKit Go.Shelf

namespace Lx
def bs (l : List (Tk × Nat)) : List (Nat × Bytes × Nat) := l.map fun x => bare x.1
theorem bs_shift (d : Nat) (l : List (Tk × Nat)) : bs (l.map (shift d)) = bs l := by
  unfold bs
  rw [List.map_map]
  rfl
/-- The text with gaps before, behind and within it. -/
def inserted (g s : Bytes) (m : Nat) : Bytes := g ++ 10 :: (s.take m ++ (g ++ 10 :: (s.drop m ++ 10 :: g)))
theorem gap_sep {g : Bytes} (h : sc 0 g = []) (r : Bytes) : Sep (g ++ 10 :: r) := by
  intro c q hc
  cases g with
  | nil =>
    rw [List.nil_append, List.cons.injEq] at hc
    rw [← hc.1]
    exact .inl (by decide)
  | cons d g =>
    rw [List.cons_append, List.cons.injEq] at hc
    rw [← hc.1]
    by_cases h1 : cls d = 1
    · exact .inl h1
    · by_cases h2 : cls d = 2
      · exact .inr h2
      · exact absurd h (sc_some h1 h2)
theorem sc_off (o : Nat) (s : Bytes) : sc o s = (sc 0 s).map (shift o) := by
  have := sc_shift o 0 s
  rwa [Nat.zero_add] at this
theorem gap_pass {g : Bytes} (h : sc 0 g = []) (o : Nat) (r : Bytes) : sc o (g ++ 10 :: r) = sc (o + g.length + 1) r := by
  have h1 : sc o g = [] := by rw [sc_off, h]; rfl
  rw [sc_join, h1]
  rfl
theorem inserted_law {g s : Bytes} {m : Nat} {p q : List (Tk × Nat)} (hg : sc 0 g = []) (hs : sc 0 s = p ++ q) (hgood : good (sc 0 s) = true)
    (hm : ∀ z, Sep z → sc 0 (s.take m ++ z) = p ++ sc m z) (hq : sc m (s.drop m) = q) : good (sc 0 (inserted g s m)) = true ∧ bs (sc 0 (inserted g s m)) = bs (sc 0 s) := by
  rw [hs, good_iff] at hgood
  have e1 : sc (0 + g.length + 1) (s.take m ++ (g ++ 10 :: (s.drop m ++ 10 :: g))) = (p ++ sc m (g ++ 10 :: (s.drop m ++ 10 :: g))).map (shift (0 + g.length + 1)) := by
    rw [sc_off, hm _ (gap_sep hg _)]
  have e2 : sc m (g ++ 10 :: (s.drop m ++ 10 :: g)) = q.map (shift (g.length + 1)) := by
    rw [gap_pass hg, sc_join]
    have e3 : sc (m + g.length + 1) (s.drop m) = q.map (shift (g.length + 1)) := by
      rw [← hq, Nat.add_assoc, sc_shift]
    rw [e3]
    have e4 : sc (m + g.length + 1 + (s.drop m).length + 1) g = [] := by rw [sc_off, hg]; rfl
    rw [e4]
    split <;> exact List.append_nil _
  unfold inserted
  rw [gap_pass hg, e1, e2, hs]
  refine ⟨?_, ?_⟩
  · rw [good_shift, good_iff]
    intro x hx
    rcases List.mem_append.1 hx with h | h
    · exact hgood x (List.mem_append.2 (.inl h))
    · exact (good_iff.1 ((good_shift (g.length + 1) q).trans (good_iff.2 fun y hy => hgood y (List.mem_append.2 (.inr hy))))) x h
  · rw [bs_shift]
    unfold bs
    rw [List.map_append, List.map_append]
    congr 1
    exact bs_shift _ _
theorem inserted_len (g s : Bytes) (m : Nat) : (inserted g s m).length = 3 * g.length + s.length + 3 := by
  unfold inserted
  have : (s.take m).length + (s.drop m).length = s.length := by rw [List.length_take, List.length_drop]; omega
  simp only [List.length_append, List.length_cons]
  omega
end Lx
/-- What Gaps asks, behind a token or at the beginning. -/
theorem gaps_law {s g : Bytes} (hs : s.length ≤ 1500) (hg : g.length ≤ 300) (h0 : (Lx.lex s).2.1 = 0) (hgap : Lx.sc 0 g = []) {m : Nat}
    (hm : m = 0 ∨ ∃ t ∈ (Lx.lex s).1, m = t.at_ + t.text.length) : m ≤ s.length ∧ (Lx.lex (Lx.inserted g s m)).2.1 = 0 ∧ (Lx.lex (Lx.inserted g s m)).1.length ≤ 5000 ∧ (Lx.lex s).1.map Lx.bare = (Lx.lex (Lx.inserted g s m)).1.map Lx.bare := by
  have hgood := (Lx.lex_zero (by omega)).1 h0
  have hil := Lx.inserted_len g s m
  have hsl := Lx.sc_length 0 (Lx.inserted g s m)
  have key : m ≤ s.length ∧ Lx.good (Lx.sc 0 (Lx.inserted g s m)) = true ∧ Lx.bs (Lx.sc 0 (Lx.inserted g s m)) = Lx.bs (Lx.sc 0 s) := by
    rcases hm with rfl | ⟨t, ht, hmt⟩
    · exact ⟨Nat.zero_le _, Lx.inserted_law (p := []) hgap rfl hgood (fun z _ => rfl) rfl⟩
    · rw [Lx.lex_good (by omega) hgood] at ht
      obtain ⟨x, hx, rfl⟩ := List.mem_map.1 ht
      obtain ⟨p, q, hpq⟩ := List.append_of_mem hx
      have hgp : ∀ y ∈ p ++ [x], y.2 = 0 := fun y hy => (Lx.good_iff.1 hgood) y (by
        rw [hpq]
        rcases List.mem_append.1 hy with h | h
        · simp [h]
        · simp at h
          simp [h])
      have hins := fun z hz => Lx.sc_insert z hz 0 s p x q hpq (Lx.good_iff.2 hgp)
      obtain ⟨i, a1, a2, a3, _, a5⟩ := hins [] (fun c r h => by cases h)
      rw [Nat.zero_add] at a1 a5
      have hmi : m = i := by omega
      subst hmi
      refine ⟨a2, Lx.inserted_law (p := p ++ [x]) (q := q) hgap (by rw [hpq]; simp) hgood (fun z hz => ?_) a5⟩
      obtain ⟨j, b1, b2, b3, b4, b5⟩ := hins z hz
      have hji : j = m := by omega
      subst hji
      rw [b4, Nat.zero_add]
      simp
  refine ⟨key.1, (Lx.lex_zero (by omega)).2 key.2.1, ?_, ?_⟩
  · rw [Lx.lex_good (by omega) key.2.1, List.length_map]
    omega
  · rw [Lx.lex_good (by omega) hgood, Lx.lex_good (by omega) key.2.1]
    have := key.2.2
    unfold Lx.bs at this
    show ((Lx.sc 0 s).map Prod.fst).map Lx.bare = ((Lx.sc 0 (Lx.inserted g s m)).map Prod.fst).map Lx.bare
    rw [List.map_map, List.map_map]
    exact this.symm
theorem inserted_str (g s : Bytes) (m : Nat) : (⟨g.toArray⟩ : ByteArray) ++ ⟨#[10]⟩ ++ (⟨s.toArray⟩ : ByteArray).extract 0 m ++ ((⟨g.toArray⟩ : ByteArray) ++ ⟨#[10]⟩) ++ (⟨s.toArray⟩ : ByteArray).extract m s.length ++ ⟨#[10]⟩ ++ ⟨g.toArray⟩ = ⟨(Lx.inserted g s m).toArray⟩ := by
  rw [sub_take, sub_drop]
  unfold Lx.inserted
  apply ByteArray.ext
  apply Array.ext'
  simp
theorem lex_str (w : World) (sb : ByteArray) (s : Bytes) (h : sb = ⟨s.toArray⟩) (hs : s.length ≤ 1000000) :
    Calls Tryd.prog 12 #[.string sb] w fun e w' => ∃ v, e = .returned (.tuple #[v, .int .i64 (Lx.lex s).2.1, .int .i64 (Lx.lex s).2.2]) ∧ TokS w' v (Lx.lex s).1 ∧ Chg [] w w' := by
  subst h
  exact lex_spec w s hs
set_option maxRecDepth 100000 in
set_option maxHeartbeats 4000000 in
theorem gaps_walk (w : World) (s : Bytes) (hs0 : s.length ≤ 9223372036854775807) (g : Bytes) (hg0 : g.length ≤ 9223372036854775807) (af : Nat) (haf : af < 65536) :
    Calls Tryd.prog 8 #[.string ⟨s.toArray⟩, .string ⟨g.toArray⟩, .int .u16 (af : Int)] w fun e w' => e = .returned (.bool true) ∧ Chg [] w w' := by
  obtain ⟨sb, hsb⟩ : ∃ sb : ByteArray, sb = ⟨s.toArray⟩ := ⟨_, rfl⟩
  obtain ⟨gb, hgb⟩ : ∃ gb : ByteArray, gb = ⟨g.toArray⟩ := ⟨_, rfl⟩
  have HSB := Lib.hid hsb
  have HGB := Lib.hid hgb
  have hsz : sb.size = s.length := by rw [hsb]; exact size_of s
  have hgz : gb.size = g.length := by rw [hgb]; exact size_of g
  rw [← hsb, ← hgb]
  clear hsb hgb
  go_enter Tryd.func8, Tryd.ntmps8
  go_wp2_with fail
  refine (head_spec _).mono ?_
  rintro e w1 ⟨rfl, hc1⟩
  have HC1 := Lib.hid hc1
  clear hc1
  by_cases hl : s.length ≤ 1500
  · have q1 : ¬ (1500 : Int) < (sb.size : Int) := by rw [hsz]; omega
    by_cases hl2 : g.length ≤ 300
    · have q2 : ¬ (300 : Int) < (gb.size : Int) := by rw [hgz]; omega
      have HL := Lib.hid hl
      have HL2 := Lib.hid hl2
      have HSZ := Lib.hid hsz
      have HGZ := Lib.hid hgz
      clear hl hl2 hs0 hg0 hsz hgz
      go_wp2_with fail
      rw [HGB.out]
      refine (gaps_spec _ g (by have := HL2.out; omega)).mono ?_
      rintro e w2 ⟨rfl, rfl⟩
      rw [← HGB.out]
      by_cases hgap : Lx.sc 0 g = []
      · rw [decide_eq_true hgap]
        have HGAP := Lib.hid hgap
        clear hgap
        go_wp2_with fail
        rw [HSB.out]
        refine (lex_spec _ s (by have := HL.out; omega)).mono ?_
        rintro e w3 ⟨v3, rfl, ht3, hc3⟩
        have HC3 := Lib.hid (HC1.out.trans hc3 (by simp))
        have HT3 := Lib.hid ht3
        rw [← HSB.out]
        clear hc3 ht3
        by_cases h0 : (Lx.lex s).2.1 = 0
        · have HLAW := Lib.hid fun m => gaps_law (m := m) HL.out HL2.out h0 HGAP.out
          have hll : (Lx.lex s).1.length ≤ 1500 := by
            have hgood := (Lx.lex_zero (by have := HL.out; omega)).1 h0
            rw [Lx.lex_good (by have := HL.out; omega) hgood, List.length_map]
            exact Nat.le_trans (Lx.sc_length 0 s) HL.out
          have hat : ∀ t ∈ (Lx.lex s).1, t.at_ ≤ 1500 := by
            have hgood := (Lx.lex_zero (by have := HL.out; omega)).1 h0
            rw [Lx.lex_good (by have := HL.out; omega) hgood]
            intro t ht
            obtain ⟨x, hx, rfl⟩ := List.mem_map.1 ht
            have := Lx.sc_at 0 s x hx
            have := HL.out
            omega
          rw [h0]
          obtain ⟨ao, cap, rfl, hcap⟩ := HT3.out.form
          have HAT := Lib.hid hat
          obtain ⟨A, hA⟩ : ∃ A, A = (Lx.lex s).1 := ⟨_, rfl⟩
          rw [← hA] at HT3 HAT hcap hll HLAW ⊢
          obtain ⟨a, ha⟩ : ∃ a, a = A.length := ⟨_, rfl⟩
          rw [← ha] at HT3 hcap hll ⊢
          have HHA := Lib.hid ha
          clear hat hA ha h0
          go_upto_if 43 with fail
          go_cut [11] from 12 (fun u wc => ∃ m : Nat, u = .int .i64 (m : Int) ∧ Hid (m ≤ s.length ∧ (Lx.lex (Lx.inserted g s m)).2.1 = 0 ∧ (Lx.lex (Lx.inserted g s m)).1.length ≤ 5000 ∧ A.map Lx.bare = (Lx.lex (Lx.inserted g s m)).1.map Lx.bare) ∧ Chg [] w3 wc)
          case first =>
            by_cases hz : a = 0
            · subst hz
              have hLm := Lib.hid (HLAW.out 0 (.inl rfl))
              go_wp2_with fail
              go_meet
              case rel => exact ⟨0, rfl, hLm, Chg.refl _ _⟩
            · obtain ⟨k, hk⟩ : ∃ k, k = af % a := ⟨_, rfl⟩
              have hka : k < a := by rw [hk]; exact Nat.mod_lt _ (by omega)
              obtain ⟨t, ht⟩ : ∃ t, A[k]? = some t := ⟨A[k]'(by rw [← HHA.out]; exact hka), by simp⟩
              obtain ⟨g0, off, rfl, c0, c1, c2, c3⟩ := HT3.out.get ht
              have hmem := List.mem_of_getElem? ht
              have hLm := HLAW.out (t.at_ + t.text.length) (.inr ⟨t, hmem, rfl⟩)
              have hb9 := HL.out
              have hta := hLm.1
              have HLm := Lib.hid hLm
              have hk2 : (af : Int).tmod (a : Int) = (k : Int) := by rw [hk]; exact (Int.ofNat_tmod af a).symm
              have q5 : (0 : Int) < (a : Int) := by omega
              have q6 : (0 : Int) ≤ (k : Int) := by omega
              have q7 : (k : Int) < (a : Int) := by omega
              obtain ⟨n1, hn1⟩ : ∃ n1, t.text.length = n1 := ⟨_, rfl⟩
              rw [hn1] at hta HLm
              have l3 : g0 < w3.heap.size := World.block_lt_of_cell? _ _ c0
              clear hk ht hmem hLm
              go_wp2_with fail
              go_meet
              case rel => exact ⟨t.at_ + n1, vint (by omega), HLm, (Chg.refl _ _).alloc _⟩
          case rest =>
            obtain ⟨m, rfl, HLm, hcm⟩ := hcut
            have HC4 := Lib.hid (HC3.out.trans hcm (by simp))
            have HT4 := Lib.hid (HT3.out.quiet hcm)
            have hm1 := HLm.out.1
            have r1 : ¬ (sb.size : Int) < (m : Int) := by rw [HSZ.out]; omega
            have r2 : ¬ (m : Int) < 0 := by omega
            have r3 : ¬ 9223372036854775807 < gb.size + 1 := by rw [HGZ.out]; have := HL2.out; omega
            have r4 : (0 : Int) ≤ (m : Int) := by omega
            have r5 : (m : Int) ≤ (sb.size : Int) := by omega
            clear hcm hm1
            have hstr := inserted_str g s m
            rw [← HSB.out, ← HGB.out, ← HSZ.out] at hstr
            obtain ⟨lb, hx0⟩ : ∃ lb, gb ++ ⟨#[10]⟩ = lb := ⟨_, rfl⟩
            obtain ⟨pb, hx1⟩ : ∃ pb, sb.extract 0 m = pb := ⟨_, rfl⟩
            obtain ⟨rb, hx2⟩ : ∃ rb, sb.extract m sb.size = rb := ⟨_, rfl⟩
            obtain ⟨gz, hgz⟩ : ∃ gz, gb.size = gz := ⟨_, rfl⟩
            have hlz : lb.size = gz + 1 := by rw [← hx0, ← hgz]; simp; rfl
            have hpz : pb.size = m := by rw [← hx1]; simp; omega
            obtain ⟨rz, hrz⟩ : ∃ rz, rb.size = rz := ⟨_, rfl⟩
            have hrz' : rz ≤ 1500 := by
              have := HL.out
              have := HSZ.out
              rw [← hrz, ← hx2]
              simp
              omega
            have hgz' : gz ≤ 300 := by have := HL2.out; have := HGZ.out; omega
            have hmz' : m ≤ 1500 := by have := HL.out; have := HLm.out.1; omega
            rw [hx0, hx1, hx2] at hstr
            have HSTR := Lib.hid hstr
            have k0 : ¬ 9223372036854775807 < gz + 1 := by omega
            have k1 : ¬ 9223372036854775807 < gz + 1 + m := by omega
            have k2 : ¬ 9223372036854775807 < gz + 1 + m + (gz + 1) := by omega
            have k3 : ¬ 9223372036854775807 < gz + 1 + m + (gz + 1) + rz := by omega
            have k4 : ¬ 9223372036854775807 < gz + 1 + m + (gz + 1) + rz + 1 := by omega
            have k5 : ¬ 9223372036854775807 < gz + 1 + m + (gz + 1) + rz + 1 + gz := by omega
            have HIL : Hid ((Lx.inserted g s m).length ≤ 1000000) := Lib.hid (by rw [Lx.inserted_len]; have := HL.out; have := HL2.out; omega)
            clear hstr r3
            go_upto_region 14 with fail
            go_region_held3 (fun W => Chg [] wc W) (first | exact (Chg.refl _ _).drew | exact (Chg.refl _ _).drew.trans hcx (by simp))
              (first | (go_at_call 12; refine (lex_str _ _ (Lx.inserted g s m) HSTR.out HIL.out).mono ?_; rintro e wx ⟨vx, rfl, htx, hcx⟩; rw [HLm.out.2.1]))
            have hcx' : Chg [] wc wx := (Chg.refl _ _).drew.trans hcx (by simp)
            have HC9 := Lib.hid (HC4.out.trans hcx' (by simp))
            have HT9 := Lib.hid (HT4.out.quiet hcx')
            have HTX := Lib.hid htx
            have HAL := Lib.hid (decide_eq_true HLm.out.2.2.2)
            clear hcx hcx' htx
            go_wp2_with fail
            refine (alike_spec _ (.slice ao a cap) vx A (Lx.lex (Lx.inserted g s m)).1 HT9 HTX (by rw [← HHA.out]; omega) (by have := HLm.out.2.2.1; omega)).mono ?_
            rintro e w9 ⟨rfl, hc9⟩
            rw [HAL.out]
            have HCZ := Lib.hid (HC9.out.trans hc9 (by simp))
            clear hc9
            go_wp2_with fail
            go_ret
            exact ⟨rfl, HCZ.out⟩
        · have n1 : (((Lx.lex s).2.1 : Int) != 0) = true := bne_iff_ne.2 (by omega)
          clear h0
          go_wp2_with fail
          go_ret
          exact ⟨rfl, HC3.out⟩
      · rw [decide_eq_false hgap]
        clear hgap
        go_wp2_with fail
        go_ret
        exact ⟨rfl, HC1.out⟩
    · have q2 : (300 : Int) < (gb.size : Int) := by rw [hgz]; omega
      go_wp2_with fail
      go_ret
      exact ⟨rfl, HC1.out⟩
  · have q1 : (1500 : Int) < (sb.size : Int) := by rw [hsz]; omega
    go_wp2_with fail
    go_ret
    exact ⟨rfl, HC1.out⟩
end Go.Proofs.YtghhddpaloogmaaDoor
