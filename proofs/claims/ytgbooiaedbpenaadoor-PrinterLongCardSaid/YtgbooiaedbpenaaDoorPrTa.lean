/-
 Printer, the reference: numbers, names, words.
-/
import Derived.Test.YtgbooiaedbpenaaDoorPrJ
import Derived.Test.YtgbooiaedbpenaaDoorPrN
import Derived.Test.YtgbooiaedbpenaaDoorPxW
import Derived.Laws.Bits64
import Derived.Laws.Bits64b
import Derived.Laws.BitsAllLaws
import Derived.Lib.AppendStr
import Derived.Laws.DeepStrings4
namespace Go.Proofs.YtgbooiaedbpenaaDoor
set_option linter.unusedVariables false
set_option linter.unusedSimpArgs false
open Go Go.RowKit Go.Shelf
attribute [local irreducible] Go.wpStill

namespace Pr
theorem numOk_iff8 {n : Int} : numOk n = true ↔ 0 ≤ n ∧ n ≤ 9999999999 := by
 unfold numOk
 rw [Bool.and_eq_true, decide_eq_true_iff, decide_eq_true_iff]
end Pr
def intOf8 : Value → Int
 | .int _ n => n
 | _ => 0
theorem digits_spec8 (w : World) (n : Nat) (hn : n ≤ 9223372036854775807) :
 Calls Tryd.prog 60 #[.int .u64 (n : Int)] w fun e w' => e = .returned (.string ⟨(Lib.decDigits n).toArray⟩) ∧ w = w' := by
 have h1 := dig_str (n % 10) (Nat.mod_lt _ (by decide))
 have hn0 : (0 : Int) ≤ (n : Int) := by omega
 have HLEN := Lib.hid (dec_len n hn)
 go_enter Tryd.func60, Tryd.ntmps60
 go_wp2_with fail
 have HD := Lib.hid h1
 clear h1
 go_loop [0, 3] (fun a b => ∃ (r : Nat) (tl : Bytes), a = .int .u64 (r : Int) ∧ b = .string ⟨tl.toArray⟩ ∧ r ≤ 9223372036854775807 ∧ Lib.decDigits n = (if r = 0 then [] else Lib.decDigits r) ++ tl) (fun a _ => (intOf8 a).toNat)
 case atStart =>
  refine ⟨n / 10, _, by simp, by rw [HD.out], by omega, ?_⟩
  by_cases h : n < 10
  · rw [if_pos (by omega), Lib.decDigits_one h, show n % 10 = n by omega]
    rfl
  · rw [if_neg (by omega)]
    exact dec_go n h
 case round =>
  obtain ⟨r, tl, rfl, rfl, hr, hrel⟩ := hrel
  have HR := Lib.hid hrel
  have htl : tl.length ≤ 21 := by
   have := HLEN.out
   rw [hrel, List.length_append] at this
   omega
  clear hrel
  have hr0 : (0 : Int) ≤ (r : Int) := by omega
  by_cases h0 : 0 < r
  · have hd2 := dig_str (r % 10) (Nat.mod_lt _ (by decide))
    have hsz : ¬ 9223372036854775807 < 1 + tl.length := by omega
    go_wp2_with fail
    go_round
    case rel =>
     refine ⟨r / 10, [UInt8.ofNat (48 + r % 10)] ++ tl, by simp, by rw [← join2]; simp, by omega, ?_⟩
     rw [HR.out, if_neg (by omega), ← List.append_assoc]
     congr 1
     by_cases h : r < 10
     · rw [if_pos (by omega), Lib.decDigits_one h, show r % 10 = r by omega]
       rfl
     · rw [if_neg (by omega)]
       exact dec_go r h
    case measure => simp [intOf8]; omega
  · have hr00 : r = 0 := by omega
    rw [if_pos hr00, List.nil_append] at HR
    clear hr00
    go_wp2_with fail
    go_ret
    exact ⟨by rw [HR.out]; rfl, rfl⟩
theorem decimal_r {w : World} (n : Int) (hn : Pr.numOk n = true) {R : Ending → World → Prop} (h : R (.returned (.string ⟨(Lib.itoa n).toArray⟩)) w) :
 Calls Tryd.prog 36 #[.int .i64 n] w R := by
 have HRR := hd h
 clear h
 obtain ⟨m, rfl⟩ : ∃ m : Nat, n = (m : Int) := ⟨n.toNat, by have := (Pr.numOk_iff8.1 hn).1; omega⟩
 have hm : m ≤ 9999999999 := by have := (Pr.numOk_iff8.1 hn).2; omega
 have hn0 : (0 : Int) ≤ (m : Int) := by omega
 rw [Lib.itoa_nonneg] at HRR
 clear hn
 go_enter Tryd.func36, Tryd.ntmps36
 go_wp2_with fail
 refine (digits_spec8 _ m (by omega)).mono ?_
 rintro e w2 ⟨rfl, rfl⟩
 go_wp2_with fail
 exact HRR.out
/-- Whether numbers can be written. -/
theorem number_r {w : World} (l : List Int) (n : Nat) (hn : l.length = n ∧ n ≤ 10) {X : Nat} (HX : Hid (Blk w X (l.map Pr.iv) 3)) {R : Ending → World → Prop} (h : R (.returned (.bool (Pr.numsOk l))) w) :
 Calls Tryd.prog 47 #[.slice (some ⟨X, 0, none⟩) n n] w R := by
 have HRR := hd h
 clear h
 obtain ⟨h1, h2⟩ := hn
 have HN := hd h1
 clear h1
 go_enter Tryd.func47, Tryd.ntmps47
 go_wp2_with fail
 go_loop [3] (fun iv => ∃ j : Nat, iv = .int .i64 (j : Int) ∧ j ≤ n ∧ Hid (Pr.numsOk (l.take j) = true)) (fun iv => n - intN iv)
 case atStart => exact ⟨0, rfl, Nat.zero_le _, hd rfl⟩
 case round =>
  obtain ⟨j, rfl, hj, HO⟩ := hrel
  by_cases hlt : j < n
  · obtain ⟨x, hx⟩ : ∃ x, l[j]? = some x := ⟨l[j]'(by rw [HN.out]; exact hlt), by simp⟩
    have c0 : w.cell? ⟨X, j, none⟩ = some (.int .i64 x) := HX.out.cell (by rw [List.getElem?_map, hx]; rfl)
    have HT := hd (Pr.numsOk_take hx)
    have HXX := hd hx
    have q1 : (j : Int) < (n : Int) := by omega
    have q0 : (0 : Int) ≤ (j : Int) := by omega
    clear hx
    have hbad : Pr.numOk x = false → Pr.numsOk l = false := fun h => by
     unfold Pr.numsOk
     exact List.all_eq_false.2 ⟨x, List.mem_of_getElem? HXX.out, by rw [h]; decide⟩
    have HB := hd hbad
    clear hbad
    by_cases hx0 : x < 0
    · have HF : Hid (Pr.numsOk l = false) := hd (HB.out (by unfold Pr.numOk; rw [decide_eq_false (p := 0 ≤ x) (by omega)]; rfl))
      go_wp2_with fail
      have h9 := HRR.out
      rw [HF.out] at h9
      exact h9
    by_cases hx9 : 9999999999 < x
    · have HF : Hid (Pr.numsOk l = false) := hd (HB.out (by unfold Pr.numOk; rw [decide_eq_false (p := x ≤ 9999999999) (by omega), Bool.and_false]))
      go_wp2_with fail
      have h9 := HRR.out
      rw [HF.out] at h9
      exact h9
    have HK : Hid (Pr.numOk x = true) := hd (by unfold Pr.numOk; rw [decide_eq_true (p := 0 ≤ x) (by omega), decide_eq_true (p := x ≤ 9999999999) (by omega)]; rfl)
    go_wp2_with fail
    go_round
    case rel => exact ⟨j + 1, vint (by omega), by omega, hd (by rw [HT.out, HO.out, HK.out]; rfl)⟩
    case measure => simp [intN]; omega
  · have HE : Hid (Pr.numsOk l = true) := hd (by have h9 := HO.out; rw [List.take_of_length_le (by rw [HN.out]; omega)] at h9; exact h9)
    have q1 : ¬ (j : Int) < (n : Int) := by omega
    go_wp2_with fail
    have h9 := HRR.out
    rw [HE.out] at h9
    exact h9
/-- Whether a text is a name. -/
theorem name8_r {w : World} (s : Bytes) (hs : s.length ≤ 1000000) {R : Ending → World → Prop} (h : R (.returned (.bool (Pr.nameOk s))) w) : Calls Tryd.prog 46 #[.string ⟨s.toArray⟩] w R := by
 have HRR := hd h
 clear h
 obtain ⟨sb, hsb⟩ : ∃ sb : ByteArray, sb = ⟨s.toArray⟩ := ⟨_, rfl⟩
 have HSB := hd hsb
 have HSZ : Hid (sb.size = s.length) := hd (by rw [hsb]; exact size_of9 s)
 rw [← hsb]
 clear hsb
 go_enter Tryd.func46, Tryd.ntmps46
 go_wp2_with fail
 go_loop [3] (fun iv => ∃ j : Nat, iv = .int .i64 (j : Int) ∧ j ≤ s.length ∧ Hid ((s.take j).all Lx.word = true)) (fun iv => s.length - intN iv)
 case atStart => exact ⟨0, rfl, Nat.zero_le _, hd rfl⟩
 case round =>
  obtain ⟨j, rfl, hj, HO⟩ := hrel
  by_cases hlt : j < s.length
  · have q1 : (j : Int) < (sb.size : Int) := by rw [HSZ.out]; omega
    have q0 : (0 : Int) ≤ (j : Int) := by omega
    have q2 : j < sb.size := by rw [HSZ.out]; exact hlt
    have HG := hd (sb_get HSB q2 hlt)
    have HT : Hid (s.take (j + 1) = s.take j ++ [s[j]]) := hd (List.take_succ_eq_append_getElem hlt)
    obtain ⟨c, hc⟩ : ∃ c, c = s[j] := ⟨_, rfl⟩
    rw [← hc] at HG HT
    have HM : Hid (c ∈ s) := hd (by rw [hc]; exact List.getElem_mem _)
    clear hc
    obtain ⟨q, hq⟩ : ∃ q, q = Lx.word c := ⟨_, rfl⟩
    have HQ := hd hq.symm
    clear hq
    go_wp2_with fail
    rw [HG.out]
    refine (word_b w c q HQ.out).mono ?_
    rintro e w2 ⟨rfl, rfl⟩
    cases q with
    | false =>
     have HF : Hid (Pr.nameOk s = false) := hd (by
      unfold Pr.nameOk
      rw [show s.all Lx.word = false from List.all_eq_false.2 ⟨c, HM.out, by rw [HQ.out]; decide⟩]
      simp)
     go_wp2_with fail
     have h9 := HRR.out
     rw [HF.out] at h9
     exact h9
    | true =>
     go_wp2_with fail
     go_round
     case rel => exact ⟨j + 1, vint (by omega), by omega, hd (by rw [HT.out, List.all_append, HO.out]; simp [HQ.out])⟩
     case measure => simp [intN]; omega
  · have HE : Hid (s.all Lx.word = true) := hd (by have h9 := HO.out; rw [List.take_of_length_le (by omega)] at h9; exact h9)
    have q1 : ¬ (j : Int) < (sb.size : Int) := by rw [HSZ.out]; omega
    by_cases h0 : s = []
    · have hz : sb.size = 0 := by rw [HSZ.out, h0]; rfl
      have HF : Hid (Pr.nameOk s = false) := hd (by rw [h0]; rfl)
      clear q1
      go_wp2_with fail
      have h9 := HRR.out
      rw [HF.out] at h9
      exact h9
    · have hpos : 0 < s.length := List.length_pos_iff.2 h0
      have z1 : (0 : Int) < (sb.size : Int) := by rw [HSZ.out]; omega
      have z2 : 0 < sb.size := by rw [HSZ.out]; exact hpos
      by_cases h24 : s.length ≤ 24
      · have z3 : (sb.size : Int) ≤ 24 := by rw [HSZ.out]; omega
        have HG := hd (sb_get HSB z2 hpos)
        obtain ⟨c, hc⟩ : ∃ c, c = s[0] := ⟨_, rfl⟩
        rw [← hc] at HG
        obtain ⟨q, hq⟩ : ∃ q, q = decide (Lx.cls c = 3) := ⟨_, rfl⟩
        have HF : Hid (Pr.nameOk s = q) := hd (by
         unfold Pr.nameOk
         rw [HE.out, decide_eq_true hpos, decide_eq_true h24, hq, hc]
         cases s with
         | nil => exact absurd rfl h0
         | cons a r => simp)
        have HQ := hd hq.symm
        clear hq hc
        go_wp2_with fail
        rw [HG.out]
        refine (letter_b w c q HQ.out).mono ?_
        rintro e w2 ⟨rfl, rfl⟩
        go_wp2_with fail
        have h9 := HRR.out
        rw [HF.out] at h9
        exact h9
      · have z3 : ¬ (sb.size : Int) ≤ 24 := by rw [HSZ.out]; omega
        have HF : Hid (Pr.nameOk s = false) := hd (by unfold Pr.nameOk; rw [decide_eq_false h24]; simp)
        go_wp2_with fail
        have h9 := HRR.out
        rw [HF.out] at h9
        exact h9
/-- Words and numbers, joined by blanks. -/
theorem words8_r {w : World} (s : Bytes) (hs : s.length ≤ 100000000) (l : List Int) (n : Nat) (hn : l.length = n ∧ n ≤ 10) (HK : Hid (Pr.numsOk l = true)) {X : Nat} (HX : Hid (Blk w X (l.map Pr.iv) 3)) {R : Ending → World → Prop} (h : R (.returned (.string ⟨(s ++ Pr.nums l).toArray⟩)) w) :
 Calls Tryd.prog 26 #[.string ⟨s.toArray⟩, .slice (some ⟨X, 0, none⟩) n n] w R := by
 have HRR := hd h
 clear h
 obtain ⟨h1, h2⟩ := hn
 have HN := hd h1
 clear h1
 go_enter Tryd.func26, Tryd.ntmps26
 go_wp2_with fail
 go_loop [0, 5] (fun sv iv => ∃ (j : Nat) (a : Bytes), iv = .int .i64 (j : Int) ∧ sv = .string ⟨a.toArray⟩ ∧ j ≤ n ∧ a.length ≤ 100000000 + 22 * j ∧ Hid (a = s ++ Pr.nums (l.take j))) (fun _ iv => n - intN iv)
 case atStart => exact ⟨0, s, rfl, rfl, Nat.zero_le _, by omega, hd (by simp [Pr.nums])⟩
 case round =>
  obtain ⟨j, a, rfl, rfl, hj, ha, HA⟩ := hrel
  by_cases hlt : j < n
  · obtain ⟨x, hx⟩ : ∃ x, l[j]? = some x := ⟨l[j]'(by rw [HN.out]; exact hlt), by simp⟩
    have c0 : w.cell? ⟨X, j, none⟩ = some (.int .i64 x) := HX.out.cell (by rw [List.getElem?_map, hx]; rfl)
    have HT := hd (Pr.nums_take hx)
    have HXK : Hid (Pr.numOk x = true) := hd (List.all_eq_true.1 HK.out x (List.mem_of_getElem? hx))
    have q1 : (j : Int) < (n : Int) := by omega
    have q0 : (0 : Int) ≤ (j : Int) := by omega
    clear hx
    go_wp2_with fail
    refine decimal_r x HXK.out ?_
    have hl : (Lib.itoa x).length ≤ 21 := Pr.itoa_len x (by have := Pr.numOk_iff8.1 HXK.out; unfold Pr.I64 at *; omega)
    obtain ⟨d, hd9⟩ : ∃ z, z = Lib.itoa x := ⟨_, rfl⟩
    rw [← hd9] at hl ⊢
    have HD := hd hd9
    have z1 : ¬ 9223372036854775807 < 1 + d.length := by omega
    have z2 : ¬ 9223372036854775807 < a.length + (1 + d.length) := by omega
    clear hd9
    go_wp2_with fail
    go_round
    case rel => exact ⟨j + 1, a ++ (32 :: d), vint (by omega), by rw [show (⟨#[32]⟩ : ByteArray) ++ ⟨d.toArray⟩ = ⟨(32 :: d).toArray⟩ from str2 [32] d, str2], by omega, by simp only [List.length_append, List.length_cons]; omega, hd (by rw [HT.out, HA.out, HD.out, List.append_assoc])⟩
    case measure => simp [intN]; omega
  · have HE : Hid (a = s ++ Pr.nums l) := hd (by have h9 := HA.out; rw [List.take_of_length_le (by rw [HN.out]; omega)] at h9; exact h9)
    have q1 : ¬ (j : Int) < (n : Int) := by omega
    go_wp2_with fail
    have h9 := HRR.out
    rw [← HE.out] at h9
    exact h9
end Go.Proofs.YtgbooiaedbpenaaDoor
