/-
  Layer 21: decimal digits (foyerref02.Decimal), and the reference's names.
-/
import Derived.Test.YtghhddpaloogmaaDoorLxM
import Derived.Test.YtghhddpaloogmaaDoorLxP
import Derived.Lib.ItoaLen
import Derived.Laws.Bits64
import Derived.Laws.Bits64b
import Derived.Laws.BitsAllLaws
import Derived.Lib.AppendStr
import Derived.Laws.DeepStrings4
namespace Go.Proofs.YtghhddpaloogmaaDoor
set_option linter.unusedVariables false
set_option linter.unusedSimpArgs false
open Go Go.RowKit Go.Shelf

theorem dec_go (n : Nat) (h : ¬ n < 10) : Lib.decDigits n = Lib.decDigits (n / 10) ++ [UInt8.ofNat (48 + n % 10)] := by rw [Lib.decDigits, dif_neg h]
theorem dig_str : ∀ d : Nat, d < 10 → (⟨#[48, 49, 50, 51, 52, 53, 54, 55, 56, 57]⟩ : ByteArray).extract d (d + 1) = ⟨[UInt8.ofNat (48 + d)].toArray⟩ := by decide
theorem join2 (a x : Bytes) : (⟨a.toArray⟩ : ByteArray) ++ ⟨x.toArray⟩ = ⟨(a ++ x).toArray⟩ := by
  apply ByteArray.ext
  apply Array.ext'
  simp
theorem dec_len (n : Nat) (hn : n ≤ 9223372036854775807) : (Lib.decDigits n).length ≤ 21 := by
  have := Lib.itoa_length_le (n : Int) (by omega) (by omega)
  rwa [Lib.itoa_nonneg] at this
theorem digits_spec (w : World) (n : Nat) (hn : n ≤ 9223372036854775807) :
    Calls Tryd.prog 25 #[.int .u64 (n : Int)] w fun e w' => e = .returned (.string ⟨(Lib.decDigits n).toArray⟩) ∧ w = w' := by
  have hd := dig_str (n % 10) (Nat.mod_lt _ (by decide))
  have hn0 : (0 : Int) ≤ (n : Int) := by omega
  have HLEN := Lib.hid (dec_len n hn)
  go_enter Tryd.func25, Tryd.ntmps25
  go_wp2_with fail
  have HD := Lib.hid hd
  clear hd
  go_loop [0, 3] (fun a b => ∃ (r : Nat) (tl : Bytes), a = .int .u64 (r : Int) ∧ b = .string ⟨tl.toArray⟩ ∧ r ≤ 9223372036854775807 ∧ Lib.decDigits n = (if r = 0 then [] else Lib.decDigits r) ++ tl) (fun a _ => (intOf a).toNat)
  case atStart =>
    refine ⟨n / 10, _, by simp, by rw [HD.out], by omega, ?_⟩
    by_cases h : n < 10
    · rw [if_pos (by omega), Lib.decDigits_one h, show n % 10 = n by omega]
      rfl
    · rw [if_neg (by omega)]
      exact dec_go n h
  case round =>
    obtain ⟨r, tl, rfl, rfl, hr, hrel⟩ := hrel
    have HR := Lib.hid hrel
    have htl : tl.length ≤ 21 := by
      have := HLEN.out
      rw [hrel, List.length_append] at this
      omega
    clear hrel
    have hr0 : (0 : Int) ≤ (r : Int) := by omega
    by_cases h0 : 0 < r
    · have hd2 := dig_str (r % 10) (Nat.mod_lt _ (by decide))
      have hsz : ¬ 9223372036854775807 < 1 + tl.length := by omega
      go_wp2_with fail
      go_round
      case rel =>
        refine ⟨r / 10, [UInt8.ofNat (48 + r % 10)] ++ tl, by simp, by rw [← join2]; simp, by omega, ?_⟩
        rw [HR.out, if_neg (by omega), ← List.append_assoc]
        congr 1
        by_cases h : r < 10
        · rw [if_pos (by omega), Lib.decDigits_one h, show r % 10 = r by omega]
          rfl
        · rw [if_neg (by omega)]
          exact dec_go r h
      case measure => simp [intOf]; omega
    · have hr00 : r = 0 := by omega
      rw [if_pos hr00, List.nil_append] at HR
      clear hr00
      go_wp2_with fail
      go_ret
      exact ⟨by rw [HR.out]; rfl, rfl⟩
theorem decimal_spec (w : World) (n : Nat) (hn : n ≤ 9223372036854775807) :
    Calls Tryd.prog 19 #[.int .i64 (n : Int)] w fun e w' => e = .returned (.string ⟨(Lib.itoa (n : Int)).toArray⟩) ∧ w = w' := by
  have hn0 : (0 : Int) ≤ (n : Int) := by omega
  rw [Lib.itoa_nonneg]
  go_enter Tryd.func19, Tryd.ntmps19
  go_wp2_with fail
  refine (digits_spec _ n hn).mono ?_
  rintro e w2 ⟨rfl, rfl⟩
  go_wp2_with fail
  go_ret
  exact ⟨rfl, rfl⟩
namespace Lx
theorem dig_cls : ∀ d, d < 10 → cls (UInt8.ofNat (48 + d)) = 4 ∧ (UInt8.ofNat (48 + d)).toNat - 48 = d ∧ UInt8.ofNat (48 + d) ≠ 61 := by decide +kernel
theorem dec_facts : ∀ (d n : Nat), 0 < d → n < 10 ^ d → Lib.decDigits n ≠ [] ∧ (Lib.decDigits n).length ≤ d ∧ (∀ c ∈ Lib.decDigits n, cls c = 4 ∧ c ≠ 61) ∧ num (Lib.decDigits n) = n
  | 0, n, h, _ => absurd h (by omega)
  | d + 1, n, _, h => by
    by_cases h10 : n < 10
    · have hd := dig_cls n h10
      rw [Lib.decDigits_one h10]
      refine ⟨by simp, by simp, ?_, ?_⟩
      · intro c hc
        rw [List.mem_singleton.1 hc]
        exact ⟨hd.1, hd.2.2⟩
      · show 10 * 0 + ((UInt8.ofNat (48 + n)).toNat - 48) = n
        rw [hd.2.1]
        omega
    · have hd0 : 0 < d := by
        rcases Nat.eq_zero_or_pos d with h0 | h0
        · subst h0
          simp at h
          omega
        · exact h0
      have ih := dec_facts d (n / 10) hd0 (by rw [Nat.pow_succ] at h; omega)
      have hd := dig_cls (n % 10) (Nat.mod_lt _ (by decide))
      rw [dec_go n h10]
      refine ⟨by simp, by rw [List.length_append]; have := ih.2.1; simp; omega, ?_, ?_⟩
      · intro c hc
        rcases List.mem_append.1 hc with h1 | h1
        · exact ih.2.2.1 c h1
        · rw [List.mem_singleton.1 h1]
          exact ⟨hd.1, hd.2.2⟩
      · have h4 := ih.2.2.2
        unfold num at h4 ⊢
        rw [List.foldl_append, h4]
        show 10 * (n / 10) + ((UInt8.ofNat (48 + n % 10)).toNat - 48) = n
        rw [hd.2.1]
        omega
theorem wl_every (p : UInt8 → Bool) : ∀ s : Bytes, (∀ c ∈ s, p c = true) → wl p s = s.length
  | [], _ => rfl
  | c :: s, h => by
    rw [wl, if_pos (h c (by simp)), wl_every p s (fun d hd => h d (by simp [hd]))]
    rfl
/-- A name, a symbol that stands alone, and a number. -/
theorem words_scan {a : UInt8} {r d : Bytes} {c : UInt8} (ha : cls a = 3) (hr : ∀ x ∈ r, word x = true) (hl : r.length + 1 ≤ 24) (hc : cls c = 6 ∨ cls c = 7) (hd0 : d ≠ []) (hd : ∀ x ∈ d, cls x = 4 ∧ x ≠ 61) (hdl : d.length ≤ 10) :
    sc 0 (a :: r ++ c :: d) = [(⟨1, a :: r, 0, 0⟩, 0), (⟨3, [c], 0, r.length + 1⟩, 0), (⟨2, d, num d, r.length + 2⟩, 0)] := by
  have hcw : word c = false := by
    unfold word
    rw [decide_eq_false_iff_not]
    omega
  have hwa : word a = true := by unfold word; simp [ha]
  have w1 : wl word (a :: r ++ c :: d) = r.length + 1 := by
    rw [wl_stop hcw, wl_every word (a :: r) (fun x hx => by
      rcases List.mem_cons.1 hx with rfl | h
      · exact hwa
      · exact hr x h)]
    rfl
  have t1 : tok (a :: r ++ c :: d) = (1, r.length + 1, 0) := by
    rw [List.cons_append] at w1 ⊢
    rw [tok_cons, if_pos ha, w1, if_neg (by omega)]
  have e1 : sc 0 (a :: r ++ c :: d) = (⟨1, a :: r, 0, 0⟩, 0) :: sc (r.length + 1) (c :: d) := by
    have h1 : (a :: r ++ c :: d).take (r.length + 1) = a :: r := by rw [← List.length_cons, List.take_left]
    have h2 : (a :: r ++ c :: d).drop (r.length + 1) = c :: d := by rw [← List.length_cons, List.drop_left]
    have h3 : mk 0 (a :: r ++ c :: d) = ⟨1, a :: r, 0, 0⟩ := by
      unfold mk
      rw [t1]
      simp only [h1]
      rfl
    rw [List.cons_append] at t1 h2 h3 ⊢
    rw [sc_tok (by omega) (by omega) (by rw [t1]), t1, h3, Nat.zero_add, h2]
  obtain ⟨b, q, rfl⟩ : ∃ b q, d = b :: q := by
    cases d with
    | nil => exact absurd rfl hd0
    | cons b q => exact ⟨b, q, rfl⟩
  have hb := hd b (by simp)
  have t2 : tok (c :: b :: q) = (3, 1, 0) := by
    rw [tok_cons, if_neg (by omega), if_neg (by omega), if_pos (by omega), if_neg, if_neg (by omega)]
    rintro ⟨_, h⟩
    simp at h
    exact hb.2 h
  have e2 : sc (r.length + 1) (c :: b :: q) = (⟨3, [c], 0, r.length + 1⟩, 0) :: sc (r.length + 2) (b :: q) := by
    rw [sc_tok (by omega) (by omega) (by rw [t2]), t2]
    have h3 : mk (r.length + 1) (c :: b :: q) = ⟨3, [c], 0, r.length + 1⟩ := by
      unfold mk
      rw [t2]
      rfl
    rw [h3]
    rfl
  have w3 : wl dig (b :: q) = (b :: q).length := wl_every dig _ (fun x hx => by unfold dig; simp [(hd x hx).1])
  have t3 : tok (b :: q) = (2, (b :: q).length, 0) := by
    rw [tok_cons, if_neg (by omega), if_pos hb.1, w3, List.drop_length, if_neg]
    rintro (h | h)
    · omega
    · cases h
  have e3 : sc (r.length + 2) (b :: q) = [(⟨2, b :: q, num (b :: q), r.length + 2⟩, 0)] := by
    have h3 : mk (r.length + 2) (b :: q) = ⟨2, b :: q, num (b :: q), r.length + 2⟩ := by
      unfold mk
      rw [t3]
      simp only [List.take_length, and_self, if_true]
    rw [sc_tok (by omega) (by omega) (by rw [t3]), t3, h3]
    simp only [List.drop_length, sc_nil]
  rw [e1, e2, e3]
end Lx
attribute [local irreducible] Lx.tab Lx.tab0 Lx.cls
theorem name_spec (w : World) (s : Bytes) (hs : s.length ≤ 9223372036854775807) : Calls Tryd.prog 18 #[.string ⟨s.toArray⟩] w fun e w' => (∃ b : Bool, e = .returned (.bool b) ∧ (b = true → s ≠ [] ∧ s.length ≤ 24 ∧ (∀ c ∈ s, Lx.word c = true) ∧ ∀ c r, s = c :: r → Lx.cls c = 3)) ∧ w' = w := by
  obtain ⟨sb, hsb⟩ : ∃ sb : ByteArray, sb = ⟨s.toArray⟩ := ⟨_, rfl⟩
  have HSB := Lib.hid hsb
  have HSZ : Hid (sb.size = s.length) := Lib.hid (by rw [hsb]; show s.toArray.size = _; simp)
  rw [← hsb]
  clear hsb
  go_enter Tryd.func18, Tryd.ntmps18
  go_wp2_with fail
  go_loop [3] (fun i => ∃ k : Nat, i = .int .i64 (k : Int) ∧ k ≤ s.length ∧ Hid (∀ c ∈ s.take k, Lx.word c = true)) (fun i => s.length - (intOf i).toNat)
  case atStart => exact ⟨0, rfl, Nat.zero_le _, Lib.hid (by simp)⟩
  case round =>
    obtain ⟨k, rfl, hk, hc⟩ := hrel
    by_cases hlt : k < s.length
    · have q1 : (k : Int) < (sb.size : Int) := by rw [HSZ.out]; omega
      have q0 : (0 : Int) ≤ (k : Int) := by omega
      have hkk : k < sb.size := by rw [HSZ.out]; exact hlt
      have HGE := Lib.hid (sb_get HSB hkk hlt)
      have HLT := Lib.hid hlt
      go_wp2_with fail
      refine (word_spec _ sb[k]).mono ?_
      rintro e w1 ⟨rfl, rfl⟩
      obtain ⟨b, hb⟩ : ∃ b, Lx.word sb[k] = b := ⟨_, rfl⟩
      rw [hb]
      cases b with
      | false =>
        clear hb
        go_wp2_with fail
        go_ret
        first | exact ⟨⟨false, rfl, fun h => by cases h⟩, rfl⟩ | exact ⟨rfl, rfl⟩ | exact ⟨.inl rfl, rfl⟩
      | true =>
        have HN : Hid (∀ c ∈ s.take (k + 1), Lx.word c = true) := Lib.hid (by
          intro c hcm
          rw [List.take_add_one, List.getElem?_eq_getElem hlt] at hcm
          rcases List.mem_append.1 hcm with h | h
          · exact hc.out c h
          · simp at h
            rw [h, ← HGE.out]
            exact hb)
        clear hb
        go_wp2_with fail
        go_round
        case rel => exact ⟨k + 1, vint (by omega), by omega, HN⟩
        case measure => simp [intOf]; omega
    · have q1 : ¬ (k : Int) < (sb.size : Int) := by rw [HSZ.out]; omega
      have HALL : Hid (∀ c ∈ s, Lx.word c = true) := Lib.hid (by
        have := hc.out
        rwa [List.take_of_length_le (by omega)] at this)
      by_cases h0 : 0 < s.length
      · have r0 : (0 : Int) < (sb.size : Int) := by rw [HSZ.out]; omega
        have hkk : 0 < sb.size := by rw [HSZ.out]; exact h0
        have HGE := Lib.hid (sb_get HSB hkk h0)
        have HLT := Lib.hid h0
        by_cases h24 : s.length ≤ 24
        · have r1 : (sb.size : Int) ≤ 24 := by rw [HSZ.out]; omega
          have H24 := Lib.hid h24
          go_wp2_with fail
          refine (letter_spec _ sb[0]).mono ?_
          rintro e w1 ⟨rfl, rfl⟩
          obtain ⟨b, hb⟩ : ∃ b, decide (Lx.cls sb[0] = 3) = b := ⟨_, rfl⟩
          rw [hb]
          have HB := Lib.hid hb
          clear hb
          go_wp2_with fail
          go_ret
          refine ⟨⟨b, rfl, fun hbt => ⟨fun h => by have := HLT.out; rw [h] at this; simp at this, H24.out, HALL.out, fun c r hcr => ?_⟩⟩, rfl⟩
          have h9 := HB.out
          rw [hbt] at h9
          have h8 := of_decide_eq_true h9
          rw [HGE.out] at h8
          subst hcr
          exact h8
        · have r1 : ¬ (sb.size : Int) ≤ 24 := by rw [HSZ.out]; omega
          go_wp2_with fail
          go_ret
          first | exact ⟨⟨false, rfl, fun h => by cases h⟩, rfl⟩ | exact ⟨rfl, rfl⟩ | exact ⟨.inl rfl, rfl⟩
      · have r0 : ¬ (0 : Int) < (sb.size : Int) := by rw [HSZ.out]; omega
        go_wp2_with fail
        go_ret
        first | exact ⟨⟨false, rfl, fun h => by cases h⟩, rfl⟩ | exact ⟨rfl, rfl⟩ | exact ⟨.inl rfl, rfl⟩
end Go.Proofs.YtghhddpaloogmaaDoor
