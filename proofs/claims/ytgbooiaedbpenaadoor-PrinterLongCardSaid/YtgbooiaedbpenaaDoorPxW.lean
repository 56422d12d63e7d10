/-
  PqLw, PqLn, PqLa in one text.
-/
import Derived.Test.YtgbooiaedbpenaaDoorPxC
import Derived.Test.YtgbooiaedbpenaaDoorLxQ
import Derived.Lib.ItoaLen
import Derived.Laws.Bits64
import Derived.Laws.Bits64b
import Derived.Laws.BitsAllLaws
import Derived.Lib.AppendStr
import Derived.Laws.DeepStrings4
import Derived.Test.YtgbooiaedbpenaaDoorPxM
namespace Go.Proofs.YtgbooiaedbpenaaDoor
set_option linter.unusedVariables false
set_option linter.unusedSimpArgs false
open Go Go.RowKit Go.Shelf

/-- Reading a token out of a list. -/
theorem TokS.get9 {w : World} {ao : Option Addr} {m cap : Nat} {l : List Lx.Tk} (h : TokS w (.slice ao m cap) l) {k : Nat} {t : Lx.Tk} (ht : l[k]? = some t) : ∃ g off, ao = some ⟨g, off, none⟩ ∧
    w.cell? ⟨g, off + k * 4, none⟩ = some (.int .i64 t.kind) ∧ w.cell? ⟨g, off + k * 4 + 1, none⟩ = some (.string ⟨t.text.toArray⟩) ∧ w.cell? ⟨g, off + k * 4 + 2, none⟩ = some (.int .i64 t.n) ∧ w.cell? ⟨g, off + k * 4 + 3, none⟩ = some (.int .i64 t.at_) := by
  obtain ⟨ao', cap', he, _, h3⟩ := h
  cases he
  rw [Nat.mul_comm k 4]
  exact h3 k t ht
theorem TokS.form {w : World} {v : Value} {l : List Lx.Tk} (h : TokS w v l) : ∃ ao cap, v = .slice ao l.length cap ∧ l.length ≤ cap := by
  obtain ⟨ao, cap, h1, h2, _⟩ := h
  exact ⟨ao, cap, h1, h2⟩
theorem sub_take9 (s : Bytes) (i : Nat) : (⟨s.toArray⟩ : ByteArray).extract 0 i = ⟨(s.take i).toArray⟩ := by
  rw [ByteArray.extract_mk]
  simp
theorem sub_drop (s : Bytes) (i : Nat) : (⟨s.toArray⟩ : ByteArray).extract i s.length = ⟨(s.drop i).toArray⟩ := by
  rw [ByteArray.extract_mk]
  simp [List.take_of_length_le]
theorem dec_go (n : Nat) (h : ¬ n < 10) : Lib.decDigits n = Lib.decDigits (n / 10) ++ [UInt8.ofNat (48 + n % 10)] := by rw [Lib.decDigits, dif_neg h]
theorem dig_str : ∀ d : Nat, d < 10 → (⟨#[48, 49, 50, 51, 52, 53, 54, 55, 56, 57]⟩ : ByteArray).extract d (d + 1) = ⟨[UInt8.ofNat (48 + d)].toArray⟩ := by decide
theorem join2 (a x : Bytes) : (⟨a.toArray⟩ : ByteArray) ++ ⟨x.toArray⟩ = ⟨(a ++ x).toArray⟩ := by
  apply ByteArray.ext
  apply Array.ext'
  simp
theorem dec_len (n : Nat) (hn : n ≤ 9223372036854775807) : (Lib.decDigits n).length ≤ 21 := by
  have := Lib.itoa_length_le (n : Int) (by omega) (by omega)
  rwa [Lib.itoa_nonneg] at this
namespace Lx
def tshift (d : Nat) (t : Tk) : Tk := { t with at_ := t.at_ + d }
theorem take_eq {α : Type} {a b : List α} {k : Nat} {x y : α} (h : a.take k = b.take k) (hx : a[k]? = some x) (hy : b[k]? = some y) (e : x = y) : a.take (k + 1) = b.take (k + 1) := by
  rw [List.take_add_one, List.take_add_one, hx, hy, h, e]
theorem dig_cls : ∀ d, d < 10 → cls (UInt8.ofNat (48 + d)) = 4 ∧ (UInt8.ofNat (48 + d)).toNat - 48 = d ∧ UInt8.ofNat (48 + d) ≠ 61 := by decide +kernel
theorem dec_facts : ∀ (d n : Nat), 0 < d → n < 10 ^ d → Lib.decDigits n ≠ [] ∧ (Lib.decDigits n).length ≤ d ∧ (∀ c ∈ Lib.decDigits n, cls c = 4 ∧ c ≠ 61) ∧ num (Lib.decDigits n) = n
  | 0, n, h, _ => absurd h (by omega)
  | d + 1, n, _, h => by
    by_cases h10 : n < 10
    · have hd := dig_cls n h10
      rw [Lib.decDigits_one h10]
      refine ⟨by simp, by simp, ?_, ?_⟩
      · intro c hc
        rw [List.mem_singleton.1 hc]
        exact ⟨hd.1, hd.2.2⟩
      · show 10 * 0 + ((UInt8.ofNat (48 + n)).toNat - 48) = n
        rw [hd.2.1]
        omega
    · have hd0 : 0 < d := by
        rcases Nat.eq_zero_or_pos d with h0 | h0
        · subst h0
          simp at h
          omega
        · exact h0
      have ih := dec_facts d (n / 10) hd0 (by rw [Nat.pow_succ] at h; omega)
      have hd := dig_cls (n % 10) (Nat.mod_lt _ (by decide))
      rw [dec_go n h10]
      refine ⟨by simp, by rw [List.length_append]; have := ih.2.1; simp; omega, ?_, ?_⟩
      · intro c hc
        rcases List.mem_append.1 hc with h1 | h1
        · exact ih.2.2.1 c h1
        · rw [List.mem_singleton.1 h1]
          exact ⟨hd.1, hd.2.2⟩
      · have h4 := ih.2.2.2
        unfold num at h4 ⊢
        rw [List.foldl_append, h4]
        show 10 * (n / 10) + ((UInt8.ofNat (48 + n % 10)).toNat - 48) = n
        rw [hd.2.1]
        omega
theorem wl_every (p : UInt8 → Bool) : ∀ s : Bytes, (∀ c ∈ s, p c = true) → wl p s = s.length
  | [], _ => rfl
  | c :: s, h => by
    rw [wl, if_pos (h c (by simp)), wl_every p s (fun d hd => h d (by simp [hd]))]
    rfl
end Lx
end Go.Proofs.YtgbooiaedbpenaaDoor
namespace Go.Proofs.YtgbooiaedbpenaaDoor
set_option linter.unusedVariables false
set_option linter.unusedSimpArgs false
open Go Go.RowKit Go.Shelf
namespace Lx
/-- From a place on there is a token, or nothing. -/
def atTok (s : Bytes) (j : Nat) : Prop := ∀ h : j < s.length, cls s[j] ≠ 1 ∧ cls s[j] ≠ 2
theorem sc_next1 {s : Bytes} {k : Nat} (h : k < s.length) (hc : cls s[k] = 1) (o : Nat) : sc (o + k) (s.drop k) = sc (o + (k + 1)) (s.drop (k + 1)) := by
 rw [List.drop_eq_getElem_cons h, sc_blank hc, Nat.add_assoc]
theorem sc_next2 {s : Bytes} {k j m : Nat} (h : k < s.length) (hc : cls s[k] = 2) (hw : wl line (s.drop k) = j) (hm : m = k + j) (o : Nat) : sc (o + k) (s.drop k) = sc (o + m) (s.drop m) := by
 have h1 := sc_hash (o := o + k) (r := s.drop (k + 1)) hc
 rw [← List.drop_eq_getElem_cons h, hw, List.drop_drop, Nat.add_assoc, ← hm] at h1
 exact h1
theorem sc_some {o : Nat} {c : UInt8} {r : Bytes} (h1 : cls c ≠ 1) (h2 : cls c ≠ 2) : sc o (c :: r) ≠ [] := by
 by_cases h3 : (tok (c :: r)).2.2 = 0
 · rw [sc_tok h1 h2 h3]; simp
 · rw [sc_err h1 h2 h3]; simp
end Lx
attribute [local irreducible] Lx.cls Lx.sc
set_option maxHeartbeats 1000000 in
theorem gap_spec (w : World) (s : Bytes) (hs : s.length ≤ 1000000) (i : Int) (i0 : Nat) (hi : i = (i0 : Int)) (hi0 : i0 ≤ s.length) : Calls Tryd.prog 70 #[.string ⟨s.toArray⟩, .int .i64 i] w fun e w' => (∃ j : Nat, e = .returned (.int .i64 (j : Int)) ∧ i0 ≤ j ∧ j ≤ s.length ∧ Lx.atTok s j ∧ ∀ o, Lx.sc (o + i0) (s.drop i0) = Lx.sc (o + j) (s.drop j)) ∧ w' = w := by
 subst hi
 obtain ⟨sb, hsb⟩ : ∃ sb : ByteArray, sb = ⟨s.toArray⟩ := ⟨_, rfl⟩
 have HSB := Lib.hid hsb
 have HSZ : Hid (sb.size = s.length) := Lib.hid (by rw [hsb]; show s.toArray.size = _; simp)
 rw [← hsb]
 clear hsb
 go_enter Tryd.func70, Tryd.ntmps70
 go_wp2_with fail
 go_loop [1] (fun i => ∃ k : Nat, i = .int .i64 (k : Int) ∧ i0 ≤ k ∧ k ≤ s.length ∧ Hid (∀ o, Lx.sc (o + i0) (s.drop i0) = Lx.sc (o + k) (s.drop k))) (fun i => s.length - (intOf i).toNat)
 case atStart => exact ⟨i0, rfl, Nat.le_refl _, hi0, Lib.hid fun o => rfl⟩
 case round =>
  obtain ⟨k, rfl, hik, hk, hc⟩ := hrel
  by_cases hlt : k < s.length
  · have q1 : (k : Int) < (sb.size : Int) := by rw [HSZ.out]; omega
    have q0 : (0 : Int) ≤ (k : Int) := by omega
    have hkk : k < sb.size := by rw [HSZ.out]; exact hlt
    have HGE := Lib.hid (sb_get HSB hkk hlt)
    have HLT := Lib.hid hlt
    go_wp2_with fail
    by_cases h1 : Lx.cls s[k] = 1
    · have HN := Lib.hid fun o => (hc.out o).trans (Lx.sc_next1 hlt h1 o)
      refine (has_spec _ [32, 9, 10] (by decide) sb[k] true (Lib.hid ((Lx.blank_has _).trans (decide_eq_true (by rw [HGE.out]; exact h1))))).mono ?_
      rintro e w1 ⟨rfl, rfl⟩
      clear h1
      go_wp2_with fail
      go_round
      case rel => exact ⟨k + 1, vint (by omega), by omega, by omega, HN⟩
      case measure => simp [intOf]; omega
    · refine (has_spec _ [32, 9, 10] (by decide) sb[k] false (Lib.hid ((Lx.blank_has _).trans (decide_eq_false (by rw [HGE.out]; exact h1))))).mono ?_
      rintro e w1 ⟨rfl, rfl⟩
      have hh := Lx.hash_num s[k]
      by_cases h2 : Lx.cls s[k] = 2
      · rw [decide_eq_true h2] at hh
        have hh2 := of_decide_eq_true hh.symm
        have n35 : ((sb[k].toNat : Int) == 35) = true := by rw [HGE.out, beq_iff_eq]; omega
        have HP := Lib.hid (line_pos2 hlt (by rw [Lx.at'_lt hlt]; exact h2))
        have HN2 := Lib.hid fun j m (hw : Lx.wl Lx.line (s.drop k) = j) (hm : m = k + j) o => (hc.out o).trans (Lx.sc_next2 hlt h2 hw hm o)
        clear h1 h2 hh hh2
        go_upto_region 5 with fail
        go_loop [1] (fun i => ∃ j : Nat, i = .int .i64 ((k + j : Nat) : Int) ∧ k + j ≤ s.length ∧ Hid (Lx.wl Lx.line (s.drop k) = j + Lx.wl Lx.line (s.drop (k + j)))) (fun i => s.length - (intOf i).toNat)
        case atStart => exact ⟨0, rfl, hk, Lib.hid (by simp)⟩
        case round =>
         obtain ⟨j, rfl, hj, hwl⟩ := hrel
         obtain ⟨m, hm⟩ : ∃ m, m = k + j := ⟨_, rfl⟩
         rw [← hm]
         have HM := Lib.hid hm
         rw [← hm] at hj hwl
         clear hm
         by_cases hm : m < s.length
         · have r1 : (m : Int) < (sb.size : Int) := by rw [HSZ.out]; omega
           have r0 : (0 : Int) ≤ (m : Int) := by omega
           go_wp2_with fail
           · rename_i hx
             go_round
             case rel => exact ⟨j + 1, vint (by have := HM.out; omega), by have := HM.out; omega, wl_more hwl HM (line_yes HSB _ hm hx)⟩
             case measure => simp [intOf]; omega
           · rename_i hx
             have hw0 := line_no HSB _ hm hx
             have hwj := hwl.out
             rw [hw0, Nat.add_zero] at hwj
             have hj0 : 0 < j := by have := HP.out; omega
             go_round
             case rel => exact ⟨m, rfl, by have := HM.out; omega, hj, Lib.hid (HN2.out j m hwj HM.out)⟩
             case measure => have := HM.out; simp [intOf]; omega
         · have r1 : ¬ (m : Int) < (sb.size : Int) := by rw [HSZ.out]; omega
           have hwj := hwl.out
           rw [Lx.wl_end Lx.line s m (by omega), Nat.add_zero] at hwj
           go_wp2_with fail
           go_round
           case rel => exact ⟨m, rfl, by have := HM.out; omega, hj, Lib.hid (HN2.out j m hwj HM.out)⟩
           case measure => have := HLT.out; simp [intOf]; omega
      · rw [decide_eq_false h2] at hh
        have hh2 := of_decide_eq_false hh.symm
        have n35 : ((sb[k].toNat : Int) == 35) = false := by rw [HGE.out, beq_eq_false_iff_ne]; omega
        have HA : Hid (Lx.atTok s k) := Lib.hid fun _ => ⟨h1, h2⟩
        clear h1 h2 hh hh2
        go_wp2_with fail
        go_ret
        exact ⟨⟨k, rfl, hik, hk, HA.out, hc.out⟩, rfl⟩
  · have q1 : ¬ (k : Int) < (sb.size : Int) := by rw [HSZ.out]; omega
    have HA : Hid (Lx.atTok s k) := Lib.hid fun h => absurd h hlt
    go_wp2_with fail
    go_ret
    exact ⟨⟨k, rfl, hik, hk, HA.out, hc.out⟩, rfl⟩
end Go.Proofs.YtgbooiaedbpenaaDoor
namespace Go.Proofs.YtgbooiaedbpenaaDoor
set_option linter.unusedVariables false
set_option linter.unusedSimpArgs false
open Go Go.RowKit Go.Shelf
attribute [local irreducible] Lx.cls Go.wpStill

namespace Lx
theorem num_snoc (l : Bytes) (c : UInt8) : num (l ++ [c]) = 10 * num l + (c.toNat - 48) := by
 unfold num
 rw [List.foldl_append]
 rfl
theorem num_lt : ∀ (n : Nat) (l : Bytes), l.length = n → (∀ c ∈ l, c.toNat ≤ 57) → num l < 10 ^ n
 | 0, l, h, _ => by
  have : l = [] := List.eq_nil_of_length_eq_zero h
  subst this
  decide
 | n + 1, l, h, hd => by
  obtain ⟨p, c, rfl⟩ : ∃ p c, l = p ++ [c] := ⟨l.dropLast, l.getLast (by intro e; rw [e] at h; cases h), (List.dropLast_concat_getLast _).symm⟩
  have ih := num_lt n p (by simpa using h) (fun x hx => hd x (by simp [hx]))
  have hc := hd c (by simp)
  rw [num_snoc, Nat.pow_succ]
  omega
theorem at_word (s : Bytes) (j : Nat) (h : j < s.length) : (at' s j = 3 ∨ at' s j = 4 ∨ at' s j = 5) = (word s[j] = true) := by
 rw [at'_lt h]
 unfold word
 simp
end Lx
theorem letter_b (w : World) (c : UInt8) (b : Bool) (h : decide (Lx.cls c = 3) = b) : Calls Tryd.prog 67 #[.int .u8 (c.toNat : Int)] w fun e w' => e = .returned (.bool b) ∧ w' = w := by
 rw [← h]
 exact letter_spec w c
theorem digit_b (w : World) (c : UInt8) (b : Bool) (h : decide (Lx.cls c = 4) = b) : Calls Tryd.prog 81 #[.int .u8 (c.toNat : Int)] w fun e w' => e = .returned (.bool b) ∧ w' = w := by
 rw [← h]
 exact digit_spec w c
theorem word_b (w : World) (c : UInt8) (b : Bool) (h : Lx.word c = b) : Calls Tryd.prog 66 #[.int .u8 (c.toNat : Int)] w fun e w' => e = .returned (.bool b) ∧ w' = w := by
 rw [← h]
 exact word_spec w c
theorem sub_mid' (s : Bytes) (i n : Nat) : (⟨s.toArray⟩ : ByteArray).extract i (i + n) = ⟨((s.drop i).take n).toArray⟩ := by
 rw [ByteArray.extract_mk]
 simp
theorem tok_ok {s : Bytes} {sb : ByteArray} (HSB : Hid (sb = ⟨s.toArray⟩)) {i m kd : Nat} (h : Lx.tok (s.drop i) = (kd, m - i, 0)) (him : i ≤ m) (hk : kd ≠ 2) (hm : m ≤ s.length) :
 (Lx.tok (s.drop i)).2.2 = 0 ∧ tkv (Lx.mk i (s.drop i)) = .agg #[.int .i64 kd, .string (sb.extract i m), .int .i64 0, .int .i64 (i : Int)] := by
 refine ⟨by rw [h], ?_⟩
 have e : sb.extract i m = ⟨((s.drop i).take (m - i)).toArray⟩ := by
  have := sub_mid' s i (m - i)
  rw [Nat.add_sub_cancel' him] at this
  rw [HSB.out, this]
 rw [e]
 unfold tkv Lx.mk
 rw [h]
 simp only [hk, false_and, if_false]
 rfl
theorem tok_ok2 {s : Bytes} {sb : ByteArray} (HSB : Hid (sb = ⟨s.toArray⟩)) {i m n : Nat} (h : Lx.tok (s.drop i) = (2, m - i, 0)) (him : i ≤ m) (hn : Lx.num ((s.drop i).take (m - i)) = n) (hm : m ≤ s.length) :
 (Lx.tok (s.drop i)).2.2 = 0 ∧ tkv (Lx.mk i (s.drop i)) = .agg #[.int .i64 2, .string (sb.extract i m), .int .i64 (n : Int), .int .i64 (i : Int)] := by
 refine ⟨by rw [h], ?_⟩
 have e : sb.extract i m = ⟨((s.drop i).take (m - i)).toArray⟩ := by
  have := sub_mid' s i (m - i)
  rw [Nat.add_sub_cancel' him] at this
  rw [HSB.out, this]
 rw [e]
 unfold tkv Lx.mk
 rw [h]
 simp only [and_self, if_true, hn]
 rfl
/-- What next returns. -/
def NextR (s : Bytes) (i : Nat) (w : World) (e : Ending) (w' : World) : Prop := ∃ (tk : Value) (er : Nat), e = .returned (.tuple #[tk, .int .i64 er]) ∧ Hid (er = (Lx.tok (s.drop i)).2.2 ∧ ∃ (k : Int) (x : ByteArray) (n a : Int), tk = .agg #[.int .i64 k, .string x, .int .i64 n, .int .i64 a] ∧ (er = 0 → tk = tkv (Lx.mk i (s.drop i)))) ∧ Chg [] w w'
theorem next_chg {w W : World} {b4 b7 : Nat} (h4 : w.heap.size ≤ b4) (h7 : w.heap.size ≤ b7) (h : Chg [b4, b7] w W) : Chg [] w W := ⟨h.os, h.tape, h.output, h.size, fun k hk _ => h.block k hk (by simp; omega)⟩
set_option maxRecDepth 100000 in
set_option maxHeartbeats 4000000 in
theorem next_letter (w : World) (s : Bytes) (hs : s.length ≤ 1000000) (i : Nat) (hi : i < s.length) (HT : Hid (Lx.cls s[i] ≠ 1 ∧ Lx.cls s[i] ≠ 2)) (hcl : Lx.at' s i = 3) :
 Calls Tryd.prog 71 #[.string ⟨s.toArray⟩, .int .i64 (i : Int)] w (NextR s i w) := by
 obtain ⟨sb, hsb⟩ : ∃ sb : ByteArray, sb = ⟨s.toArray⟩ := ⟨_, rfl⟩
 have HSB := Lib.hid hsb
 have HSZ : Hid (sb.size = s.length) := Lib.hid (by rw [hsb]; exact size_of9 s)
 rw [← hsb]
 clear hsb
 have q1 : (i : Int) < (sb.size : Int) := by rw [HSZ.out]; omega
 have q0 : (0 : Int) ≤ (i : Int) := by omega
 have hkk : i < sb.size := by rw [HSZ.out]; exact hi
 have HGE := Lib.hid (sb_get HSB hkk hi)
 have HTK := Lib.hid (Lx.tok_at s i hi)
 have HLT := Lib.hid hi
 rw [← Lx.at'_lt hi] at HTK
 obtain ⟨c, hc⟩ : ∃ c, Lx.at' s i = c := ⟨_, rfl⟩
 rw [hc] at HTK
 have HCc : Hid (Lx.cls s[i] = c) := Lib.hid ((Lx.at'_lt hi).symm.trans hc)
 have HT' : Hid (c ≠ 1 ∧ c ≠ 2) := Lib.hid (by rw [← HCc.out]; exact HT.out)
 have HCb : Hid (Lx.cls sb[i] = c) := Lib.hid (by rw [HGE.out]; exact HCc.out)
 have hcl' : c = 3 := by rw [hc] at hcl; exact hcl
 clear hc HT hcl
 go_enter Tryd.func71, Tryd.ntmps71
 go_wp2_with fail
 have hb4 := (Blk.new w [.int .i64 0, .string ⟨#[]⟩, .int .i64 0, .int .i64 0] 137).alloc (.cells #[.int .i64 0, .string ⟨#[]⟩, .int .i64 0, .int .i64 i] 137)
 have hb7 := Blk.new (w.alloc (.cells #[.int .i64 0, .string ⟨#[]⟩, .int .i64 0, .int .i64 0] 137)) [.int .i64 0, .string ⟨#[]⟩, .int .i64 0, .int .i64 i] 137
 have hcc : Chg [] w ((w.alloc (.cells #[.int .i64 0, .string ⟨#[]⟩, .int .i64 0, .int .i64 0] 137)).alloc (.cells #[.int .i64 0, .string ⟨#[]⟩, .int .i64 0, .int .i64 i] 137)) := ((Chg.refl _ _).alloc _).alloc _
 simp only [World.size_alloc] at hb7 ⊢
 obtain ⟨W1, hW1⟩ : ∃ W1, W1 = (w.alloc (.cells #[.int .i64 0, .string ⟨#[]⟩, .int .i64 0, .int .i64 0] 137)).alloc (.cells #[.int .i64 0, .string ⟨#[]⟩, .int .i64 0, .int .i64 i] 137) := ⟨_, rfl⟩
 rw [← hW1] at hb4 hb7 hcc ⊢
 obtain ⟨b4, e4⟩ : ∃ b4, b4 = w.heap.size := ⟨_, rfl⟩
 obtain ⟨b7, e7⟩ : ∃ b7, b7 = b4 + 1 := ⟨_, rfl⟩
 rw [← e4, ← e7] at hb7
 rw [← e4] at hb4
 rw [← e4, ← e7]
 have n47 : ¬ b4 = b7 := by omega
 have n74 : ¬ b7 = b4 := by omega
 have HB4 := Lib.hid hb4
 have HB7 := Lib.hid hb7
 have HC1 := Lib.hid hcc
 have HW4 : Hid (w.heap.size ≤ b4 ∧ w.heap.size ≤ b7) := Lib.hid (by omega)
 have y0 := hb4.cell (i := 0) rfl
 have y1 := hb4.cell (i := 1) rfl
 have y2 := hb4.cell (i := 2) rfl
 have y3 := hb4.cell (i := 3) rfl
 have z0 := hb7.cell (i := 0) rfl
 have z1 := hb7.cell (i := 1) rfl
 have z2 := hb7.cell (i := 2) rfl
 have z3 := hb7.cell (i := 3) rfl
 have fy0 := hb4.free 0
 have fy1 := hb4.free 1
 have fy2 := hb4.free 2
 have fy3 := hb4.free 3
 have fz0 := hb7.free 0
 have fz1 := hb7.free 1
 have fz2 := hb7.free 2
 have fz3 := hb7.free 3
 clear hW1 hb4 hb7 hcc e4 e7
 obtain rfl : c = 3 := hcl'
 have HT3 : Hid (Lx.tok (s.drop i) = (1, Lx.wl Lx.word (s.drop i), if 24 < Lx.wl Lx.word (s.drop i) then 3 else 0)) := Lib.hid HTK.out
 have hw1 := Lx.wl_drop Lx.word s i hi
 rw [if_pos (by unfold Lx.word; exact decide_eq_true (Or.inl HCc.out))] at hw1
 have HW1 := Lib.hid hw1
 clear hw1
 refine (letter_b _ sb[i] true (decide_eq_true HCb.out)).mono ?_
 rintro e W2 ⟨rfl, rfl⟩
 go_upto_region 5 with fail
 go_loop [6] (fun ev => ∃ m : Nat, ev = .int .i64 (m : Int) ∧ i < m ∧ m ≤ s.length ∧ Hid (Lx.wl Lx.word (s.drop i) = (m - i) + Lx.wl Lx.word (s.drop m))) (fun ev => s.length - (intOf ev).toNat)
 case atStart => exact ⟨i + 1, vint (by omega), by omega, by omega, Lib.hid (by rw [HW1.out]; omega)⟩
 case round =>
  obtain ⟨m, rfl, him, hml, hwl⟩ := hrel
  have m0 : (0 : Int) ≤ (m : Int) := by omega
  by_cases hm : m < s.length
  · have m1 : (m : Int) < (sb.size : Int) := by rw [HSZ.out]; omega
    have hmm : m < sb.size := by rw [HSZ.out]; exact hm
    have HGM := Lib.hid (sb_get HSB hmm hm)
    obtain ⟨b, hb⟩ : ∃ b, Lx.word sb[m] = b := ⟨_, rfl⟩
    have HWW := Lib.hid (Lx.wl_drop Lx.word s m hm)
    have HB := Lib.hid hb
    clear hb
    go_wp2_with fail
    refine (word_b _ sb[m] b HB.out).mono ?_
    rintro e W3 ⟨rfl, rfl⟩
    cases b with
    | true =>
     have HN : Hid (Lx.wl Lx.word (s.drop i) = (m + 1 - i) + Lx.wl Lx.word (s.drop (m + 1))) := Lib.hid (by
      rw [hwl.out, HWW.out, if_pos (by rw [← HGM.out]; exact HB.out)]
      omega)
     go_wp2_with fail
     go_round
     case rel => exact ⟨m + 1, vint (by omega), by omega, by omega, HN⟩
     case measure => simp [intOf]; omega
    | false =>
     have HN : Hid (Lx.wl Lx.word (s.drop i) = m - i) := Lib.hid (by
      rw [hwl.out, HWW.out, if_neg (by rw [← HGM.out, HB.out]; decide)]
      omega)
     by_cases h24 : 24 < m - i
     · have k1 : (24 : Int) < (m : Int) - (i : Int) := by omega
       go_wp2_with fail
       have HE : Hid ((Lx.tok (s.drop i)).2.2 = 3) := Lib.hid (by rw [HT3.out, HN.out, if_pos h24])
       exact bodyPost_ret (v := .tuple #[.agg #[.int .i64 0, .string ⟨#[]⟩, .int .i64 0, .int .i64 0], .int .i64 3]) (by simp [results, Tryd.results71, go_sem, n47, n74, y0, y1, y2, y3, z0, z1, z2, z3]) rfl ⟨_, 3, rfl, Lib.hid ⟨HE.out.symm, _, _, _, _, rfl, fun h => by cases h⟩, (((((HC1.out).setCell _ _ (.inr HW4.out.2)).setCell _ _ (.inr HW4.out.1)).setCell _ _ (.inr HW4.out.1)).setCell _ _ (.inr HW4.out.1)).setCell _ _ (.inr HW4.out.1)⟩
     · have k1 : ¬ (24 : Int) < (m : Int) - (i : Int) := by omega
       have r1 : (i : Int) ≤ (m : Int) := by omega
       have r2 : (m : Int) ≤ (sb.size : Int) := by rw [HSZ.out]; omega
       have HE : Hid ((Lx.tok (s.drop i)).2.2 = 0 ∧ tkv (Lx.mk i (s.drop i)) = .agg #[.int .i64 1, .string (sb.extract i m), .int .i64 0, .int .i64 (i : Int)]) := Lib.hid (by exact tok_ok HSB (by rw [HT3.out, HN.out, if_neg h24]) (by omega) (by decide) (by omega))
       go_wp2_with fail
       exact bodyPost_ret (v := .tuple #[.agg #[.int .i64 1, .string (sb.extract i m), .int .i64 0, .int .i64 (i : Int)], .int .i64 0]) (by simp [results, Tryd.results71, go_sem, n47, n74, y0, y1, y2, y3, z0, z1, z2, z3]) rfl ⟨_, 0, rfl, Lib.hid ⟨HE.out.1.symm, _, _, _, _, rfl, fun _ => HE.out.2.symm⟩, ((((((HC1.out).setCell _ _ (.inr HW4.out.2)).setCell _ _ (.inr HW4.out.2)).setCell _ _ (.inr HW4.out.1)).setCell _ _ (.inr HW4.out.1)).setCell _ _ (.inr HW4.out.1)).setCell _ _ (.inr HW4.out.1)⟩
  · have m1 : ¬ (m : Int) < (sb.size : Int) := by rw [HSZ.out]; omega
    have HN : Hid (Lx.wl Lx.word (s.drop i) = m - i) := Lib.hid (by rw [hwl.out, Lx.wl_end _ _ _ (by omega)]; omega)
    by_cases h24 : 24 < m - i
    · have k1 : (24 : Int) < (m : Int) - (i : Int) := by omega
      go_wp2_with fail
      have HE : Hid ((Lx.tok (s.drop i)).2.2 = 3) := Lib.hid (by rw [HT3.out, HN.out, if_pos h24])
      exact bodyPost_ret (v := .tuple #[.agg #[.int .i64 0, .string ⟨#[]⟩, .int .i64 0, .int .i64 0], .int .i64 3]) (by simp [results, Tryd.results71, go_sem, n47, n74, y0, y1, y2, y3, z0, z1, z2, z3]) rfl ⟨_, 3, rfl, Lib.hid ⟨HE.out.symm, _, _, _, _, rfl, fun h => by cases h⟩, (((((HC1.out).setCell _ _ (.inr HW4.out.2)).setCell _ _ (.inr HW4.out.1)).setCell _ _ (.inr HW4.out.1)).setCell _ _ (.inr HW4.out.1)).setCell _ _ (.inr HW4.out.1)⟩
    · have k1 : ¬ (24 : Int) < (m : Int) - (i : Int) := by omega
      have r1 : (i : Int) ≤ (m : Int) := by omega
      have r2 : (m : Int) ≤ (sb.size : Int) := by rw [HSZ.out]; omega
      have HE : Hid ((Lx.tok (s.drop i)).2.2 = 0 ∧ tkv (Lx.mk i (s.drop i)) = .agg #[.int .i64 1, .string (sb.extract i m), .int .i64 0, .int .i64 (i : Int)]) := Lib.hid (by exact tok_ok HSB (by rw [HT3.out, HN.out, if_neg h24]) (by omega) (by decide) (by omega))
      go_wp2_with fail
      exact bodyPost_ret (v := .tuple #[.agg #[.int .i64 1, .string (sb.extract i m), .int .i64 0, .int .i64 (i : Int)], .int .i64 0]) (by simp [results, Tryd.results71, go_sem, n47, n74, y0, y1, y2, y3, z0, z1, z2, z3]) rfl ⟨_, 0, rfl, Lib.hid ⟨HE.out.1.symm, _, _, _, _, rfl, fun _ => HE.out.2.symm⟩, ((((((HC1.out).setCell _ _ (.inr HW4.out.2)).setCell _ _ (.inr HW4.out.2)).setCell _ _ (.inr HW4.out.1)).setCell _ _ (.inr HW4.out.1)).setCell _ _ (.inr HW4.out.1)).setCell _ _ (.inr HW4.out.1)⟩
end Go.Proofs.YtgbooiaedbpenaaDoor
