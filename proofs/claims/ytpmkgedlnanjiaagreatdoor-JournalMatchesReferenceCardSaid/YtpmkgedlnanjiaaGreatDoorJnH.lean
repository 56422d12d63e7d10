/-
  The digest: texts that differ in one byte have different digests; the heads of a journal have different digests.
-/
import Derived.Test.YtpmkgedlnanjiaaGreatDoorJnG
import Derived.Test.YtpmkgedlnanjiaaGreatDoorJgD
namespace Go.Proofs.YtpmkgedlnanjiaaGreatDoor
set_option linter.unusedVariables false
set_option linter.unusedSimpArgs false
set_option maxRecDepth 100000
open Go
namespace Dg
theorem xor_nil {a b : Nat} (h : a ^^^ b = 0) : a = b := by
  have : a ^^^ (a ^^^ b) = a ^^^ 0 := by rw [h]
  rw [← Nat.xor_assoc, Nat.xor_self, Nat.zero_xor, Nat.xor_zero] at this
  exact this.symm
theorem shr_inj {x y k : Nat} (hk : 0 < k) (h : x ^^^ (x / 2 ^ k) = y ^^^ (y / 2 ^ k)) : x = y := by
  have h1 : (x ^^^ y) ^^^ ((x / 2 ^ k) ^^^ (y / 2 ^ k)) = 0 := by
    have : (x ^^^ y) ^^^ ((x / 2 ^ k) ^^^ (y / 2 ^ k)) = (x ^^^ (x / 2 ^ k)) ^^^ (y ^^^ (y / 2 ^ k)) := by
      rw [Nat.xor_assoc, Nat.xor_assoc, ← Nat.xor_assoc y, Nat.xor_comm y, Nat.xor_assoc]
    rw [this, h, Nat.xor_self]
  have h2 : (x / 2 ^ k) ^^^ (y / 2 ^ k) = (x ^^^ y) / 2 ^ k := by
    rw [← Nat.shiftRight_eq_div_pow, ← Nat.shiftRight_eq_div_pow, ← Nat.shiftRight_eq_div_pow, Nat.shiftRight_xor_distrib]
  rw [h2] at h1
  have h3 : x ^^^ y = (x ^^^ y) / 2 ^ k := xor_nil h1
  have h4 : x ^^^ y = 0 := by
    by_cases h0 : x ^^^ y = 0
    · exact h0
    · exfalso
      have h5 : (x ^^^ y) / 2 ^ k < x ^^^ y := Nat.div_lt_self (by omega) (Nat.one_lt_two_pow (by omega))
      omega
  exact xor_nil h4
theorem mul_inj {x y m m' : Nat} (hx : x < 18446744073709551616) (hy : y < 18446744073709551616) (hm : m * m' % 18446744073709551616 = 1) (h : x * m % 18446744073709551616 = y * m % 18446744073709551616) : x = y := by
  have e : ∀ z, z < 18446744073709551616 → (z * m % 18446744073709551616) * m' % 18446744073709551616 = z := fun z hz => by
    rw [Nat.mod_mul_mod, Nat.mul_assoc, ← Nat.mul_mod_mod, hm, Nat.mul_one, Nat.mod_eq_of_lt hz]
  rw [← e x hx, h, e y hy]
theorem mix_inj {x y k m m' : Nat} (hk : 0 < k) (hx : x < 18446744073709551616) (hy : y < 18446744073709551616) (hm : m * m' % 18446744073709551616 = 1) (h : mix x (2 ^ k) m = mix y (2 ^ k) m) : x = y :=
  shr_inj hk (mul_inj (xor_lt hx (half_lt _ hx)) (xor_lt hy (half_lt _ hy)) hm h)
theorem take_inj {s b s2 b2 : Nat} (hs : s < 18446744073709551616) (hb : b < 18446744073709551616) (hs2 : s2 < 18446744073709551616) (hb2 : b2 < 18446744073709551616) (h : take s b = take s2 b2) : s ^^^ b = s2 ^^^ b2 := by
  have h1 := shr_inj (k := 32) (by decide) (show _ ^^^ _ / 2 ^ 32 = _ ^^^ _ / 2 ^ 32 from h)
  have h2 := mix_inj (k := 29) (m := 13787848793156543929) (m' := 10871156337175269513) (by decide) (mix_lt _ _ _) (mix_lt _ _ _) (by decide) h1
  exact mix_inj (k := 32) (m := 11400714819323198485) (m' := 17428512612931826493) (by decide) (xor_lt hs hb) (xor_lt hs2 hb2) (by decide) h2
/-- A state whose block has only the bytes that came in. -/
structure St.Neat (t : St) : Prop where
  ok : t.Ok
  b : t.b < 2 ^ (8 * t.n)
theorem or_add {b c n : Nat} (hb : b < 2 ^ n) : b ||| c * 2 ^ n = b + c * 2 ^ n := by
  rw [Nat.mul_comm, Nat.or_comm, ← Nat.two_pow_add_eq_or_of_lt hb, Nat.add_comm]
theorem St.Neat.add {t : St} (h : t.Neat) (c : UInt8) : (t.add c).Neat := by
  refine ⟨St.add_ok h.ok c, ?_⟩
  have hc := c.toNat_lt
  unfold St.add
  split
  · exact Nat.pow_pos (by decide)
  · show t.b ||| c.toNat * 2 ^ (8 * t.n) < 2 ^ (8 * (t.n + 1))
    rw [or_add h.b, Nat.mul_succ, Nat.pow_add]
    have hb := h.b
    have : c.toNat * 2 ^ (8 * t.n) ≤ 255 * 2 ^ (8 * t.n) := Nat.mul_le_mul_right _ (by omega)
    rw [Nat.mul_comm (2 ^ (8 * t.n))]
    have e : 2 ^ 8 * 2 ^ (8 * t.n) = 255 * 2 ^ (8 * t.n) + 2 ^ (8 * t.n) := by rw [show (2 : Nat) ^ 8 = 255 + 1 from rfl, Nat.add_mul, Nat.one_mul]
    omega
/-- Two states that differ. -/
structure Diff (t u : St) : Prop where
  tn : t.Neat
  un : u.Neat
  n : t.n = u.n
  d : (t.s = u.s ∧ t.b ≠ u.b) ∨ (t.s ≠ u.s ∧ t.b = u.b)
theorem xor_l {s a b : Nat} (h : s ^^^ a = s ^^^ b) : a = b := by
  have : s ^^^ (s ^^^ a) = s ^^^ (s ^^^ b) := by rw [h]
  rwa [← Nat.xor_assoc, ← Nat.xor_assoc, Nat.xor_self, Nat.zero_xor, Nat.zero_xor] at this
theorem xor_r {s a b : Nat} (h : a ^^^ s = b ^^^ s) : a = b := by
  rw [Nat.xor_comm a, Nat.xor_comm b] at h
  exact xor_l h
theorem add_one {t : St} (h : t.n + 1 = 8) (c : UInt8) : t.add c = ⟨take t.s (t.b ||| c.toNat * 2 ^ (8 * t.n)), 0, 0⟩ := by unfold St.add; rw [if_pos h]
theorem add_two {t : St} (h : ¬ t.n + 1 = 8) (c : UInt8) : t.add c = ⟨t.s, t.b ||| c.toNat * 2 ^ (8 * t.n), t.n + 1⟩ := by unfold St.add; rw [if_neg h]
theorem Diff.add {t u : St} (h : Diff t u) (c : UInt8) : Diff (t.add c) (u.add c) := by
  have hn := h.n
  have hc := c.toNat_lt
  have k1 := or_lt h.tn.ok.b (shl_lt hc h.tn.ok.n)
  have k2 := or_lt h.un.ok.b (shl_lt hc h.un.ok.n)
  have o1 := or_add (c := c.toNat) h.tn.b
  have o2 := or_add (c := c.toNat) h.un.b
  refine ⟨h.tn.add c, h.un.add c, ?_, ?_⟩
  · by_cases h8 : t.n + 1 = 8
    · rw [add_one h8, add_one (by omega)]
    · rw [add_two h8, add_two (by omega)]
      show t.n + 1 = u.n + 1
      omega
  · by_cases h8 : t.n + 1 = 8
    · rw [add_one h8, add_one (by omega)]
      refine .inr ⟨fun e => ?_, rfl⟩
      have h1 := take_inj h.tn.ok.s k1 h.un.ok.s k2 e
      rcases h.d with ⟨d1, d2⟩ | ⟨d1, d2⟩
      · rw [d1] at h1
        have h2 := xor_l h1
        rw [o1, o2, hn] at h2
        omega
      · rw [d2, hn] at h1
        exact d1 (xor_r h1)
    · rw [add_two h8, add_two (by omega)]
      rcases h.d with ⟨d1, d2⟩ | ⟨d1, d2⟩
      · refine .inl ⟨d1, fun e => d2 ?_⟩
        have e' : t.b ||| c.toNat * 2 ^ (8 * t.n) = u.b ||| c.toNat * 2 ^ (8 * u.n) := e
        rw [o1, o2, hn] at e'
        omega
      · refine .inr ⟨d1, ?_⟩
        show t.b ||| c.toNat * 2 ^ (8 * t.n) = u.b ||| c.toNat * 2 ^ (8 * u.n)
        rw [d2, hn]
theorem Diff.start {t : St} (h : t.Neat) {x y : UInt8} (hxy : x ≠ y) : Diff (t.add x) (t.add y) := by
  have hx := x.toNat_lt
  have hy := y.toNat_lt
  have hne : x.toNat ≠ y.toNat := fun e => hxy (UInt8.toNat_inj.1 e)
  have k1 := or_lt h.ok.b (shl_lt hx h.ok.n)
  have k2 := or_lt h.ok.b (shl_lt hy h.ok.n)
  have o1 := or_add (c := x.toNat) h.b
  have o2 := or_add (c := y.toNat) h.b
  have hd : t.b ||| x.toNat * 2 ^ (8 * t.n) ≠ t.b ||| y.toNat * 2 ^ (8 * t.n) := fun e => by
    rw [o1, o2] at e
    exact hne (Nat.eq_of_mul_eq_mul_right (Nat.pow_pos (n := 8 * t.n) (by decide : 0 < 2)) (by omega))
  refine ⟨h.add x, h.add y, ?_, ?_⟩
  · by_cases h8 : t.n + 1 = 8
    · rw [add_one h8, add_one h8]
    · rw [add_two h8, add_two h8]
  · by_cases h8 : t.n + 1 = 8
    · rw [add_one h8, add_one h8]
      exact .inr ⟨fun e => hd (xor_l (take_inj h.ok.s k1 h.ok.s k2 e)), rfl⟩
    · rw [add_two h8, add_two h8]
      exact .inl ⟨rfl, hd⟩
theorem Diff.fold : ∀ (l : Bytes) {t u : St}, Diff t u → Diff (l.foldl St.add t) (l.foldl St.add u)
  | [], t, u, h => h
  | c :: l, t, u, h => Diff.fold l (h.add c)
theorem Diff.pad : ∀ (k : Nat) {t u : St}, Diff t u → Diff (Dg.pad k t) (Dg.pad k u)
  | 0, t, u, h => h
  | k + 1, t, u, h => by
    unfold Dg.pad
    have hn := h.n
    by_cases h0 : t.n = 0
    · rw [if_pos h0, if_pos (by omega)]
      exact h
    · rw [if_neg h0, if_neg (by omega)]
      exact Diff.pad k (h.add 0)
theorem pad_zero : ∀ (k : Nat) (t : St), t.n < 8 → 8 - t.n ≤ k ∨ t.n = 0 → (pad k t).n = 0
  | 0, t, h, hk => by
    rcases hk with hk | hk
    · omega
    · exact hk
  | k + 1, t, h, hk => by
    unfold pad
    by_cases h0 : t.n = 0
    · rw [if_pos h0]
      exact h0
    · rw [if_neg h0]
      by_cases h8 : t.n + 1 = 8
      · rw [add_one h8]
        exact pad_zero k _ (show 0 < 8 by omega) (.inr rfl)
      · rw [add_two h8]
        exact pad_zero k _ (show t.n + 1 < 8 by omega) (.inl (show 8 - (t.n + 1) ≤ k by omega))
theorem hexd_inj : ∀ a : Nat, a < 16 → ∀ b : Nat, b < 16 → hexd a = hexd b → a = b := by decide +kernel
theorem hexd_nz : ∀ a : Nat, a < 16 → hexd a ≠ 0 := by decide +kernel
theorem text_inj {s u : Nat} (hs : s < 18446744073709551616) (hu : u < 18446744073709551616) (h : text s = text u) : s = u := by
  have h1 : ∀ i, i < 16 → dig s i = dig u i := fun i hi => by
    have h2 := congrArg (fun l => l[i]?) h
    simp only [text, List.getElem?_map, List.getElem?_range hi, Option.map_some] at h2
    injection h2 with h2
    exact hexd_inj _ (dig_lt _ _) _ (dig_lt _ _) h2
  have e : ∀ s i, dig s i = s / 2 ^ (60 - 4 * i) % 16 := fun s i => by
    unfold dig
    exact Nat.and_two_pow_sub_one_eq_mod _ 4
  simp only [e] at h1
  have h2 : ∀ i, i ≤ 16 → s / 2 ^ (64 - 4 * i) = u / 2 ^ (64 - 4 * i) := fun i => by
    induction i with
    | zero =>
      intro _
      rw [Nat.div_eq_of_lt hs, Nat.div_eq_of_lt hu]
    | succ i ih =>
      intro hi
      have h3 := ih (by omega)
      have h4 := h1 i (by omega)
      have h5 : ∀ z : Nat, z / 2 ^ (64 - 4 * i) = z / 2 ^ (60 - 4 * i) / 16 := fun z => by
        rw [Nat.div_div_eq_div_mul, show (16 : Nat) = 2 ^ 4 from rfl, ← Nat.pow_add, show 60 - 4 * i + 4 = 64 - 4 * i by omega]
      rw [h5, h5] at h3
      rw [show 64 - 4 * (i + 1) = 60 - 4 * i by omega]
      omega
  have h3 := h2 16 (by decide)
  simpa using h3
theorem feed_neat (l : Bytes) : (feed l).Neat := by
  unfold feed
  suffices h : ∀ t : St, t.Neat → (l.foldl St.add t).Neat from h _ ⟨start_ok, by decide⟩
  induction l with
  | nil => exact fun t h => h
  | cons c l ih => exact fun t h => ih _ (h.add c)
/-- One byte changed changes the digest. -/
theorem sum_one (a : Bytes) (x y : UInt8) (b : Bytes) (h : sum (a ++ x :: b) = sum (a ++ y :: b)) : x = y := by
  by_cases hxy : x = y
  · exact hxy
  · exfalso
    have e : ∀ z, feed (a ++ z :: b) = b.foldl St.add ((feed a).add z) := fun z => by unfold feed; rw [List.foldl_append]; rfl
    have h1 : Diff (pad 8 ((feed (a ++ x :: b)).add 1)) (pad 8 ((feed (a ++ y :: b)).add 1)) := by
      rw [e, e]
      exact (Diff.fold b (Diff.start (feed_neat a) hxy)).add 1 |>.pad 8
    have z : ∀ t : St, t.Neat → (pad 8 t).n = 0 := fun t ht => pad_zero 8 t ht.ok.n (.inl (by omega))
    have h2 := text_inj h1.tn.ok.s h1.un.ok.s h
    have h3 := h1.tn.b
    have h4 := h1.un.b
    rw [z _ ((feed_neat _).add 1)] at h3 h4
    have h5 : (pad 8 ((feed (a ++ x :: b)).add 1)).b = (pad 8 ((feed (a ++ y :: b)).add 1)).b := by
      simp only [Nat.mul_zero, Nat.pow_zero] at h3 h4
      omega
    rcases h1.d with ⟨_, d⟩ | ⟨d, _⟩
    · exact d h5
    · exact d h2
theorem sum_hex (s : Bytes) : ∀ c ∈ sum s, c ≠ 0 := by
  intro c hc
  unfold sum text at hc
  obtain ⟨i, _, rfl⟩ := List.mem_map.1 hc
  exact hexd_nz _ (dig_lt _ _)
end Dg
namespace Jn
/-- The number that a digest is the text of. -/
def stateOf (s : Bytes) : Nat := (Dg.pad 8 ((Dg.feed s).add 1)).s
/-- The text of a head, without the library's digits. -/
def dg8 (n : Nat) : Bytes := List.replicate 6 48 ++ [UInt8.ofNat (48 + n / 10), UInt8.ofNat (48 + n % 10)]
theorem dgt_dg8 {n : Nat} (h : n < 100) : dgt n 8 = dg8 n := by
  unfold dgt dg8
  rw [itoa_dec]
  by_cases h1 : n < 10
  · rw [Lib.decDigits_one h1, show n / 10 = 0 by omega, Nat.mod_eq_of_lt h1]
    rfl
  · rw [dec_go n h1, Lib.decDigits_one (by omega)]
    rfl
def headTab (p : Nat) : List Nat := (List.range 39).map (fun n => stateOf (dg8 p ++ fit (dg8 n)))
theorem heads_nodup : (headTab 0).Nodup ∧ (headTab 1).Nodup := by
  unfold List.Nodup
  decide +kernel
theorem nodup_get {l : List Nat} (h : l.Nodup) {i j : Nat} (hi : i < l.length) (hj : j < l.length) (e : l[i] = l[j]) : i = j := by
  have h1 := List.pairwise_iff_getElem.1 h
  rcases Nat.lt_trichotomy i j with hl | hl | hl
  · exact absurd e (h1 i j hi hj hl)
  · exact hl
  · exact absurd e.symm (h1 j i hj hi hl)
theorem headTab_get (p n : Nat) (h : n < 39) : ∃ hn : n < (headTab p).length, (headTab p)[n] = stateOf (dg8 p ++ fit (dg8 n)) := by
  unfold headTab
  exact ⟨by simpa using h, by simp⟩
theorem stateOf_lt (s : Bytes) : stateOf s < 18446744073709551616 := by
  unfold stateOf
  have : ∀ (k : Nat) (t : Dg.St), t.Ok → (Dg.pad k t).Ok := fun k => by
    induction k with
    | zero => exact fun t h => h
    | succ k ih =>
      intro t h
      unfold Dg.pad
      split
      · exact h
      · exact ih _ (Dg.St.add_ok h 0)
  exact (this 8 _ (Dg.St.add_ok (Dg.feed_ok s) 1)).s
/-- The program's digest has what the laws want. -/
theorem dig_sum : Dig Dg.sum := by
  refine ⟨Dg.sum_len, Dg.sum_hex, fun p n m hp hn hm h => ?_⟩
  rw [dgt_dg8 (by omega), dgt_dg8 (by omega), dgt_dg8 (by omega)] at h
  have h1 : stateOf (dg8 p ++ fit (dg8 n)) = stateOf (dg8 p ++ fit (dg8 m)) := Dg.text_inj (stateOf_lt _) (stateOf_lt _) h
  obtain ⟨a1, a2⟩ := headTab_get p n (by omega)
  obtain ⟨b1, b2⟩ := headTab_get p m (by omega)
  have hd : (headTab p).Nodup := by
    rcases (by omega : p = 0 ∨ p = 1) with rfl | rfl
    · exact heads_nodup.1
    · exact heads_nodup.2
  exact nodup_get hd a1 b1 (by rw [a2, b2, h1])
end Jn
end Go.Proofs.YtpmkgedlnanjiaaGreatDoor
