/-
  Layer 22: the law LexerWords: the walk.
-/
import Derived.Test.YtghhddpaloogmaaDoorLxO
import Derived.Test.YtghhddpaloogmaaDoorLxS
import Derived.Test.YtghhddpaloogmaaDoorLwBegin
import Derived.Deep.RegionHeld3
namespace Go.Proofs.YtghhddpaloogmaaDoor
set_option linter.unusedVariables false
set_option linter.unusedSimpArgs false
open Go Go.RowKit Go.Shelf

def SY : Bytes := [61, 59, 60, 62, 40, 41, 123, 125, 43, 45, 47, 44, 46, 58]
theorem sym_str : ∀ d : Nat, d < 14 → (⟨#[61, 59, 60, 62, 40, 41, 123, 125, 43, 45, 47, 44, 46, 58]⟩ : ByteArray).extract d (d + 1) = ⟨[SY.getD d 0].toArray⟩ ∧ (Lx.cls (SY.getD d 0) = 6 ∨ Lx.cls (SY.getD d 0) = 7) := by decide +kernel
theorem words_law {s : Bytes} (h : s ≠ [] ∧ s.length ≤ 24 ∧ (∀ c ∈ s, Lx.word c = true) ∧ ∀ c r, s = c :: r → Lx.cls c = 3) {c : UInt8} (hc : Lx.cls c = 6 ∨ Lx.cls c = 7) {n : Nat} (hn : n < 10000000000) :
    Lx.lex (s ++ c :: Lib.decDigits n) = ([⟨1, s, 0, 0⟩, ⟨3, [c], 0, s.length⟩, ⟨2, Lib.decDigits n, n, s.length + 1⟩], 0, 0) ∧ (Lib.decDigits n).length ≤ 10 := by
  obtain ⟨h1, h2, h3, h4⟩ := Lx.dec_facts 10 n (by decide) (by omega)
  cases s with
  | nil => exact absurd rfl h.1
  | cons a r =>
    have hs := Lx.words_scan (h.2.2.2 a r rfl) (fun x hx => h.2.2.1 x (by simp [hx])) h.2.1 hc h1 h3 h2
    have hl : (a :: r ++ c :: Lib.decDigits n).length ≤ 5000 := by
      have := h.2.1
      simp only [List.length_append, List.length_cons] at this ⊢
      omega
    refine ⟨?_, h2⟩
    rw [Lx.lex_good hl (by rw [hs]; rfl), hs, h4]
    rfl
theorem words_str (s d : Bytes) (c : UInt8) : (⟨s.toArray⟩ : ByteArray) ++ ⟨[c].toArray⟩ ++ ⟨d.toArray⟩ = ⟨(s ++ c :: d).toArray⟩ := by
  apply ByteArray.ext
  apply Array.ext'
  simp
theorem lex_words (w : World) (sb cb db : ByteArray) (s : Bytes) (r : List Lx.Tk) (h : sb ++ cb ++ db = ⟨s.toArray⟩) (hs : s.length ≤ 1000000) (hr : Lx.lex s = (r, 0, 0)) :
    Calls Tryd.prog 12 #[.string (sb ++ cb ++ db)] w fun e w' => ∃ v, e = .returned (.tuple #[v, .int .i64 0, .int .i64 0]) ∧ TokS w' v r ∧ Chg [] w w' := by
  rw [h]
  have := lex_spec w s hs
  rw [hr] at this
  exact this
theorem dec_str (w : World) (n : Nat) (db : ByteArray) (h : db = ⟨(Lib.decDigits n).toArray⟩) (hn : n ≤ 9223372036854775807) :
    Calls Tryd.prog 19 #[.int .i64 (n : Int)] w fun e w' => e = .returned (.string db) ∧ w = w' := by
  have := decimal_spec w n hn
  rw [Lib.itoa_nonneg] at this
  rw [h]
  exact this
set_option maxRecDepth 100000 in
set_option maxHeartbeats 2000000 in
theorem words_walk (w : World) (s : Bytes) (hs0 : s.length ≤ 9223372036854775807) (num : Nat) (hnum : num < 18446744073709551616) (sy : Nat) (hsy : sy < 256) :
    Calls Tryd.prog 10 #[.string ⟨s.toArray⟩, .int .u64 (num : Int), .int .u8 (sy : Int)] w fun e w' => e = .returned (.bool true) ∧ Chg [] w w' := by
  obtain ⟨sb, hsb⟩ : ∃ sb : ByteArray, sb = ⟨s.toArray⟩ := ⟨_, rfl⟩
  have HSB := Lib.hid hsb
  have HSZ : Hid (sb.size = s.length) := Lib.hid (by rw [hsb]; exact size_of s)
  rw [← hsb]
  clear hsb
  go_enter Tryd.func10, Tryd.ntmps10
  go_wp2_with fail
  refine (head_spec _).mono ?_
  rintro e w1 ⟨rfl, hc1⟩
  have HC1 := Lib.hid hc1
  clear hc1
  go_wp2_with fail
  rw [HSB.out]
  refine (name_spec _ s hs0).mono ?_
  rintro e w2 ⟨⟨b, rfl, hb⟩, rfl⟩
  rw [← HSB.out]
  cases b with
  | false =>
    clear hb
    go_wp2_with fail
    go_ret
    exact ⟨rfl, HC1.out⟩
  | true =>
    have HN := Lib.hid (hb rfl)
    clear hb
    obtain ⟨n, hn⟩ : ∃ n, n = num % 10000000000 := ⟨_, rfl⟩
    have hn1 : (num : Int) % 10000000000 = (n : Int) := by rw [hn]; omega
    have hn2 : n < 10000000000 := by rw [hn]; exact Nat.mod_lt _ (by decide)
    obtain ⟨k, hk⟩ : ∃ k, k = sy % 14 := ⟨_, rfl⟩
    have hk1 : (sy : Int).tmod 14 = (k : Int) := by rw [hk]; exact (Int.ofNat_tmod sy 14).symm
    have hk2 : k < 14 := by rw [hk]; exact Nat.mod_lt _ (by decide)
    have hsym := sym_str k hk2
    obtain ⟨c, hcc⟩ : ∃ c, SY.getD k 0 = c := ⟨_, rfl⟩
    rw [hcc] at hsym
    have HLAW := Lib.hid (words_law HN.out hsym.2 hn2)
    have hs1 := hsym.1
    obtain ⟨cb, hcb⟩ : ∃ cb : ByteArray, cb = ⟨[c].toArray⟩ := ⟨_, rfl⟩
    rw [← hcb] at hs1
    have HCB := Lib.hid hcb
    have hcz : cb.size = 1 := by rw [hcb]; rfl
    obtain ⟨db, hdb⟩ : ∃ db : ByteArray, db = ⟨(Lib.decDigits n).toArray⟩ := ⟨_, rfl⟩
    have HDB := Lib.hid hdb
    obtain ⟨dz, hdz⟩ : ∃ dz, db.size = dz := ⟨_, rfl⟩
    have hdz' : dz ≤ 10 := by rw [← hdz, hdb]; exact HLAW.out.2
    obtain ⟨sz, hsz⟩ : ∃ sz, sb.size = sz := ⟨_, rfl⟩
    have hsz' : sz ≤ 24 := by rw [← hsz, HSZ.out]; exact HN.out.2.1
    have HSTR : Hid (sb ++ cb ++ db = ⟨(s ++ c :: Lib.decDigits n).toArray⟩) := Lib.hid (by rw [HSB.out, hcb, hdb, words_str])
    have HLEN : Hid ((s ++ c :: Lib.decDigits n).length ≤ 1000000) := Lib.hid (by
      have := HN.out.2.1
      have := HLAW.out.2
      simp only [List.length_append, List.length_cons]
      omega)
    have k1 : ¬ 9223372036854775807 < sz + 1 := by omega
    have k2 : ¬ 9223372036854775807 < sz + 1 + dz := by omega
    have k3 : (0 : Int) ≤ (k : Int) := by omega
    have k4 : (k : Int) ≤ (k : Int) + 1 := by omega
    have k5 : (k : Int) + 1 ≤ 14 := by omega
    have k6 : (0 : Int) ≤ (num : Int) := by omega
    clear hcc hsym hcb hdb hn hk
    go_wp2_with fail
    refine (dec_str _ n db HDB.out (by omega)).mono ?_
    rintro e w3 ⟨rfl, rfl⟩
    go_wp2_with fail
    refine (lex_words _ sb cb db _ _ HSTR.out HLEN.out HLAW.out.1).mono ?_
    rintro e w4 ⟨v4, rfl, ht4, hc4⟩
    have HC4 := Lib.hid (HC1.out.trans hc4 (by simp))
    have hsl : s.length = sz := by rw [← hsz, HSZ.out]
    rw [hsl] at ht4
    obtain ⟨ao, cap, rfl, hcap, hkk⟩ := ht4
    obtain ⟨g, off, rfl, a0, a1, a2, a3⟩ := hkk 0 _ rfl
    obtain ⟨_, _, e2, b0, b1, b2, b3⟩ := hkk 1 _ rfl
    cases e2
    obtain ⟨_, _, e2, c0, c1, c2, c3⟩ := hkk 2 _ rfl
    cases e2
    simp only [List.length_cons, List.length_nil, Nat.reduceAdd, Nat.reduceMul, Nat.mul_zero, Nat.add_zero, Nat.add_assoc] at a0 a1 a2 a3 b0 b1 b2 b3 c0 c1 c2 c3 hcap
    rw [← HSB.out] at a1
    rw [← HCB.out] at b1
    rw [← HDB.out] at c1
    rw [Int.natCast_add] at c3
    have n9 : IntKind.i64.wrap ((sz : Int) + 1) = (sz : Int) + 1 := IntWalk.i64_in _ (by omega)
    clear hkk hc4 hsl b2 b3
    go_upto_region 9 with fail
    go_region_held3 (fun W => W.cell? ⟨g, off, none⟩ = some (.int .i64 1) ∧ W.cell? ⟨g, off + 1, none⟩ = some (.string sb) ∧ W.cell? ⟨g, off + 2, none⟩ = some (.int .i64 0) ∧ W.cell? ⟨g, off + 3, none⟩ = some (.int .i64 0) ∧
        W.cell? ⟨g, off + 4, none⟩ = some (.int .i64 3) ∧ W.cell? ⟨g, off + 5, none⟩ = some (.string cb) ∧
        W.cell? ⟨g, off + 8, none⟩ = some (.int .i64 2) ∧ W.cell? ⟨g, off + 9, none⟩ = some (.string db) ∧ W.cell? ⟨g, off + 10, none⟩ = some (.int .i64 n) ∧ W.cell? ⟨g, off + 11, none⟩ = some (.int .i64 ((sz : Int) + 1)) ∧ Chg [] w4 W)
      (first | exact ⟨a0, a1, a2, a3, b0, b1, c0, c1, c2, c3, ⟨rfl, rfl, rfl, Nat.le_refl _, fun _ _ _ => rfl⟩⟩)
      (first | (go_at_call 19; refine (dec_str _ n db HDB.out (by omega)).mono ?_; rintro e wx ⟨rfl, rfl⟩))
    go_wp2_with fail
    go_ret
    exact ⟨rfl, HC4.out.drew⟩
end Go.Proofs.YtghhddpaloogmaaDoor
