/-
  PrTj, PrTl, PrTm, PrTn in one text.
-/
import Derived.Test.YtgbooiaedbpenaaDoorPrTa
import Derived.Test.YtgbooiaedbpenaaDoorPrTk
import Derived.Test.YtgbooiaedbpenaaDoorPrU
namespace Go.Proofs.YtgbooiaedbpenaaDoor
set_option linter.unusedVariables false
set_option linter.unusedSimpArgs false
open Go Go.RowKit Go.Shelf
attribute [local irreducible] Go.wpStill
theorem op8_r {w : World} (n : Int) (h1 : 1 ≤ n ∧ n ≤ 6) {R : Ending → World → Prop} (h : R (.returned (.string ⟨((Pr.opW n).drop 1).toArray⟩)) w) :
    Calls Tryd.prog 35 #[.int .i64 n] w R := by
  have HRR := hd h
  clear h
  obtain h2 | h2 | h2 | h2 | h2 | h2 : n = 1 ∨ n = 2 ∨ n = 3 ∨ n = 4 ∨ n = 5 ∨ n = 6 := by omega
  all_goals
    subst h2
    clear h1
    go_enter Tryd.func35, Tryd.ntmps35
    go_wp2_with fail
    exact HRR.out
end Go.Proofs.YtgbooiaedbpenaaDoor
namespace Go.Proofs.YtgbooiaedbpenaaDoor
set_option linter.unusedVariables false
set_option linter.unusedSimpArgs false
open Go Go.RowKit Go.Shelf
attribute [local irreducible] Go.wpStill
theorem itoa8_len {x : Int} (h : Pr.numOk x = true) : (Lib.itoa x).length ≤ 21 := Pr.itoa_len x (by
 have := Pr.numOk_iff8.1 h
 unfold Pr.I64 at *
 omega)
set_option maxRecDepth 100000 in
theorem ratio8_r {w : World} (x : Int × Int) (hx : Hid (Pr.ratioOk x = true)) {R : Ending → World → Prop} (h : ∀ w', Chg [] w w' → R (.returned (.string ⟨(Lib.itoa x.1 ++ [47] ++ Lib.itoa x.2).toArray⟩)) w') :
 Calls Tryd.prog 59 #[.agg #[.int .i64 x.1, .int .i64 x.2]] w R := by
 have HRR := hd h
 clear h
 have HN : Hid (Pr.numOk x.1 = true ∧ Pr.numOk x.2 = true) := hd (by have h9 := hx.out; simp only [Pr.ratioOk, Pr.numsOk, List.all_cons, List.all_nil, Bool.and_true, Bool.and_eq_true] at h9; exact h9)
 obtain ⟨a, ha⟩ : ∃ z, z = Lib.itoa x.1 := ⟨_, rfl⟩
 obtain ⟨b, hb⟩ : ∃ z, z = Lib.itoa x.2 := ⟨_, rfl⟩
 have HA := hd ha
 have HB := hd hb
 have la : a.length ≤ 21 := by rw [ha]; exact itoa8_len HN.out.1
 have lb : b.length ≤ 21 := by rw [hb]; exact itoa8_len HN.out.2
 rw [← ha, ← hb] at HRR
 clear ha hb
 go_enter Tryd.func59, Tryd.ntmps59
 go_upto_region 1 with (fail)
 obtain ⟨w1, hw⟩ : ∃ W, W = w.alloc (.cells #[.int .i64 x.1, .int .i64 x.2] 58) := ⟨_, rfl⟩
 rw [← hw]
 obtain ⟨G, hX⟩ : ∃ X, X = w.heap.size := ⟨_, rfl⟩
 rw [← hX]
 have HG : Hid (Blk w1 G [.int .i64 x.1, .int .i64 x.2] 58) := hd (by rw [hw, hX]; exact Blk.new w [.int .i64 x.1, .int .i64 x.2] _)
 have C1 : Hid (Chg [] w w1) := hd (by rw [hw]; exact (Chg.refl _ _).alloc _)
 clear hw hX
 have z1 : ¬ 9223372036854775807 < a.length + 1 := by omega
 have z2 : ¬ 9223372036854775807 < (a ++ [47]).length + b.length := by rw [List.length_append]; show ¬ _ < _ + 1 + _; omega
 have z3 : ¬ 9223372036854775807 < a.length + 1 + b.length := by omega
 refine wp_region_held_drew (S := fun W' => Chg [] w1 W') (by kernel_rfl) (Chg.refl _ _).drew (fun hHeld => ?_)
 obtain ⟨wd, hwd⟩ : ∃ x, x = w1.drew := ⟨_, rfl⟩
 rw [← hwd] at hHeld ⊢
 clear hwd
 refine tk 0 ?va0 ?hya0 ?rsa0
 case hya0 => (intro w9 hSw; go_simp; try with_reducible rfl)
 try simp only [qq]
 refine tk 1 ?va1 ?hya1 ?rsa1
 case hya1 => (intro w9 hSw; have g0 := cell_quiet hSw (HG.out.cell (i := 0) rfl) (by simp); go_simp; try with_reducible rfl)
 try simp only [qq]
 refine tk 4 ?va4 ?hya4 ?rsa4
 case hya4 => (intro w9 hSw; go_simp; try with_reducible rfl)
 try simp only [qq]
 refine tk 5 ?va5 ?hya5 ?rsa5
 case hya5 => (intro w9 hSw; have g1 := cell_quiet hSw (HG.out.cell (i := 1) rfl) (by simp); go_simp; try with_reducible rfl)
 try simp only [qq]
 refine rd1 2 (fun K hK => ?_)
 go_simp
 refine decimal_r x.1 HN.out.1 ?_
 rw [← HA.out]
 refine hK.out _ _ hHeld (fun hHeld => ?_)
 clear hK K
 try simp only [qq]
 refine tk 3 ?va3 ?hya3 ?rsa3
 case hya3 => (intro w9 hSw; go_simp; try with_reducible rfl)
 try simp only [qq]
 rw [show (⟨a.toArray⟩ : ByteArray) ++ ⟨#[47]⟩ = ⟨(a ++ [47]).toArray⟩ from str2 _ _]
 refine rd1 6 (fun K hK => ?_)
 go_simp
 refine decimal_r x.2 HN.out.2 ?_
 rw [← HB.out]
 refine hK.out _ _ hHeld (fun hHeld => ?_)
 clear hK K
 try simp only [qq]
 refine tk 7 ?va7 ?hya7 ?rsa7
 case hya7 => (intro w9 hSw; go_simp; try with_reducible rfl)
 try simp only [qq]
 first | rw [show (⟨(a ++ [47]).toArray⟩ : ByteArray) ++ ⟨b.toArray⟩ = ⟨(a ++ [47] ++ b).toArray⟩ from str2 _ _] | rw [show (⟨a.toArray⟩ : ByteArray) ++ (⟨#[47]⟩ ++ ⟨b.toArray⟩) = ⟨(a ++ [47] ++ b).toArray⟩ from by rw [show (⟨#[47]⟩ : ByteArray) ++ ⟨b.toArray⟩ = ⟨([47] ++ b).toArray⟩ from str2 _ _, str2, List.append_assoc]] | rw [str2]
 refine tk 8 ?va8 ?hya8 ?rsa8
 case hya8 => (intro w9 hSw; go_simp; try with_reducible rfl)
 try simp only [qq]
 refine wpAnyH_done (by kernel_rfl) ?_ _
 try simp only [qq]
 clear z1 z2 z3
 go_wp2_with fail
 have h9 := HRR.out wd (C1.out.trans hHeld (by simp))
 rw [List.append_assoc] at h9
 exact h9
end Go.Proofs.YtgbooiaedbpenaaDoor
namespace Go.Proofs.YtgbooiaedbpenaaDoor
set_option linter.unusedVariables false
set_option linter.unusedSimpArgs false
open Go Go.RowKit
namespace Pr
theorem cut_no : ∀ s : Bytes, (∀ c ∈ s, c ≠ 46) → cut s = (s, none)
  | [], _ => rfl
  | c :: r, h => by
    have h1 := cut_no r (fun d hd => h d (List.mem_cons_of_mem _ hd))
    unfold cut
    rw [if_neg (h c (List.mem_cons_self ..)), h1]
theorem cut_yes : ∀ (s t : Bytes), (∀ c ∈ s, c ≠ 46) → cut (s ++ 46 :: t) = (s, some t)
  | [], t, _ => by
    show cut (46 :: t) = _
    unfold cut
    rw [if_pos rfl]
  | c :: r, t, h => by
    have h1 := cut_yes r t (fun d hd => h d (List.mem_cons_of_mem _ hd))
    show cut (c :: (r ++ 46 :: t)) = _
    unfold cut
    rw [if_neg (h c (List.mem_cons_self ..)), h1]
theorem value_no {s : Bytes} (h : ∀ c ∈ s, c ≠ 46) : valueOk s = nameOk s := by
  unfold valueOk
  rw [cut_no s h]
  simp
theorem value_yes {s : Bytes} {i : Nat} (hs : s[i]? = some 46) (h : ∀ c ∈ s.take i, c ≠ 46) : valueOk s = (nameOk (s.take i) && nameOk (s.drop (i + 1))) := by
  obtain ⟨a1, a2⟩ := List.getElem?_eq_some_iff.1 hs
  have e : s = s.take i ++ 46 :: s.drop (i + 1) := by
    rw [← a2, List.getElem_cons_drop, List.take_append_drop]
  unfold valueOk
  conv => lhs; rw [e, cut_yes _ _ h]
  simp
/-- The parts of what an item must have. -/
def partsOk (x : Itm) : Prop := (1 ≤ x.kind ∧ x.kind ≤ 7) ∧ nameOk x.name = true ∧ numsOk [x.n, x.r.1, x.r.2, x.s.1, x.s.2] = true ∧ x.whn.length ≤ 12 ∧ (x.kind = 1 ∨ x.kind = 3 ∨ x.n = 0) ∧ (x.kind = 3 ∨ x.kind = 4 ∨ ((x.s.1 = 0 ∧ x.s.2 = 0) ∧ (x.kind = 5 ∨ (x.r.1 = 0 ∧ x.r.2 = 0))))
theorem num0 : numOk 0 = true := by decide
theorem num1 : numOk 1 = true := by decide
theorem item_iff (x : Itm) : itemOk x = true ↔ partsOk x ∧ x.whn.all listOk = true := by
  obtain ⟨k, nm, wh, n, ⟨r1, r2⟩, ⟨s1, s2⟩, at_⟩ := x
  simp only [itemOk, partsOk, wordsOk, partOk, ratioOk, numsOk, List.all_cons, List.all_nil, Bool.and_true, Bool.and_eq_true, decide_eq_true_eq, Bool.or_eq_true, Prod.mk.injEq]
  constructor
  · rintro ⟨⟨h1, h2, h3⟩, ⟨h4, h5⟩, h6⟩
    refine ⟨⟨⟨h1, h2⟩, h4, ?_⟩, h6⟩
    split at h5
    · simp only [Bool.and_eq_true, decide_eq_true_eq] at h5
      obtain ⟨a, ⟨rfl, rfl⟩, rfl, rfl⟩ := h5
      exact ⟨⟨a, num0, num0, num0, num0⟩, h3, .inl (by assumption), .inr (.inr ⟨⟨rfl, rfl⟩, .inr ⟨rfl, rfl⟩⟩)⟩
    · split at h5
      · simp only [Bool.and_eq_true, decide_eq_true_eq, Bool.or_eq_true] at h5
        obtain ⟨a, b, c⟩ := h5
        have b' : numOk r1 = true ∧ numOk r2 = true := by
          rcases b with ⟨rfl, rfl⟩ | b
          · exact ⟨num0, num1⟩
          · exact b
        have c' : numOk s1 = true ∧ numOk s2 = true := by
          rcases c with ⟨rfl, rfl⟩ | c
          · exact ⟨num0, num1⟩
          · exact c
        exact ⟨⟨a, b'.1, b'.2, c'.1, c'.2⟩, h3, .inr (.inl (by assumption)), .inl (by assumption)⟩
      · split at h5
        · simp only [Bool.and_eq_true, decide_eq_true_eq] at h5
          obtain ⟨rfl, b, c⟩ := h5
          exact ⟨⟨num0, b.1, b.2, c.1, c.2⟩, h3, .inr (.inr rfl), .inr (.inl (by assumption))⟩
        · split at h5
          · simp only [Bool.and_eq_true, decide_eq_true_eq] at h5
            obtain ⟨rfl, b, rfl, rfl⟩ := h5
            exact ⟨⟨num0, b.1, b.2, num0, num0⟩, h3, .inr (.inr rfl), .inr (.inr ⟨⟨rfl, rfl⟩, .inl (by assumption)⟩)⟩
          · simp only [Bool.and_eq_true, decide_eq_true_eq] at h5
            obtain ⟨rfl, ⟨rfl, rfl⟩, rfl, rfl⟩ := h5
            exact ⟨⟨num0, num0, num0, num0, num0⟩, h3, .inr (.inr rfl), .inr (.inr ⟨⟨rfl, rfl⟩, .inr ⟨rfl, rfl⟩⟩)⟩
  · rintro ⟨⟨⟨h1, h2⟩, h4, ⟨a0, a1, a2, a3, a4⟩, h3, h5, h7⟩, h6⟩
    refine ⟨⟨h1, h2, h3⟩, ⟨h4, ?_⟩, h6⟩
    split
    · simp only [Bool.and_eq_true, decide_eq_true_eq]
      subst k
      simp at h7
      exact ⟨a0, h7.2, h7.1⟩
    · split
      · simp only [Bool.and_eq_true, decide_eq_true_eq, Bool.or_eq_true]
        exact ⟨a0, .inr ⟨a1, a2⟩, .inr ⟨a3, a4⟩⟩
      · split
        · simp only [Bool.and_eq_true, decide_eq_true_eq]
          subst k
          simp at h5
          exact ⟨h5, ⟨a1, a2⟩, a3, a4⟩
        · have hn : n = 0 := by rcases h5 with h | h | h <;> first | exact h | contradiction
          split
          · simp only [Bool.and_eq_true, decide_eq_true_eq]
            subst k
            simp at h7
            exact ⟨hn, ⟨a1, a2⟩, h7⟩
          · simp only [Bool.and_eq_true, decide_eq_true_eq]
            have h8 : (s1 = 0 ∧ s2 = 0) ∧ (r1 = 0 ∧ r2 = 0) := by
              rcases h7 with h | h | ⟨h, h' | h'⟩ <;> first | exact ⟨h, h'⟩ | contradiction
            exact ⟨hn, h8.2, h8.1⟩
theorem item_no {x : Itm} (h : ¬ partsOk x) : itemOk x = false := by
  cases hi : itemOk x with
  | false => rfl
  | true => exact absurd ((item_iff x).1 hi).1 h
theorem item_list {x : Itm} (h : x.whn.all listOk = false) : itemOk x = false := by
  cases hi : itemOk x with
  | false => rfl
  | true => rw [((item_iff x).1 hi).2] at h; cases h
/-- The text of one test as the reference writes it. -/
theorem test8 (t : Tst) : testS t = t.attr ++ [32] ++ (opW t.op).drop 1 ++ [32] ++ t.name ++ (if t.name = [] then Lib.itoa t.n else []) := by
  have h : opW t.op = 32 :: (opW t.op).drop 1 := by
    unfold opW
    repeat' split
    all_goals rfl
  unfold testS
  rw [h]
  split
  · rename_i h1
    rw [h1]
    simp [nums]
  · simp
theorem join_take {sep : Bytes} : ∀ (l : List Bytes) (x : Bytes), l ≠ [] → join sep (l ++ [x]) = join sep l ++ sep ++ x
  | [], _, h => absurd rfl h
  | [a], x, _ => rfl
  | a :: b :: r, x, _ => by
    have := join_take (sep := sep) (b :: r) x (by simp)
    show join sep (a :: b :: (r ++ [x])) = _
    unfold join
    rw [show b :: (r ++ [x]) = (b :: r) ++ [x] from rfl, this]
    simp [join]
theorem join_one {sep x : Bytes} : join sep [x] = x := rfl
/-- The conditions of an item, up to some. -/
theorem whens_or : ∀ (l : List (List Tst)) (y : List Tst), whensS tOr (l ++ [y]) = whensS tOr l ++ (tOr ++ join tAnd (y.map testS))
  | [], y => by simp [whensS]
  | a :: l, y => by
    show tOr ++ _ ++ whensS tOr (l ++ [y]) = tOr ++ _ ++ whensS tOr l ++ _
    rw [whens_or l y]
    simp
theorem whens_first (y : List Tst) : whensS tWhen [y] = tWhen ++ join tAnd (y.map testS) := by simp [whensS]
theorem whens_next {l : List (List Tst)} (h : l ≠ []) (y : List Tst) : whensS tWhen (l ++ [y]) = whensS tWhen l ++ (tOr ++ join tAnd (y.map testS)) := by
  cases l with
  | nil => exact absurd rfl h
  | cons a l =>
    show tWhen ++ _ ++ whensS tOr (l ++ [y]) = tWhen ++ _ ++ whensS tOr l ++ _
    rw [whens_or l y]
    simp
/-- What an item is without its conditions, as the reference writes it. -/
theorem words1 {x : Itm} (h : x.kind = 1) : wordsS x = [97, 108, 108, 111, 119, 32] ++ x.name ++ (if x.n = 0 then [] else tLimit ++ nums [x.n]) := by
  simp [wordsS, kindW, h]
theorem adds_step (s0 : Bytes) (l : List Bytes) (x : Bytes) : adds s0 (l ++ [x]) = if (adds s0 l).length ≤ 20000 then adds s0 l ++ x else adds s0 l := by
  unfold adds
  rw [List.foldl_append]
  rfl
end Pr
end Go.Proofs.YtgbooiaedbpenaaDoor
namespace Go.Proofs.YtgbooiaedbpenaaDoor
set_option linter.unusedVariables false
set_option linter.unusedSimpArgs false
open Go Go.RowKit Go.Shelf
attribute [local irreducible] Go.wpStill
theorem cut_to8 {s : Bytes} {sb : ByteArray} (HSB : Hid (sb = ⟨s.toArray⟩)) (i : Nat) : sb.extract 0 i = ⟨(s.take i).toArray⟩ := by
  rw [HSB.out]
  apply ByteArray.ext
  simp
theorem cut_from8 {s : Bytes} {sb : ByteArray} (HSB : Hid (sb = ⟨s.toArray⟩)) (HSZ : Hid (sb.size = s.length)) (i : Nat) : sb.extract i sb.size = ⟨(s.drop i).toArray⟩ := by
  rw [HSZ.out, HSB.out]
  apply ByteArray.ext
  simp [List.take_of_length_le]
theorem byte_ne8 {sb : ByteArray} {s : Bytes} (HSB : Hid (sb = ⟨s.toArray⟩)) {k : Nat} (h : k < sb.size) {c : UInt8} {d : UInt8} (hc : s[k]? = some c) (hd : c ≠ d) : ((sb[k].toNat : Int) == (d.toNat : Int)) = false := by
  obtain ⟨hk, e⟩ := List.getElem?_eq_some_iff.1 hc
  rw [sb_get HSB h hk, e, beq_eq_false_iff_ne]
  intro h1
  exact hd (UInt8.toNat_inj.1 (by omega))
theorem byte_eq8 {sb : ByteArray} {s : Bytes} (HSB : Hid (sb = ⟨s.toArray⟩)) {k : Nat} (h : k < sb.size) {c : UInt8} (hc : s[k]? = some c) : ((sb[k].toNat : Int) == (c.toNat : Int)) = true := by
  obtain ⟨hk, e⟩ := List.getElem?_eq_some_iff.1 hc
  rw [sb_get HSB h hk, e]
  exact beq_self_eq_true _
set_option maxRecDepth 100000 in
theorem value8_r {w : World} (s : Bytes) (hs : s.length ≤ 1000000) {R : Ending → World → Prop} (h : R (.returned (.bool (Pr.valueOk s))) w) : Calls Tryd.prog 58 #[.string ⟨s.toArray⟩] w R := by
  have HRR := hd h
  clear h
  obtain ⟨sb, hsb⟩ : ∃ z : ByteArray, z = ⟨s.toArray⟩ := ⟨_, rfl⟩
  rw [← hsb]
  have HSB := hd hsb
  have HSZ : Hid (sb.size = s.length) := hd (by rw [hsb]; rfl)
  clear hsb
  have HN := hd hs
  obtain ⟨n, hn⟩ : ∃ z, z = s.length := ⟨_, rfl⟩
  have HNN := hd hn
  rw [← hn] at hs
  have hz : sb.size = n := by rw [HSZ.out, hn]
  clear hn
  have HZ9 := hd hz
  go_enter Tryd.func58, Tryd.ntmps58
  go_wp2_with fail
  go_loop [3] (fun iv => ∃ j : Nat, iv = .int .i64 (j : Int) ∧ j ≤ n ∧ Hid (∀ c ∈ s.take j, c ≠ 46)) (fun iv => n - intN iv)
  case atStart => exact ⟨0, rfl, Nat.zero_le _, hd (by simp)⟩
  case round =>
    obtain ⟨j, rfl, hj, HO⟩ := hrel
    by_cases hlt : j < n
    · have q0 : (0 : Int) ≤ (j : Int) := by omega
      have q1 : (j : Int) < (n : Int) := by omega
      have q2 : (j : Int) ≤ (n : Int) := by omega
      have q3 : (j : Int) < (sb.size : Int) := by omega
      have hjs : j < sb.size := by omega
      have HJS := hd hjs
      obtain ⟨c, hc⟩ : ∃ c, s[j]? = some c := ⟨s[j]'(by rw [← HNN.out]; exact hlt), by simp⟩
      have HC := hd hc
      clear hc
      by_cases h46 : c = 46
      · have e1 : ((sb[j].toNat : Int) == 46) = true := byte_eq8 HSB HJS.out (c := 46) (by rw [HC.out, h46])
        have HV : Hid (Pr.valueOk s = (Pr.nameOk (s.take j) && Pr.nameOk (s.drop (j + 1)))) := hd (Pr.value_yes (by rw [HC.out, h46]) HO.out)
        clear h46
        go_wp2_with fail
        rw [cut_to8 HSB]
        refine name8_r (s.take j) (by rw [List.length_take]; have := HN.out; omega) ?_
        obtain ⟨q, hq⟩ : ∃ q, q = Pr.nameOk (s.take j) := ⟨_, rfl⟩
        rw [← hq] at HV ⊢
        clear hq
        cases q with
        | false =>
          go_wp2_with fail
          have h9 := HRR.out
          rw [HV.out] at h9
          exact h9
        | true =>
          go_wp2_with fail
          rw [show sb.extract (j + 1) n = ⟨(s.drop (j + 1)).toArray⟩ from by rw [← HZ9.out]; exact cut_from8 HSB HSZ _]
          refine name8_r (s.drop (j + 1)) (by rw [List.length_drop]; have := HN.out; omega) ?_
          go_wp2_with fail
          have h9 := HRR.out
          rw [HV.out] at h9
          exact h9
      · have e1 : ((sb[j].toNat : Int) == 46) = false := byte_ne8 HSB HJS.out HC.out (d := 46) h46
        have HT : Hid (∀ c ∈ s.take (j + 1), c ≠ 46) := hd (by
          obtain ⟨a1, a2⟩ := List.getElem?_eq_some_iff.1 HC.out
          rw [List.take_succ_eq_append_getElem a1, a2]
          intro d hd9
          rcases List.mem_append.1 hd9 with h | h
          · exact HO.out d h
          · rw [List.mem_singleton.1 h]; exact h46)
        clear h46
        go_wp2_with fail
        go_round
        case rel => exact ⟨j + 1, vint (by omega), by omega, HT⟩
        case measure => simp [intN]; omega
    · have HV : Hid (Pr.valueOk s = Pr.nameOk s) := hd (Pr.value_no (by have h9 := HO.out; rw [List.take_of_length_le (by rw [← HNN.out]; omega)] at h9; exact h9))
      have q1 : ¬ (j : Int) < (n : Int) := by omega
      go_wp2_with fail
      rw [HSB.out]
      refine name8_r s HN.out ?_
      go_wp2_with fail
      have h9 := HRR.out
      rw [HV.out] at h9
      exact h9
end Go.Proofs.YtgbooiaedbpenaaDoor
