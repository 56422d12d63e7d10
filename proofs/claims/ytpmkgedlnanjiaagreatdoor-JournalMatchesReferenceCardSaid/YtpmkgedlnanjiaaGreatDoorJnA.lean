/-
  Journal, plain laws: numbers in sectors; heads, pieces and records are found again.
-/
import Derived.Test.YtpmkgedlnanjiaaGreatDoorJnModel
namespace Go.Proofs.YtpmkgedlnanjiaaGreatDoor
set_option linter.unusedVariables false
set_option linter.unusedSimpArgs false
open Go
namespace Jn
/-! ### Numbers -/
theorem dec_go (n : Nat) (h : ¬ n < 10) : Lib.decDigits n = Lib.decDigits (n / 10) ++ [UInt8.ofNat (48 + n % 10)] := by rw [Lib.decDigits, dif_neg h]
theorem dec_ind {P : Nat → Prop} (h1 : ∀ n, n < 10 → P n) (h2 : ∀ n, ¬ n < 10 → P (n / 10) → P n) (n : Nat) : P n := by
  induction n using Nat.strongRecOn with
  | ind n ih =>
    by_cases h : n < 10
    · exact h1 n h
    · exact h2 n h (ih (n / 10) (by omega))
def isD (c : UInt8) : Bool := decide (48 ≤ c.toNat ∧ c.toNat ≤ 57)
theorem dig_is : ∀ k, k < 10 → isD (UInt8.ofNat (48 + k)) = true ∧ (UInt8.ofNat (48 + k)).toNat = 48 + k := by decide
def val (s : Bytes) : Nat := s.foldl (fun a c => 10 * a + (c.toNat - 48)) 0
theorem val_snoc (l : Bytes) (c : UInt8) : val (l ++ [c]) = 10 * val l + (c.toNat - 48) := by
  unfold val
  rw [List.foldl_append]
  rfl
theorem dec_val (n : Nat) : val (Lib.decDigits n) = n := by
  induction n using dec_ind with
  | h1 n h =>
    rw [Lib.decDigits_one h, show [UInt8.ofNat (48 + n)] = [] ++ [UInt8.ofNat (48 + n)] from rfl, val_snoc, (dig_is n h).2]
    show 10 * 0 + _ = _
    omega
  | h2 n h ih =>
    rw [dec_go n h, val_snoc, ih, (dig_is _ (Nat.mod_lt _ (by decide))).2]
    omega
theorem dec_isD (n : Nat) : ∀ c ∈ Lib.decDigits n, isD c = true := by
  induction n using dec_ind with
  | h1 n h =>
    rw [Lib.decDigits_one h]
    intro c hc
    rw [List.mem_singleton] at hc
    rw [hc]
    exact (dig_is n h).1
  | h2 n h ih =>
    rw [dec_go n h]
    intro c hc
    rcases List.mem_append.1 hc with hc | hc
    · exact ih c hc
    · rw [List.mem_singleton] at hc
      rw [hc]
      exact (dig_is _ (Nat.mod_lt _ (by decide))).1
theorem dec_ne (n : Nat) : Lib.decDigits n ≠ [] := by
  intro h
  have := Lib.nDigits_pos n
  rw [← Lib.decDigits_length, h] at this
  simp at this
theorem dec_len : ∀ (k n : Nat), n < 10 ^ (k + 1) → (Lib.decDigits n).length ≤ k + 1
  | 0, n, h => by
    rw [Lib.decDigits_one (by simpa using h)]
    simp
  | k + 1, n, h => by
    by_cases h0 : n < 10
    · rw [Lib.decDigits_one h0]
      simp
    · rw [dec_go n h0, List.length_append]
      have := dec_len k (n / 10) (by rw [Nat.pow_succ] at h; omega)
      simp only [List.length_cons, List.length_nil]
      omega
theorem itoa_dec (n : Nat) : Lib.itoa (n : Int) = Lib.decDigits n := Lib.itoa_nonneg n
theorem val_pad (k : Nat) (s : Bytes) : val (List.replicate k 48 ++ s) = val s := by
  induction k with
  | zero => rfl
  | succ k ih =>
    rw [← ih]
    show List.foldl _ _ _ = List.foldl _ _ _
    rw [List.replicate_succ]
    rfl
theorem dgt_val (n w : Nat) : val (dgt n w) = n := by
  unfold dgt
  rw [val_pad, itoa_dec, dec_val]
theorem dgt_inj {n m w : Nat} (h : dgt n w = dgt m w) : n = m := by rw [← dgt_val n w, h, dgt_val]
theorem dgt_len {n w : Nat} (h : n < 10 ^ (w + 1)) : (dgt n (w + 1)).length = w + 1 := by
  unfold dgt
  have := dec_len w n h
  rw [itoa_dec, List.length_append, List.length_replicate]
  omega
theorem dgt_isD (n w : Nat) : ∀ c ∈ dgt n w, isD c = true := by
  unfold dgt
  intro c hc
  rcases List.mem_append.1 hc with hc | hc
  · rw [List.eq_of_mem_replicate hc]
    decide
  · rw [itoa_dec] at hc
    exact dec_isD n c hc
/-! ### Sectors -/
theorem fit_take {a b : Bytes} (h : a.length ≤ 48) : (fit (a ++ b)).take a.length = a := by
  unfold fit
  rw [List.take_append_of_le_length (by rw [List.length_take, List.length_append]; omega), List.take_take, Nat.min_eq_left h, List.take_left]
theorem fit_inj {a b a' b' : Bytes} (h : a.length ≤ 48) (hl : a.length = a'.length) (e : fit (a ++ b) = fit (a' ++ b')) : a = a' := by
  have h1 := fit_take (b := b) h
  have h2 := fit_take (a := a') (b := b') (by omega)
  rw [e, hl, h2] at h1
  exact h1.symm
theorem first_eq {N n : Nat} {P : Nat → Bool} (hn : n < N) (h : P n = true) (hb : ∀ m, m < n → P m = false) : first N P = some n := by
  unfold first
  rw [List.find?_eq_some_iff_append]
  refine ⟨h, List.range n, (List.range (N - (n + 1))).map (· + (n + 1)), ?_, fun a ha => by rw [hb a (List.mem_range.1 ha)]; rfl⟩
  have e : N = n + (1 + (N - (n + 1))) := by omega
  conv => lhs; rw [e]
  rw [List.range_add, List.range_add]
  simp [Nat.add_comm, Nat.add_left_comm, Function.comp_def]
theorem first_some {N n : Nat} {P : Nat → Bool} (h : first N P = some n) : n < N ∧ P n = true := by
  unfold first at h
  exact ⟨List.mem_range.1 (List.mem_of_find?_eq_some h), List.find?_some h⟩
theorem sealed_drop {sm : Bytes → Bytes} (hs : ∀ s, (sm s).length = 16) (p : Nat) (c : Bytes) : (sealed sm p c).drop 16 = fit c := by
  unfold sealed
  rw [show 16 = (sm (dgt p 8 ++ fit c)).length from (hs _).symm, List.drop_left]
theorem sealed_inj {sm : Bytes → Bytes} (hs : ∀ s, (sm s).length = 16) {p p' : Nat} {c c' : Bytes} (h : sealed sm p c = sealed sm p' c') : fit c = fit c' := by
  rw [← sealed_drop hs p c, h, sealed_drop hs]
theorem head_inj {sm : Bytes → Bytes} (hs : ∀ s, (sm s).length = 16) {p n m : Nat} (hn : n < 100000000) (hm : m < 100000000) (h : head sm p n = head sm p m) : n = m := by
  have h1 := sealed_inj hs h
  have l1 : (dgt n 8).length = 8 := dgt_len (w := 7) hn
  have l2 : (dgt m 8).length = 8 := dgt_len (w := 7) hm
  exact dgt_inj (w := 8) (fit_inj (a := dgt n 8) (a' := dgt m 8) (b := []) (b' := []) (by omega) (by omega) (by rw [List.append_nil, List.append_nil]; exact h1))
theorem sealed_ne {sm : Bytes → Bytes} (hs : ∀ s, (sm s).length = 16) {p : Nat} {a b : Bytes} (h0 : 0 < a.length) (hl : a.length ≤ 48) (hd : ∀ c ∈ a, isD c = true) : sealed sm p (a ++ b) ≠ zero := by
  intro h
  have h1 := sealed_drop hs p (a ++ b)
  rw [h, show zero.drop 16 = List.replicate 48 0 by decide] at h1
  have h2 := fit_take (b := b) hl
  rw [← h1] at h2
  cases a with
  | nil => simp at h0
  | cons c r =>
    have h3 : c = 0 := by
      have h4 : c ∈ (List.replicate 48 (0 : UInt8)).take (c :: r).length := by rw [h2]; exact List.mem_cons_self ..
      exact List.eq_of_mem_replicate (List.mem_of_mem_take h4)
    have h5 := hd c (List.mem_cons_self ..)
    rw [h3] at h5
    cases h5
theorem head_ne {sm : Bytes → Bytes} (hs : ∀ s, (sm s).length = 16) {p n : Nat} (hn : n < 100000000) : head sm p n ≠ zero := by
  have l1 : (dgt n 8).length = 8 := dgt_len (w := 7) hn
  have h := sealed_ne hs (p := p) (a := dgt n 8) (b := []) (by omega) (by omega) (dgt_isD n 8)
  rwa [List.append_nil] at h
theorem cnt_head {sm : Bytes → Bytes} (hs : ∀ s, (sm s).length = 16) {p n room : Nat} (hr : n ≤ room) (hb : room < 100000000) : cnt sm p (head sm p n) room = some n := by
  unfold cnt
  rw [if_neg (head_ne hs (by omega))]
  have h1 : ∀ k, k ≤ room → (decide (head sm p k = head sm p n) = true ↔ k = n) := fun k hk => by
    rw [decide_eq_true_iff]
    exact ⟨fun h => head_inj hs (by omega) (by omega) h, fun h => by rw [h]⟩
  refine first_eq (by omega) (decide_eq_true rfl) (fun a ha => ?_)
  have := h1 a (by omega)
  rw [← Bool.not_eq_true, this]
  omega
/-- What a head counts is what it is. -/
theorem cnt_some {sm : Bytes → Bytes} {p room n : Nat} {s : Bytes} (h : cnt sm p s room = some n) : n ≤ room ∧ (s = head sm p n ∨ (n = 0 ∧ s = zero)) := by
  unfold cnt at h
  by_cases hz : s = zero
  · rw [if_pos hz] at h
    cases h
    exact ⟨Nat.zero_le _, .inr ⟨rfl, hz⟩⟩
  · rw [if_neg hz] at h
    have h1 := first_some h
    exact ⟨by omega, .inl (of_decide_eq_true h1.2).symm⟩
theorem sector_len2 {x : Bytes} (h : x.length ≤ 46) : (dgt x.length 2).length = 2 := dgt_len (w := 1) (by omega)
theorem sector_drop {sm : Bytes → Bytes} (hs : ∀ s, (sm s).length = 16) {p : Nat} {x : Bytes} (h : x.length ≤ 46) : (sector sm p x).drop 18 = x ++ List.replicate (46 - x.length) 0 := by
  have l2 := sector_len2 h
  have h1 := sealed_drop hs p (dgt x.length 2 ++ x)
  unfold sector
  rw [show 18 = 16 + 2 from rfl, ← List.drop_drop, h1]
  unfold fit
  rw [List.take_of_length_le (by rw [List.length_append]; omega), List.append_assoc, List.drop_left' l2, List.length_append, l2, show 48 - (2 + x.length) = 46 - x.length by omega]
theorem sector_lens {sm : Bytes → Bytes} (hs : ∀ s, (sm s).length = 16) {p : Nat} {x y : Bytes} (hx : x.length ≤ 46) (hy : y.length ≤ 46) (h : sector sm p x = sector sm p y) : x.length = y.length := by
  have h1 := sealed_inj hs h
  have l1 := sector_len2 hx
  have l2 := sector_len2 hy
  exact dgt_inj (fit_inj (by omega) (by omega) h1)
theorem piece_sector {sm : Bytes → Bytes} (hs : ∀ s, (sm s).length = 16) {p : Nat} {x : Bytes} (h0 : 1 ≤ x.length) (h : x.length ≤ 46) : piece sm p (sector sm p x) = some x := by
  unfold piece
  rw [sector_drop hs h]
  have ht : ∀ k, k ≤ x.length → (x ++ List.replicate (46 - x.length) 0).take k = x.take k := fun k hk => List.take_append_of_le_length hk
  have hf : first 47 (fun n => decide (1 ≤ n ∧ sector sm p ((x ++ List.replicate (46 - x.length) 0).take n) = sector sm p x)) = some x.length := by
    refine first_eq (by omega) (decide_eq_true ⟨h0, by rw [ht _ (Nat.le_refl _), List.take_length]⟩) (fun a ha => ?_)
    rw [decide_eq_false_iff_not]
    rintro ⟨_, h2⟩
    have h3 := sector_lens hs (by rw [List.length_take, List.length_append, List.length_replicate]; omega) h h2
    rw [List.length_take, List.length_append, List.length_replicate] at h3
    omega
  rw [hf]
  simp
/-- What a sector's piece is. -/
theorem piece_some {sm : Bytes → Bytes} (hs : ∀ s, (sm s).length = 16) {p : Nat} {s x : Bytes} (h : piece sm p s = some x) : s = sector sm p x ∧ 1 ≤ x.length ∧ x.length ≤ 46 := by
  unfold piece at h
  obtain ⟨n, hn, rfl⟩ := Option.map_eq_some_iff.1 h
  have h1 := of_decide_eq_true (first_some hn).2
  have h2 := (first_some hn).1
  have hl : s.length = 64 := by rw [← h1.2]; exact sealed_len hs _ _
  refine ⟨h1.2.symm, ?_, ?_⟩ <;> (rw [List.length_take, List.length_drop, hl]; omega)
/-! ### Records -/
theorem cut_isD : ∀ (d r : Bytes), (∀ c ∈ d, isD c = true) → cutC (d ++ 58 :: r) = some (d, r)
  | [], r, _ => by
    show cutC (58 :: r) = _
    unfold cutC
    rw [if_pos rfl]
  | c :: d, r, h => by
    have hc : c ≠ 58 := fun e => by
      have := h c (List.mem_cons_self ..)
      rw [e] at this
      cases this
    show cutC (c :: (d ++ 58 :: r)) = _
    unfold cutC
    rw [if_neg hc, cut_isD d r (fun x hx => h x (List.mem_cons_of_mem _ hx))]
    rfl
theorem len_of {n : Nat} (h : n ≤ 2000) : lenOf (Lib.itoa (n : Int)) = some n := by
  unfold lenOf
  refine first_eq (by omega) (decide_eq_true rfl) (fun a ha => ?_)
  rw [decide_eq_false_iff_not]
  intro h2
  rw [itoa_dec, itoa_dec] at h2
  have h3 := congrArg val h2
  rw [dec_val, dec_val] at h3
  omega
theorem parse_more : ∀ (k : Nat) (s : Bytes) (l : List Bytes), parse k s = some l → ∀ j, k ≤ j → parse j s = some l
  | 0, s, l, h, j, _ => by
    unfold parse at h
    by_cases hs : s = []
    · rw [if_pos hs] at h
      cases j <;> (unfold parse; rw [if_pos hs]; exact h)
    · rw [if_neg hs] at h
      cases h
  | k + 1, s, l, h, 0, hj => by omega
  | k + 1, s, l, h, j + 1, hj => by
    unfold parse at h ⊢
    by_cases hs : s = []
    · rw [if_pos hs] at h ⊢
      exact h
    · rw [if_neg hs] at h ⊢
      cases hc : cutC s with
      | none => rw [hc] at h; cases h
      | some x =>
        obtain ⟨a, r⟩ := x
        rw [hc] at h
        simp only at h ⊢
        cases hl : lenOf a with
        | none => rw [hl] at h; cases h
        | some n =>
          rw [hl] at h
          simp only at h ⊢
          by_cases hr : r.length < n
          · rw [if_pos hr] at h; cases h
          · rw [if_neg hr] at h ⊢
            obtain ⟨m, hm, rfl⟩ := Option.map_eq_some_iff.1 h
            rw [parse_more k _ m hm j (by omega)]
            rfl
theorem text_cons (x : Bytes) (l : List Bytes) : text (x :: l) = Lib.itoa (x.length : Int) ++ 58 :: (x ++ text l) := by
  unfold text
  rw [List.flatMap_cons]
  simp
theorem text_append (a b : List Bytes) : text (a ++ b) = text a ++ text b := List.flatMap_append
theorem itoa_pos (n : Nat) : 0 < (Lib.itoa (n : Int)).length := by rw [itoa_dec]; exact List.length_pos_iff.2 (dec_ne n)
/-- Records are read off their text, whatever stands behind it. -/
theorem parse_text : ∀ (l : List Bytes), (∀ x ∈ l, x.length ≤ 2000) → ∀ (k : Nat) (u : Bytes) (m : List Bytes), parse k u = some m → parse (k + l.length) (text l ++ u) = some (l ++ m)
  | [], _, k, u, m, h => h
  | x :: l, hl, k, u, m, h => by
    have ih := parse_text l (fun y hy => hl y (List.mem_cons_of_mem _ hy)) k u m h
    rw [text_cons, List.length_cons, ← Nat.add_assoc]
    unfold parse
    rw [if_neg (by intro e; have := congrArg List.length e; have h1 := itoa_pos x.length; simp at this), show Lib.itoa (x.length : Int) ++ 58 :: (x ++ text l) ++ u = Lib.itoa (x.length : Int) ++ 58 :: (x ++ (text l ++ u)) by simp,
      cut_isD _ _ (by rw [itoa_dec]; exact dec_isD _)]
    simp only
    rw [len_of (hl x (List.mem_cons_self ..))]
    simp only
    rw [if_neg (by rw [List.length_append]; omega), List.take_left, List.drop_left, ih]
    rfl
theorem parse_both {j : Nat} {u : Bytes} {m : List Bytes} : ∀ (k : Nat) (s : Bytes) (l : List Bytes), parse k s = some l → parse j u = some m → parse (k + j) (s ++ u) = some (l ++ m)
  | 0, s, l, h, hu => by
    unfold parse at h
    by_cases hs : s = []
    · rw [if_pos hs] at h
      cases h
      rw [hs, Nat.zero_add]
      exact hu
    · rw [if_neg hs] at h; cases h
  | k + 1, s, l, h, hu => by
    unfold parse at h
    by_cases hs : s = []
    · rw [if_pos hs] at h
      cases h
      rw [hs]
      exact parse_more j u m hu _ (by omega)
    · rw [if_neg hs] at h
      cases hc : cutC s with
      | none => rw [hc] at h; cases h
      | some x =>
        obtain ⟨a, r⟩ := x
        rw [hc] at h
        simp only at h
        have hc2 : ∀ (s a r : Bytes), cutC s = some (a, r) → cutC (s ++ u) = some (a, r ++ u) := by
          intro s
          induction s with
          | nil => intro a r h; cases h
          | cons c s ih =>
            intro a r h
            unfold cutC at h
            show cutC (c :: (s ++ u)) = _
            unfold cutC
            by_cases he : c = 58
            · rw [if_pos he] at h ⊢
              cases h
              rfl
            · rw [if_neg he] at h ⊢
              obtain ⟨⟨a2, r2⟩, h2, h3⟩ := Option.map_eq_some_iff.1 h
              cases h3
              rw [ih a2 r2 h2]
              rfl
        cases hl : lenOf a with
        | none => rw [hl] at h; cases h
        | some n =>
          rw [hl] at h
          simp only at h
          by_cases hr : r.length < n
          · rw [if_pos hr] at h; cases h
          · rw [if_neg hr] at h
            obtain ⟨m2, hm, rfl⟩ := Option.map_eq_some_iff.1 h
            rw [show k + 1 + j = (k + j) + 1 by omega]
            unfold parse
            rw [if_neg (fun e => hs (List.append_eq_nil_iff.1 e).1), hc2 s a r hc]
            simp only
            rw [hl]
            simp only
            rw [if_neg (by rw [List.length_append]; omega), List.take_append_of_le_length (by omega), List.drop_append_of_le_length (by omega), parse_both k _ m2 hm hu]
            rfl
theorem text_len : ∀ l : List Bytes, l.length ≤ (text l).length
  | [] => Nat.le_refl _
  | x :: l => by
    have := text_len l
    have h1 := itoa_pos x.length
    rw [text_cons, List.length_cons, List.length_append, List.length_cons, List.length_append]
    omega
theorem records_text {l : List Bytes} (h : ∀ x ∈ l, x.length ≤ 2000) : records (text l) = some l := by
  have h1 := parse_text l h 0 [] [] (by unfold parse; rw [if_pos rfl])
  rw [List.append_nil, List.append_nil, Nat.zero_add] at h1
  exact parse_more _ _ _ h1 _ (text_len l)
theorem records_more {s : Bytes} {l m : List Bytes} (h : records s = some l) (hm : ∀ x ∈ m, x.length ≤ 2000) : records (s ++ text m) = some (l ++ m) := by
  have h1 := parse_both (j := (text m).length) (u := text m) (m := m) _ s l h (records_text hm)
  unfold records
  rw [List.length_append]
  exact h1
end Jn
end Go.Proofs.YtpmkgedlnanjiaaGreatDoor
