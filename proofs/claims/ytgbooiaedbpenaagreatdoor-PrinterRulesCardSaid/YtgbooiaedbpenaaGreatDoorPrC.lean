/-
 Printer, layer 3: plain laws: how the pieces of canonical texts are read as tokens.
-/
import Derived.Test.YtgbooiaedbpenaaGreatDoorPrB
import Derived.Test.YtgbooiaedbpenaaGreatDoorLxL
namespace Go.Proofs.YtgbooiaedbpenaaGreatDoor
set_option linter.unusedVariables false
set_option linter.unusedSimpArgs false
open Go Go.RowKit

namespace Pr
open Lx (Tk cls word dig wl tok mk sc num)
/-- A word or number that stands before it ends here. -/
def NB (z : Bytes) : Prop := ∀ d q, z = d :: q → word d = false ∧ d ≠ 61
theorem wl_nb (p : UInt8 → Bool) : ∀ (t z : Bytes), (∀ c ∈ t, p c = true) → (∀ d q, z = d :: q → p d = false) → wl p (t ++ z) = t.length
 | [], z, _, hz => by
  cases z with
  | nil => rfl
  | cons d q =>
   show wl p (d :: q) = 0
   unfold wl
   rw [if_neg (by rw [hz d q rfl]; decide)]
 | c :: t, z, ht, hz => by
  show wl p (c :: (t ++ z)) = _
  unfold wl
  rw [if_pos (ht c (by simp)), wl_nb p t z (fun d hd => ht d (by simp [hd])) hz]
  rfl
theorem nb_dig {d : UInt8} (h : word d = false) : dig d = false ∧ cls d ≠ 3 ∧ cls d ≠ 5 := by
 unfold word at h
 rw [decide_eq_false_iff_not] at h
 unfold dig
 rw [decide_eq_false_iff_not]
 omega
theorem name_parts {x : Bytes} (h : nameOk x = true) : ∃ c t, x = c :: t ∧ cls c = 3 ∧ (∀ d ∈ c :: t, word d = true) ∧ x.length ≤ 24 := by
 unfold nameOk at h
 simp only [Bool.and_eq_true, decide_eq_true_eq, List.all_eq_true] at h
 obtain ⟨h0, h1, h2, h3⟩ := h
 cases x with
 | nil => simp at h0
 | cons c t => exact ⟨c, t, rfl, by simpa using h2, h3, h1⟩
theorem sc_name {x z : Bytes} (hx : nameOk x = true) (hz : NB z) (o : Nat) : sc o (x ++ z) = (⟨1, x, 0, o⟩, 0) :: sc (o + x.length) z := by
 obtain ⟨c, t, rfl, hc, hw, hl⟩ := name_parts hx
 have h1 : wl word ((c :: t) ++ z) = (c :: t).length := wl_nb word _ _ hw (fun d q e => (hz d q e).1)
 have h2 : tok ((c :: t) ++ z) = (1, (c :: t).length, 0) := by
  show tok (c :: (t ++ z)) = _
  rw [Lx.tok_cons, if_pos hc]
  rw [show c :: (t ++ z) = (c :: t) ++ z from rfl, h1, if_neg (by omega)]
 show sc o (c :: (t ++ z)) = _
 rw [Lx.sc_tok (by rw [hc]; decide) (by rw [hc]; decide) (by rw [show c :: (t ++ z) = (c :: t) ++ z from rfl, h2])]
 rw [show c :: (t ++ z) = (c :: t) ++ z from rfl, h2]
 unfold mk
 rw [h2]
 simp only [List.take_left, List.drop_left]
 rfl
theorem dec_go (n : Nat) (h : ¬ n < 10) : Lib.decDigits n = Lib.decDigits (n / 10) ++ [UInt8.ofNat (48 + n % 10)] := by rw [Lib.decDigits, dif_neg h]
theorem dec_ind {P : Nat → Prop} (h1 : ∀ n, n < 10 → P n) (h2 : ∀ n, ¬ n < 10 → P (n / 10) → P n) (n : Nat) : P n := by
 induction n using Nat.strongRecOn with
 | ind n ih =>
  by_cases h : n < 10
  · exact h1 n h
  · exact h2 n h (ih (n / 10) (by omega))
theorem dig_cls : ∀ k, k < 10 → cls (UInt8.ofNat (48 + k)) = 4 ∧ (UInt8.ofNat (48 + k)).toNat = 48 + k := by decide
theorem dec_cls (n : Nat) : ∀ c ∈ Lib.decDigits n, cls c = 4 := by
 induction n using dec_ind with
 | h1 n h =>
  rw [Lib.decDigits_one h]
  intro c hc
  rw [List.mem_singleton] at hc
  rw [hc]
  exact (dig_cls n h).1
 | h2 n h ih =>
  rw [dec_go n h]
  intro c hc
  rcases List.mem_append.1 hc with hc | hc
  · exact ih c hc
  · rw [List.mem_singleton] at hc
    rw [hc]
    exact (dig_cls _ (Nat.mod_lt _ (by decide))).1
theorem num_snoc (l : Bytes) (c : UInt8) : num (l ++ [c]) = 10 * num l + (c.toNat - 48) := by
 unfold num
 rw [List.foldl_append]
 rfl
theorem dec_num (n : Nat) : num (Lib.decDigits n) = n := by
 induction n using dec_ind with
 | h1 n h =>
  rw [Lib.decDigits_one h, show [UInt8.ofNat (48 + n)] = [] ++ [UInt8.ofNat (48 + n)] from rfl, num_snoc, (dig_cls n h).2]
  show 10 * 0 + _ = _
  omega
 | h2 n h ih =>
  rw [dec_go n h, num_snoc, ih, (dig_cls _ (Nat.mod_lt _ (by decide))).2]
  omega
theorem dec_ne (n : Nat) : Lib.decDigits n ≠ [] := by
 intro h
 have := Lib.nDigits_pos n
 rw [← Lib.decDigits_length, h] at this
 simp at this
theorem dec_len {n : Nat} (h : n ≤ 9999999999) : (Lib.decDigits n).length ≤ 10 := by
 rw [Lib.decDigits_length]
 rcases Nat.lt_or_ge (Lib.nDigits n) 11 with h1 | h1
 · omega
 · exfalso
   have h2 : ∀ k m : Nat, Lib.nDigits m = k + 1 → 10 ^ k ≤ m ∨ k = 0 := by
    intro k
    induction k with
    | zero => exact fun m _ => .inr rfl
    | succ k ih =>
     intro m hm
     by_cases hs : m < 10
     · rw [Lib.nDigits_small hs] at hm
       omega
     · rw [Lib.nDigits_big hs] at hm
       rcases ih (m / 10) (by omega) with h3 | h3
       · refine .inl ?_
         rw [Nat.pow_succ]
         omega
       · subst h3
         refine .inl ?_
         omega
   obtain ⟨k, hk⟩ : ∃ k, Lib.nDigits n = k + 1 := ⟨Lib.nDigits n - 1, by omega⟩
   rcases h2 k n hk with h3 | h3
   · have h4 : 10 ^ 10 ≤ 10 ^ k := Nat.pow_le_pow_right (by decide) (by omega)
     omega
   · omega
theorem numOk_iff {n : Int} : numOk n = true ↔ 0 ≤ n ∧ n ≤ 9999999999 := by simp [numOk]
theorem itoa_dec {n : Int} (h : 0 ≤ n) : Lib.itoa n = Lib.decDigits n.toNat := by
 unfold Lib.itoa
 rw [if_neg (by omega)]
theorem sc_num {n : Int} (hn : numOk n = true) {z : Bytes} (hz : NB z) (o : Nat) : sc o (Lib.itoa n ++ z) = (⟨2, Lib.itoa n, n.toNat, o⟩, 0) :: sc (o + (Lib.itoa n).length) z := by
 rw [numOk_iff] at hn
 rw [itoa_dec hn.1]
 generalize hm : n.toNat = m
 have hm9 : m ≤ 9999999999 := by omega
 have hc4 := dec_cls m
 have hnm := dec_num m
 have hln := dec_len hm9
 cases hd : Lib.decDigits m with
 | nil => exact absurd hd (dec_ne m)
 | cons c t =>
  rw [hd] at hc4 hnm hln
  have hc : cls c = 4 := hc4 c (by simp)
  have h1 : wl dig ((c :: t) ++ z) = (c :: t).length := wl_nb dig _ _ (fun d hd => by unfold dig; rw [decide_eq_true_iff]; exact hc4 d hd) (fun d q e => (nb_dig (hz d q e).1).1)
  have h3 : Lx.sticks z = false := by
   cases z with
   | nil => rfl
   | cons d q =>
    have := nb_dig (hz d q rfl).1
    unfold Lx.sticks
    rw [decide_eq_false_iff_not]
    omega
  have h2 : tok ((c :: t) ++ z) = (2, (c :: t).length, 0) := by
   show tok (c :: (t ++ z)) = _
   rw [Lx.tok_cons, if_neg (by rw [hc]; decide), if_pos hc]
   rw [show c :: (t ++ z) = (c :: t) ++ z from rfl, h1, List.drop_left, if_neg (by rw [h3]; simp only [Bool.false_eq_true, or_false]; omega)]
  show sc o (c :: (t ++ z)) = _
  rw [Lx.sc_tok (by rw [hc]; decide) (by rw [hc]; decide) (by rw [show c :: (t ++ z) = (c :: t) ++ z from rfl, h2])]
  rw [show c :: (t ++ z) = (c :: t) ++ z from rfl, h2]
  unfold mk
  rw [h2]
  simp only [List.take_left, List.drop_left]
  rw [if_pos ⟨trivial, trivial⟩, hnm]
theorem sc_sym {c : UInt8} (hc : cls c = 6) (z : Bytes) (o : Nat) : sc o (c :: z) = (⟨3, [c], 0, o⟩, 0) :: sc (o + 1) z := by
 have h2 : tok (c :: z) = (3, 1, 0) := by
  rw [Lx.tok_cons, if_neg (by rw [hc]; decide), if_neg (by rw [hc]; decide), if_pos (.inl hc), if_neg (by rw [hc]; simp), if_neg (by rw [hc]; decide)]
 rw [Lx.sc_tok (by rw [hc]; decide) (by rw [hc]; decide) (by rw [h2]), h2]
 unfold mk
 rw [h2]
 rfl
theorem sc_op1 {c : UInt8} (hc : cls c = 7) {z : Bytes} (hz : NB z) (o : Nat) : sc o (c :: z) = (⟨3, [c], 0, o⟩, 0) :: sc (o + 1) z := by
 have h2 : tok (c :: z) = (3, 1, 0) := by
  rw [Lx.tok_cons, if_neg (by rw [hc]; decide), if_neg (by rw [hc]; decide), if_pos (.inr (.inl hc)), if_neg, if_neg (by rw [hc]; decide)]
  rintro ⟨_, h⟩
  cases z with
  | nil => simp at h
  | cons d q =>
   simp only [List.head?_cons, Option.some.injEq] at h
   exact (hz d q rfl).2 h
 rw [Lx.sc_tok (by rw [hc]; decide) (by rw [hc]; decide) (by rw [h2]), h2]
 unfold mk
 rw [h2]
 rfl
theorem sc_op2 {c : UInt8} (hc : cls c = 7 ∨ cls c = 8) (z : Bytes) (o : Nat) : sc o (c :: 61 :: z) = (⟨3, [c, 61], 0, o⟩, 0) :: sc (o + 2) z := by
 have h2 : tok (c :: 61 :: z) = (3, 2, 0) := by
  rw [Lx.tok_cons, if_neg (by omega), if_neg (by omega), if_pos (.inr hc), if_pos ⟨by omega, rfl⟩]
 rw [Lx.sc_tok (by omega) (by omega) (by rw [h2]), h2]
 unfold mk
 rw [h2]
 rfl

/-! ### Texts that are read as tokens, whatever comes behind -/
def rz (t : Tk) : Tk := { t with at_ := 0 }
def Em (s : Bytes) (ts : List Tk) : Prop := ∀ (o : Nat) (z : Bytes), NB z → ∃ l : List Tk, sc o (s ++ z) = l.map (fun t => (t, 0)) ++ sc (o + s.length) z ∧ l.map rz = ts
/-- A word that stands before this text ends there. -/
def Bg (s : Bytes) : Prop := ∀ z, NB z → NB (s ++ z)
theorem Bg.nil : Bg [] := fun z h => h
theorem Bg.cons {c : UInt8} {s : Bytes} (h : word c = false ∧ c ≠ 61) : Bg (c :: s) := fun z _ d q e => by
 cases e
 exact h
theorem Bg.append {s s' : Bytes} (h : Bg s) (h' : Bg s') : Bg (s ++ s') := fun z hz => by
 rw [List.append_assoc]
 exact h _ (h' z hz)
theorem Bg.head {s s' : Bytes} (h : Bg s) (hs : s ≠ []) : Bg (s ++ s') := fun z hz => by
 cases s with
 | nil => exact absurd rfl hs
 | cons c s => exact Bg.cons (h [] (fun d q e => by cases e) c s (by simp)) z hz
theorem Em.nil : Em [] [] := fun o z _ => ⟨[], rfl, rfl⟩
theorem Em.append {s s' : Bytes} {ts ts' : List Tk} (h : Em s ts) (h' : Em s' ts') (hb : Bg s') : Em (s ++ s') (ts ++ ts') := fun o z hz => by
 obtain ⟨l, h1, h2⟩ := h o (s' ++ z) (hb z hz)
 obtain ⟨m, h3, h4⟩ := h' (o + s.length) z hz
 refine ⟨l ++ m, ?_, by rw [List.map_append, h2, h4]⟩
 rw [List.append_assoc, h1, h3, List.map_append, List.append_assoc, List.length_append, Nat.add_assoc]
theorem Em.blank {c : UInt8} (hc : cls c = 1) {s : Bytes} {ts : List Tk} (h : Em s ts) : Em (c :: s) ts := fun o z hz => by
 obtain ⟨l, h1, h2⟩ := h (o + 1) z hz
 refine ⟨l, ?_, h2⟩
 show sc o (c :: (s ++ z)) = _
 rw [Lx.sc_blank hc, h1, List.length_cons, Nat.add_assoc, Nat.add_comm 1]
def tkN (x : Bytes) : Tk := ⟨1, x, 0, 0⟩
def tkI (n : Int) : Tk := ⟨2, Lib.itoa n, n.toNat, 0⟩
def tkS (x : Bytes) : Tk := ⟨3, x, 0, 0⟩
theorem Em.name {x : Bytes} (hx : nameOk x = true) : Em x [tkN x] := fun o z hz => ⟨[⟨1, x, 0, o⟩], by rw [sc_name hx hz]; rfl, rfl⟩
theorem Em.num {n : Int} (hn : numOk n = true) : Em (Lib.itoa n) [tkI n] := fun o z hz => ⟨[⟨2, Lib.itoa n, n.toNat, o⟩], by rw [sc_num hn hz]; rfl, rfl⟩
theorem Em.sym {c : UInt8} (hc : cls c = 6) {s : Bytes} {ts : List Tk} (h : Em s ts) : Em (c :: s) (tkS [c] :: ts) := fun o z hz => by
 obtain ⟨l, h1, h2⟩ := h (o + 1) z hz
 refine ⟨⟨3, [c], 0, o⟩ :: l, ?_, by rw [List.map_cons, h2]; rfl⟩
 show sc o (c :: (s ++ z)) = _
 rw [sc_sym hc, h1, List.length_cons, Nat.add_assoc, Nat.add_comm 1]
 rfl
theorem Em.op1 {c : UInt8} (hc : cls c = 7) {s : Bytes} {ts : List Tk} (h : Em s ts) (hb : Bg s) : Em (c :: s) (tkS [c] :: ts) := fun o z hz => by
 obtain ⟨l, h1, h2⟩ := h (o + 1) z hz
 refine ⟨⟨3, [c], 0, o⟩ :: l, ?_, by rw [List.map_cons, h2]; rfl⟩
 show sc o (c :: (s ++ z)) = _
 rw [sc_op1 hc (hb z hz), h1, List.length_cons, Nat.add_assoc, Nat.add_comm 1]
 rfl
theorem Em.op2 {c : UInt8} (hc : cls c = 7 ∨ cls c = 8) {s : Bytes} {ts : List Tk} (h : Em s ts) : Em (c :: 61 :: s) (tkS [c, 61] :: ts) := fun o z hz => by
 obtain ⟨l, h1, h2⟩ := h (o + 2) z hz
 refine ⟨⟨3, [c, 61], 0, o⟩ :: l, ?_, by rw [List.map_cons, h2]; rfl⟩
 show sc o (c :: 61 :: (s ++ z)) = _
 rw [sc_op2 hc, h1, List.length_cons, List.length_cons, Nat.add_assoc, Nat.add_assoc, show 2 + s.length = s.length + (1 + 1) by omega]
 rfl
theorem Em.flat {α : Type} {f : α → Bytes} {g : α → List Tk} : ∀ l : List α, (∀ x ∈ l, Em (f x) (g x) ∧ Bg (f x)) → Em (l.flatMap f) (l.flatMap g) ∧ Bg (l.flatMap f)
 | [], _ => ⟨Em.nil, Bg.nil⟩
 | x :: l, h => by
  have h1 := h x (by simp)
  have h2 := Em.flat l (fun y hy => h y (by simp [hy]))
  simp only [List.flatMap_cons]
  exact ⟨h1.1.append h2.1 h2.2, h1.2.append h2.2⟩
theorem bl : cls 32 = 1 ∧ (word 32 = false ∧ (32 : UInt8) ≠ 61) := by decide
theorem flat_one {α β : Type} (f : α → β) : ∀ l : List α, l.flatMap (fun x => [f x]) = l.map f
 | [] => rfl
 | x :: l => by
  rw [List.flatMap_cons, flat_one f l]
  rfl
theorem Em.nums {l : List Int} (h : numsOk l = true) : Em (nums l) (l.map tkI) ∧ Bg (nums l) := by
 have h1 := Em.flat (f := fun n => 32 :: Lib.itoa n) (g := fun n => [tkI n]) l (fun n hn => ⟨Em.blank bl.1 (Em.num (List.all_eq_true.1 h n hn)), Bg.cons bl.2⟩)
 refine ⟨?_, h1.2⟩
 have h2 := h1.1
 rw [flat_one] at h2
 exact h2
/-- A text that is read as tokens to its end. -/
theorem Em.all {s : Bytes} {ts : List Tk} (h : Em s ts) (o : Nat) : ∃ l : List Tk, sc o s = l.map (fun t => (t, 0)) ∧ l.map rz = ts := by
 obtain ⟨l, h1, h2⟩ := h o [] (fun d q e => by cases e)
 rw [List.append_nil, Lx.sc_nil, List.append_nil] at h1
 exact ⟨l, h1, h2⟩
end Pr
end Go.Proofs.YtgbooiaedbpenaaGreatDoor
