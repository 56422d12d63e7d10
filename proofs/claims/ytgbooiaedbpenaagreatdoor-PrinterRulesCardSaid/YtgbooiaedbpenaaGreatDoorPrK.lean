/-
 Printer, plain laws: texts made of words with one blank before each: their tokens, their number as it is counted at the end, their blanks.
-/
import Derived.Test.YtgbooiaedbpenaaGreatDoorPrC
namespace Go.Proofs.YtgbooiaedbpenaaGreatDoor
set_option linter.unusedVariables false
set_option linter.unusedSimpArgs false
open Go Go.RowKit

namespace Pr
open Lx (Tk cls word dig wl tok mk sc num)
theorem u8_all {p : UInt8 → Bool} (h : ∀ n, n < 256 → p (UInt8.ofNat n) = true) (c : UInt8) : p c = true := by
 have := h c.toNat c.toNat_lt
 rwa [UInt8.ofNat_toNat] at this
/-- What is counted for a byte besides the field. -/
def ex (c : UInt8) : Nat := if c = 47 ∨ c = 46 then 2 else 0
theorem word_facts {c : UInt8} (h : word c = true) : (Lib.isSp c = false ∧ c ≠ 59 ∧ c.toNat < 128) ∧ ex c = 0 ∧ c ≠ 123 ∧ c ≠ 125 := by
 have h1 := u8_all (p := fun c => !word c || (!Lib.isSp c && (decide (c ≠ 59) && (decide (c.toNat < 128) && (decide (ex c = 0) && (decide (c ≠ 123) && decide (c ≠ 125))))))) (by decide +kernel) c
 simp [h] at h1
 exact ⟨⟨h1.1, h1.2.1, h1.2.2.1⟩, h1.2.2.2.1, h1.2.2.2.2.1, h1.2.2.2.2.2⟩
theorem dig_word {c : UInt8} (h : cls c = 4) : word c = true := by simp [word, h]
theorem tokB_ex {c : UInt8} (o : Bool) (h : c ≠ 59) : tokB o c = ex c := by unfold tokB ex; rw [if_neg h]
/-- A word: no blanks, no semicolon; k is what is counted for it. -/
structure Wo (x : Bytes) (k : Nat) : Prop where
 ne : x ≠ []
 sp : ∀ c ∈ x, Lib.isSp c = false ∧ c ≠ 59 ∧ c.toNat < 128
 cnt : 1 + (x.map ex).sum = k
theorem Wo.tokF {x : Bytes} {k : Nat} (h : Wo x k) : tokF x = k := by
 have h1 : x.map (tokB (decide (x.length ≤ 1))) = x.map ex := List.map_congr_left (fun c hc => tokB_ex _ (h.sp c hc).2.1)
 unfold Pr.tokF
 rw [h1, h.cnt]
theorem Wo.tokF2 {x : Bytes} {k : Nat} (h : Wo x k) : Pr.tokF (x ++ [59]) = k + 1 := by
 have h0 : ¬ (x ++ [59]).length ≤ 1 := by
  have := List.length_pos_iff.2 h.ne
  rw [List.length_append, List.length_singleton]
  omega
 have h1 : x.map (tokB false) = x.map ex := List.map_congr_left (fun c hc => tokB_ex _ (h.sp c hc).2.1)
 unfold Pr.tokF
 rw [decide_eq_false h0, List.map_append, h1, List.sum_append]
 have := h.cnt
 simp [tokB]
 omega
theorem Wo.append {x y : Bytes} {j k : Nat} (h : Wo x j) (h' : Wo y k) : Wo (x ++ y) (j + k - 1) :=
 ⟨by simp [h.ne], fun c hc => (List.mem_append.1 hc).elim (h.sp c) (h'.sp c), by
  have := h.cnt
  have := h'.cnt
  rw [List.map_append, List.sum_append]
  omega⟩
theorem Wo.word {x : Bytes} (h0 : x ≠ []) (h : ∀ c ∈ x, Lx.word c = true) : Wo x 1 :=
 ⟨h0, fun c hc => (word_facts (h c hc)).1, by
  have h1 : x.map ex = x.map (fun _ => 0) := List.map_congr_left (fun c hc => (word_facts (h c hc)).2.1)
  rw [h1]
  clear h0 h h1
  induction x with
  | nil => rfl
  | cons c x ih => simpa using ih⟩
theorem Wo.name {x : Bytes} (h : nameOk x = true) : Wo x 1 := by
 obtain ⟨c, t, rfl, _, hw, _⟩ := name_parts h
 exact Wo.word (by simp) hw
theorem Wo.num {n : Int} (h : numOk n = true) : Wo (Lib.itoa n) 1 := by
 rw [itoa_dec (numOk_iff.1 h).1]
 exact Wo.word (dec_ne _) (fun c hc => dig_word (dec_cls _ c hc))

/-! ### The number of tokens -/
def T (s : Bytes) : Nat := tokens s
def SpB (z : Bytes) : Prop := ∀ d q, z = d :: q → Lib.isSp d = true
theorem SpB.nil : SpB [] := fun d q e => by cases e
theorem SpB.cons {c : UInt8} (h : Lib.isSp c = true) (s : Bytes) : SpB (c :: s) := fun d q e => by cases e; exact h
theorem go_word : ∀ (x acc z : Bytes), (∀ c ∈ x, Lib.isSp c = false) → Lib.fieldsGo acc (x ++ z) = Lib.fieldsGo (acc ++ x) z
 | [], acc, z, _ => by simp
 | c :: x, acc, z, h => by
  show Lib.fieldsGo acc (c :: (x ++ z)) = _
  rw [Lib.fieldsGo_more acc c _ (h c (by simp)), go_word x _ z (fun d hd => h d (by simp [hd])), List.append_assoc]
  rfl
theorem T_word {x z : Bytes} (h0 : x ≠ []) (h : ∀ c ∈ x, Lib.isSp c = false) (hz : SpB z) : T (x ++ z) = tokF x + T z := by
 have h1 : Lib.fields (x ++ z) = x :: Lib.fields z := by
  unfold Lib.fields
  rw [go_word x [] z h, List.nil_append]
  cases z with
  | nil =>
   cases x with
   | nil => exact absurd rfl h0
   | cons c x => rfl
  | cons d q => rw [Lib.fieldsGo_end x d q (hz d q rfl) h0, Lib.fieldsGo_sp d q (hz d q rfl)]
 unfold T Pr.tokens
 rw [h1]
 rfl
theorem T_sp {c : UInt8} (h : Lib.isSp c = true) (s : Bytes) : T (c :: s) = T s := by
 unfold T Pr.tokens Lib.fields
 rw [Lib.fieldsGo_sp c s h]
theorem T_nil : T [] = 0 := rfl
/-- A text of words with one blank between them. -/
structure Ws (s : Bytes) (k : Nat) : Prop where
 ne : s ≠ []
 hd : ∀ d q, s = d :: q → d ≠ 32
 last : s.getLast? ≠ some 32
 ok : ∀ c ∈ s, c ≠ 9 ∧ c ≠ 10 ∧ c ≠ 59 ∧ c.toNat < 128
 two : ∀ a b, s ≠ a ++ 32 :: 32 :: b
 cnt : ∀ z, SpB z → T (s ++ z) = k + T z
 cnt2 : ∀ z, SpB z → T (s ++ 59 :: z) = k + 1 + T z
theorem Wo.ws {x : Bytes} {k : Nat} (h : Wo x k) : Ws x k where
 ne := h.ne
 hd := fun d q e => by
  have := (h.sp d (by rw [e]; simp)).1
  rintro rfl
  exact absurd this (by decide)
 last := fun e => by
  have := (h.sp 32 (List.mem_of_getLast? e)).1
  exact absurd this (by decide)
 ok := fun c hc => ⟨fun e => by have := (h.sp c hc).1; rw [e] at this; exact absurd this (by decide), fun e => by have := (h.sp c hc).1; rw [e] at this; exact absurd this (by decide), (h.sp c hc).2⟩
 two := fun a b e => by
  have := (h.sp 32 (by rw [e]; simp)).1
  exact absurd this (by decide)
 cnt := fun z hz => by rw [T_word h.ne (fun c hc => (h.sp c hc).1) hz, h.tokF]
 cnt2 := fun z hz => by
  rw [show x ++ 59 :: z = (x ++ [59]) ++ z by simp, T_word (by simp) (fun c hc => by
   rcases List.mem_append.1 hc with hc | hc
   · exact (h.sp c hc).1
   · rw [List.mem_singleton.1 hc]; decide) hz, h.tokF2]
/-- One text of words behind another one. -/
theorem Ws.append {s t : Bytes} {j k : Nat} (h : Ws s j) (h' : Ws t k) : Ws (s ++ 32 :: t) (j + k) where
 ne := by simp
 hd := fun d q e => by
  cases s with
  | nil => exact absurd rfl h.ne
  | cons c s =>
   injection e with e1 e2
   exact e1 ▸ h.hd c s rfl
 last := by
  rw [List.getLast?_append, List.getLast?_cons]
  have := h'.last
  cases hl : t.getLast? with
  | none => exact absurd (List.getLast?_eq_none_iff.1 hl) h'.ne
  | some c =>
   rw [hl] at this
   simpa [Option.or] using this
 ok := fun c hc => by
  rcases List.mem_append.1 hc with hc | hc
  · exact h.ok c hc
  · rcases List.mem_cons.1 hc with rfl | hc
    · decide
    · exact h'.ok c hc
 two := fun a b e => by
  rcases List.append_eq_append_iff.1 e with ⟨m, h1, h2⟩ | ⟨m, h1, h2⟩
  · cases m with
    | nil =>
     rw [List.nil_append] at h2
     cases h2
     exact h'.hd 32 b rfl rfl
    | cons c m =>
     rw [List.cons_append] at h2
     injection h2 with h3 h4
     exact h'.two m b h4
  · cases m with
    | nil =>
     rw [List.nil_append] at h2
     injection h2 with h3 h4
     exact h'.hd 32 b h4.symm rfl
    | cons c m =>
     injection h2 with h3 h4
     cases m with
     | nil =>
      subst h3
      exact h.last (by rw [h1]; simp)
     | cons d m =>
      injection h4 with h5 h6
      subst h3
      subst h5
      exact h.two a m (by rw [h1])
 cnt := fun z hz => by
  rw [List.append_assoc, List.cons_append, h.cnt _ (SpB.cons (by decide) _), T_sp (by decide), h'.cnt z hz, Nat.add_assoc]
 cnt2 := fun z hz => by
  rw [List.append_assoc, List.cons_append, h.cnt _ (SpB.cons (by decide) _), T_sp (by decide), h'.cnt2 z hz, Nat.add_assoc, Nat.add_assoc, Nat.add_assoc]
/-- A text that may follow: nothing, or a blank and words; it is read as these tokens. -/
structure Pc (s : Bytes) (ts : List Tk) : Prop where
 em : Em s ts
 bg : Bg s
 wo : s = [] ∧ ts = [] ∨ ∃ t, s = 32 :: t ∧ Ws t ts.length
theorem Pc.nil : Pc [] [] := ⟨Em.nil, Bg.nil, .inl ⟨rfl, rfl⟩⟩
theorem Pc.append {s t : Bytes} {ts us : List Tk} (h : Pc s ts) (h' : Pc t us) : Pc (s ++ t) (ts ++ us) where
 em := h.em.append h'.em h'.bg
 bg := h.bg.append h'.bg
 wo := by
  rcases h.wo with ⟨rfl, rfl⟩ | ⟨a, rfl, ha⟩
  · rw [List.nil_append, List.nil_append]
    exact h'.wo
  · rcases h'.wo with ⟨rfl, rfl⟩ | ⟨b, rfl, hb⟩
    · rw [List.append_nil, List.append_nil]
      exact .inr ⟨a, rfl, ha⟩
    · exact .inr ⟨a ++ 32 :: b, rfl, by rw [List.length_append]; exact ha.append hb⟩
theorem Pc.word {x : Bytes} {ts : List Tk} (h : Em x ts) (hw : Wo x ts.length) : Pc (32 :: x) ts := ⟨Em.blank bl.1 h, Bg.cons bl.2, .inr ⟨x, rfl, hw.ws⟩⟩
theorem Pc.name {x : Bytes} (h : nameOk x = true) : Pc (32 :: x) [tkN x] := Pc.word (Em.name h) (Wo.name h)
theorem Pc.num {n : Int} (h : numOk n = true) : Pc (32 :: Lib.itoa n) [tkI n] := Pc.word (Em.num h) (Wo.num h)
theorem Pc.flat {α : Type} {f : α → Bytes} {g : α → List Tk} : ∀ l : List α, (∀ x ∈ l, Pc (f x) (g x)) → Pc (l.flatMap f) (l.flatMap g)
 | [], _ => Pc.nil
 | x :: l, h => by
  rw [List.flatMap_cons, List.flatMap_cons]
  exact (h x (by simp)).append (Pc.flat l (fun y hy => h y (by simp [hy])))
theorem Pc.nums {l : List Int} (h : numsOk l = true) : Pc (nums l) (l.map tkI) := by
 have h1 := Pc.flat (f := fun n => 32 :: Lib.itoa n) (g := fun n => [tkI n]) l (fun n hn => Pc.num (List.all_eq_true.1 h n hn))
 rw [flat_one] at h1
 exact h1
/-- A text that begins with a word. -/
structure Hd (s : Bytes) (ts : List Tk) : Prop where
 em : Em s ts
 wo : Ws s ts.length
theorem Hd.name {x : Bytes} (h : nameOk x = true) : Hd x [tkN x] := ⟨Em.name h, (Wo.name h).ws⟩
theorem Hd.append {s t : Bytes} {ts us : List Tk} (h : Hd s ts) (h' : Pc t us) : Hd (s ++ t) (ts ++ us) where
 em := h.em.append h'.em h'.bg
 wo := by
  rcases h'.wo with ⟨rfl, rfl⟩ | ⟨b, rfl, hb⟩
  · simpa using h.wo
  · rw [List.length_append]
    exact h.wo.append hb
theorem Hd.lone {s : Bytes} (k : List Tk) (h : Em s k) (h' : Wo s k.length) : Hd s k := ⟨h, h'.ws⟩
end Pr
end Go.Proofs.YtgbooiaedbpenaaGreatDoor
