/-
  Printer, plain laws: the depth of the lines of halls and rules.
-/
import Derived.Test.YtgbooiaedbpenaaDoorPrL
namespace Go.Proofs.YtgbooiaedbpenaaDoor
set_option linter.unusedVariables false
set_option linter.unusedSimpArgs false
open Go Go.RowKit

namespace Pr
/-- Lines from a depth to a depth: a line that ends with a closing brace stands one less deep, behind one that ends with an opening one it is one deeper. -/
def Dp : Nat → List (Nat × Bytes) → Nat → Prop
  | a, [], b => a = b
  | a, x :: l, b => a = (if x.2.getLast? = some 125 then x.1 + 1 else x.1) ∧ Dp (if x.2.getLast? = some 123 then x.1 + 1 else x.1) l b
theorem Dp.append : ∀ {a b c : Nat} {l m : List (Nat × Bytes)}, Dp a l b → Dp b m c → Dp a (l ++ m) c
  | a, b, c, [], m, h, h' => by cases h; exact h'
  | a, b, c, x :: l, m, h, h' => ⟨h.1, Dp.append h.2 h'⟩
theorem Dp.semi (d : Nat) (s : Bytes) : Dp d [(d, s ++ [59])] d := ⟨by simp, by simp [Dp]⟩
theorem Dp.open (d : Nat) (s : Bytes) : Dp d [(d, s ++ tOpen)] (d + 1) := ⟨by simp [tOpen], by simp [Dp, tOpen]⟩
theorem Dp.close (d : Nat) : Dp (d + 1) [(d, tClose)] d := ⟨by simp [tClose], by simp [Dp, tClose]⟩
theorem Dp.flat {α : Type} {f : α → List (Nat × Bytes)} {d : Nat} : ∀ l : List α, (∀ x ∈ l, Dp d (f x) d) → Dp d (l.flatMap f) d
  | [], _ => rfl
  | x :: l, h => by
    rw [List.flatMap_cons]
    exact (h x (by simp)).append (Dp.flat l (fun y hy => h y (by simp [hy])))
theorem Dp.map {α : Type} {f : α → Nat × Bytes} {d : Nat} (l : List α) (h : ∀ x ∈ l, Dp d [f x] d) : Dp d (l.map f) d := by
  rw [← flat_one]
  exact Dp.flat l h
theorem block_dp (b : Bl) : Dp 2 (blockL b) 2 := (Dp.open 2 _).append ((Dp.map b.rows (fun r _ => Dp.semi 3 _)).append (Dp.close 2))
theorem level_dp (l : Lv) : Dp 1 (levelL l) 1 := by
  have h1 : Dp 2 (innerL l) 2 := (Dp.flat l.blocks (fun x _ => block_dp x)).append ((Dp.map l.areas (fun x _ => Dp.semi 2 _)).append ((Dp.map l.aisles (fun x _ => Dp.semi 2 _)).append ((Dp.map l.pillars (fun x _ => Dp.semi 2 _)).append (Dp.map l.doors (fun x _ => Dp.semi 2 _)))))
  exact (Dp.open 1 _).append (h1.append (Dp.close 1))
theorem hall_dp (h : Hl) : Dp 0 (hallL h) 0 := (Dp.open 0 _).append ((Dp.flat h.levels (fun x _ => level_dp x)).append (Dp.close 0))
theorem rules_dp (l : List Itm) : Dp 0 (l.map itemL) 0 := Dp.map l (fun x _ => Dp.semi 0 _)
/-- What is read off two texts that are equal. -/
theorem toks_of {l m : List (Nat × Bytes)} {ts us : List Lx.Tk} (h : Lws l ts) (h' : Lws m us) (e : full l = full m) : ts = us := by
  obtain ⟨_, a, h1, h2⟩ := h.lex
  obtain ⟨_, b, h3, h4⟩ := h'.lex
  rw [e, h3] at h1
  have h5 := congrArg (List.map Prod.fst) h1
  simp only [List.map_map] at h5
  have h6 : ∀ l : List Lx.Tk, List.map (Prod.fst ∘ fun t => (t, 0)) l = l := fun l => by
    induction l with
    | nil => rfl
    | cons x l ih => rw [List.map_cons, ih]; rfl
  rw [h6, h6] at h5
  rw [← h2, ← h4, h5]
end Pr
end Go.Proofs.YtgbooiaedbpenaaDoor
