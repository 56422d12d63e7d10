/-
  Printer, layer 23: a list that came in is appended to one of the call's own.
-/
import Derived.Test.YtgbooiaedbpenaaDoorPrHd
import Derived.Deep.AppendSrc
namespace Go.Proofs.YtgbooiaedbpenaaDoor
set_option linter.unusedVariables false
set_option linter.unusedSimpArgs false
open Go Go.RowKit Go.Shelf

/-- The cells of a list that can be read, one list of cells for each element. -/
theorem RdS.css {α : Type} {C : Nat} {R : World → List Value → α → Prop} {w : World} {b off n cap : Nat} {l : List α} (h : RdS C R w (.slice (some ⟨b, off, none⟩) n cap) l) :
    ∃ css : List (List Value), css.length = l.length ∧ (∀ cs ∈ css, cs.length = C) ∧ (∀ (i : Nat) (x : α) (cs : List Value), l[i]? = some x → css[i]? = some cs → R w cs x) ∧ ∀ (k : Nat) (c : Value), css.flatten[k]? = some c → w.cell? ⟨b, off + k, none⟩ = some c := by
  have h1 : ∀ (m : List α) (k : Nat), (∀ (i : Nat) (x : α), m[i]? = some x → l[k + i]? = some x) → ∃ css : List (List Value), css.length = m.length ∧ (∀ cs ∈ css, cs.length = C) ∧ (∀ (i : Nat) (x : α) (cs : List Value), m[i]? = some x → css[i]? = some cs → R w cs x) ∧ ∀ (j : Nat) (c : Value), css.flatten[j]? = some c → w.cell? ⟨b, off + k * C + j, none⟩ = some c := by
    intro m
    induction m with
    | nil => exact fun k _ => ⟨[], rfl, by simp, by simp, by simp⟩
    | cons y m ih =>
      intro k hk
      obtain ⟨css, h2, h3, h4, h5⟩ := ih (k + 1) (fun i x hx => by have := hk (i + 1) x (by simpa using hx); rwa [show k + (i + 1) = k + 1 + i by omega] at this)
      obtain ⟨b', off', cs, he, _, hl, hr, hc⟩ := h.elem (hk 0 y rfl)
      cases he
      refine ⟨cs :: css, by simp [h2], ?_, ?_, ?_⟩
      · intro ds hd
        rcases List.mem_cons.1 hd with rfl | hd
        · exact hl
        · exact h3 ds hd
      · intro i x ds hx hd
        cases i with
        | zero => simp at hx hd; subst hx hd; exact hr
        | succ i => exact h4 i x ds (by simpa using hx) (by simpa using hd)
      · intro j c hj
        rw [List.flatten_cons] at hj
        by_cases hjc : j < C
        · rw [List.getElem?_append_left (by omega)] at hj
          have := hc j c hj
          rwa [Nat.add_zero] at this
        · rw [List.getElem?_append_right (by omega), hl] at hj
          have := h5 (j - C) c hj
          rwa [show off + (k + 1) * C + (j - C) = off + k * C + j by rw [Nat.add_mul]; omega] at this
  obtain ⟨css, h2, h3, h4, h5⟩ := h1 l 0 (fun i x hx => by simpa using hx)
  exact ⟨css, h2, h3, h4, fun k c hk => by have := h5 k c hk; simpa using this⟩
/-- A row of the call's own as a list that can be read. -/
theorem RdS.of_own {α : Type} {C : Nat} {R : World → List Value → α → Prop} {w : World} {B : Nat} {e : TypeId} {g n cap : Nat} {l : List α} {css : List (List Value)} (h : w.ownsRow B e C (.slice (some ⟨g, 0, none⟩) n cap) n css.flatten) (hl : css.length = l.length) (hn : n = l.length) (hrc : Rch n)
    (hC : ∀ cs ∈ css, cs.length = C) (hR : ∀ (i : Nat) (x : α) (cs : List Value), l[i]? = some x → css[i]? = some cs → R w cs x) : RdS C R w (.slice (some ⟨g, 0, none⟩) n cap) l := by
  rcases h.2 with ⟨he, _⟩ | ⟨g', cap', cur, he, hB, hg, hle, hm, hsz, ht⟩
  · cases he
  · cases he
    subst hn
    refine RdS.of_cells hl hle hrc hC hR (fun k c hk => ?_) (Array.getElem?_eq_some_iff.1 hg).1
    rw [cell_of_row w g _ _ _ (0, 0) hg, Nat.zero_add]
    have hlt : k < l.length * C := by
      have h1 := (List.getElem?_eq_some_iff.1 hk).1
      have h2 : css.flatten.length = css.length * C := by
        clear hk h1 ht h hR hl
        induction css with
        | nil => simp
        | cons d ds ih => rw [List.flatten_cons, List.length_append, ih (fun cs hcs => hC cs (by simp [hcs])), hC d (by simp), List.length_cons, Nat.add_mul]; omega
      rw [h2, hl] at h1
      exact h1
    have h5 : (cur.toList.take (l.length * C))[k]? = some c := by rw [ht]; exact hk
    rw [List.getElem?_take_of_lt hlt, Array.getElem?_toList] at h5
    exact h5
theorem wpList_app {P : Program} {w : World} {ops : Array Oper} {rest : List Oper} {o : Oper} {a : Act} {Q : Exit → Act → World → Prop} (hgd : o.guard = none) (s x : Operand) (t : TypeId)
    (ho : o.op = .call { callee := .builtin .append, args := #[s, x], argTypes := #[t, t] })
    (B : Nat) (e : TypeId) (i : TypeInfo) (z : Value) (size bytes : Nat) (ht : P.underlying t = some (.slice e)) (hi : P.info? e = some i) (hz : i.zero = some z)
    (hsize : i.size = size) (hby : i.bytes = bytes) (hzs : z.cells.size = size) (hsz : 0 < size)
    (g n cap : Nat) (xs : List Value) (hs : a.eval s = .slice (some ⟨g, 0, none⟩) n cap) (hown : w.ownsRow B e size (.slice (some ⟨g, 0, none⟩) n cap) n xs)
    {α : Type} {R : World → List Value → α → Prop} {l : List α} {xo : Option Addr} {xn xc : Nat} (hx : a.eval x = .slice xo xn xc) (w0 : World) (hcw : Chg [] w0 w) (hr : RdS size R w0 (.slice xo xn xc) l) (hone : ∀ cs y, R w0 cs y → ∀ u ∈ cs, u.oneCell' = true)
    (h63 : n + l.length ≤ maxLen) (hbytes : (n + l.length) * bytes ≤ 140737488355328) (hbase : B ≤ w.heap.size)
    (h : ∀ (g' cap' : Nat) (w' : World) (css : List (List Value)), css.length = l.length → (∀ cs ∈ css, cs.length = size) → (∀ (i : Nat) (y : α) (cs : List Value), l[i]? = some y → css[i]? = some cs → R w0 cs y) → w'.ownsRow B e size (.slice (some ⟨g', 0, none⟩) (n + l.length) cap') (n + l.length) (xs ++ css.flatten) → w.grownBy w' (some g) → wpList P ops Q rest (a.put o.dst (.slice (some ⟨g', 0, none⟩) (n + l.length) cap')) w') :
    wpList P ops Q (o :: rest) a w := by
  obtain ⟨xo', xc', he, hlc, _⟩ := hr.form
  cases he
  cases l with
  | cons y l =>
    obtain ⟨b', off', _, he, hbl, _⟩ := hr.elem (i := 0) (x := y) rfl
    subst he
    obtain ⟨css, h2, h3, h4, h5⟩ := hr.css
    have hfl : css.flatten.length = (y :: l).length * size := by
      have h6 : ∀ ds : List (List Value), (∀ cs ∈ ds, cs.length = size) → ds.flatten.length = ds.length * size := by
        intro ds
        induction ds with
        | nil => simp
        | cons d ds ih => intro hd; rw [List.flatten_cons, List.length_append, ih (fun cs hcs => hd cs (by simp [hcs])), hd d (by simp), List.length_cons, Nat.add_mul]; omega
      rw [h6 css h3, h2]
    refine wpList_append_lies w hgd s x t ho B e i z size bytes ht hi hz hsize hby hzs hsz _ n xs hs hown ⟨b', off', none⟩ (y :: l).length xc css.flatten hx hfl (fun j u hj => by rw [addr_add]; exact (World.cell?_of_block (hcw.block b' hbl (by simp))).trans (h5 j u hj)) ?_ (by simp) h63 hbytes hbase _ rfl (fun g' cap' w' k1 k2 _ _ => h g' cap' w' css h2 h3 h4 k1 k2)
    intro u hu
    obtain ⟨cs, hcs, huc⟩ := List.mem_flatten.1 hu
    obtain ⟨k, hk⟩ := List.mem_iff_getElem?.1 hcs
    have hk2 : k < (y :: l).length := by rw [← h2]; exact (List.getElem?_eq_some_iff.1 hk).1
    exact hone cs _ (h4 k _ cs (List.getElem?_eq_getElem hk2) hk) u huc
  | nil =>
    have hsrc : Src P i.size t (.slice xo 0 xc) 0 [] w := by
      cases xo with
      | none => exact Src.ofNil w ht xc
      | some ad => exact Src.ofSlice w ht ad 0 xc [] (by simp) (fun j u hj => by simp at hj) (fun u hu => by simp at hu)
    rcases hown.2 with ⟨he, _⟩ | ⟨g', cap', cur, he, hB, hg, hle, hm, hsz2, ht2⟩
    · cases he
    · cases he
      have hrun := run_append_room_src (P := P) w t t o.type e i ht hi g 0 n cap (.slice xo 0 xc) 0 [] hsrc (by simpa using hle) (fun j hj => by simp at hj) (fun j hj => by simp at hj)
      refine wpList_plain hgd (fun K hK => ?_)
      have hfin := h g cap w [] rfl (by simp) (by simp) (by simpa using hown) ⟨rfl, rfl, rfl, Nat.le_refl _, fun _ _ _ => rfl⟩
      unfold Oper.wp execOp
      simp only [List.length_nil] at hx
      simp only [ho, resolve, invoke, builtin, Sem.run_bind, Sem.run_pure, Result.andThen_ok, List.map_toArray, List.map_cons, List.map_nil, hs, hx, hrun]
      refine hK _ _ ?_
      have hw : w.setCells g (0 + n * i.size) [] = w := by simp [World.setCells]
      rw [hw]
      simpa using hfin
theorem chg_grown9 {w w' : World} {g : Nat} (h : w.grownBy w' (some g)) : Chg [g] w w' := ⟨h.os, h.tape, h.output, h.size, fun k hk hn => h.block k hk (by
  intro e
  cases e
  exact hn (by simp))⟩
theorem RdS.empty {α : Type} {C : Nat} {R : World → List Value → α → Prop} {w w' : World} {v : Value} (h : RdS C R w v []) : RdS C R w' v [] := by
  obtain ⟨ao, cap, rfl, h1, _⟩ := h
  exact ⟨ao, cap, rfl, h1, fun i x hx => by simp at hx⟩
end Go.Proofs.YtgbooiaedbpenaaDoor
