/-
  Printer: rules that were read, as a list that can be read.
-/
import Derived.Test.YtgbooiaedbpenaaGreatDoorPrRp
import Derived.Test.YtgbooiaedbpenaaGreatDoorPrIw
import Derived.Test.YtgbooiaedbpenaaGreatDoorRlJ
namespace Go.Proofs.YtgbooiaedbpenaaGreatDoor
set_option linter.unusedVariables false
set_option linter.unusedSimpArgs false
open Go Go.RowKit
theorem RdS.all {α : Type} {C : Nat} {R : World → List Value → α → Prop} {w : World} {v : Value} {l : List α} (h : RdS C R w v l) {x : α} (hx : x ∈ l) : ∃ cs, R w cs x := by
  obtain ⟨ao, cap, _, _, h1⟩ := h
  obtain ⟨i, hi, e⟩ := List.getElem_of_mem hx
  obtain ⟨b, off, cs, _, _, _, hr, _⟩ := h1 i x (by rw [← e]; exact List.getElem?_eq_getElem hi)
  exact ⟨cs, hr⟩
theorem ListS.rd {α β : Type} {B : Nat} {E : TypeId} {size : Nat} {C : α → List Value → World → Prop} {l : List α} {v : Value} {w : World} (h : ListS B E size C l v w) {R : World → List Value → β → Prop} (f : α → β) (hn : Rch l.length)
    (hR : ∀ a ∈ l, ∀ cs, C a cs w → R w cs (f a)) : RdS size R w v (l.map f) := by
  obtain ⟨css, h1, h2, h3⟩ := h
  have hlen : ∀ cs ∈ css, cs.length = size := fun cs hc => by
    obtain ⟨i, hi, e⟩ := List.getElem_of_mem hc
    have hil : i < l.length := by omega
    exact (h2 i (l[i]'hil) cs (List.getElem?_eq_getElem hil) (by rw [← e]; exact List.getElem?_eq_getElem hi)).1
  rcases h3.2 with ⟨hv, h0⟩ | ⟨g, cap, cur, hv, _⟩
  · have hl : l = [] := List.eq_nil_of_length_eq_zero h0
    subst hl
    subst hv
    exact RdS.nil _ _ _ _ _
  · subst hv
    have e : l.length = (l.map f).length := (List.length_map ..).symm
    refine RdS.of_own' (css := css) h3 (by rw [← e]; exact h1) e hn hlen (fun i x cs hx hc => ?_)
    rw [List.getElem?_map] at hx
    obtain ⟨a, ha, rfl⟩ := Option.map_eq_some_iff.1 hx
    exact hR a (List.mem_of_getElem? ha) cs (h2 i a cs ha hc).2
namespace Pr
def cbT (t : Rl.Tst) : Tst := ⟨t.attr, t.op, t.name, t.n, t.at_⟩
def cbI (x : Rl.Itm) : Itm := ⟨x.kind, x.name, x.whn.map (·.map cbT), x.n, uvP x.r, uvP x.s, x.at_⟩
theorem zI_cb (x : Rl.Itm) : zI (cbI x) = uvI x := by
  have h : (fun y : List Tst => y.map zT) ∘ (fun y : List Rl.Tst => y.map cbT) = fun y => y.map uvT := by
    funext y
    show (y.map cbT).map zT = _
    rw [List.map_map]
    rfl
  simp only [zI, cbI, uvI, List.map_map]
  rw [h]
theorem rd_item {w w' : World} {i : Itm} {cs : List Value} (h : RItm w cs i) {x : Rl.Itm} (e : uvI x = zI i) {B : Nat} {cs' : List Value} (hc : Ci B x cs' w') : RItm w' cs' (cbI x) := by
  obtain ⟨wv, _, i1, i2, i3, i4, i5, i6, hw, hn⟩ := h
  obtain ⟨u, rfl, hu⟩ := hc
  simp only [uvI, zI, Itm.mk.injEq, and_true] at e
  obtain ⟨e1, e2, e3, e4, e5, e6⟩ := e
  rw [← e1] at i1
  rw [← e4] at i2
  rw [← e5] at i3 i4
  rw [← e6] at i5 i6
  rw [← e2] at hn
  obtain ⟨_, _, _, _, hwl⟩ := hw.form
  have hl : x.whn.length = i.whn.length := by have := congrArg List.length e3; simpa using this
  refine ⟨u, rfl, i1, i2, i3, i4, i5, i6, ListS.rd hu (·.map cbT) (by rw [hl]; exact hwl) (fun y hy cs2 h2 => ?_), hn⟩
  obtain ⟨u2, rfl, hl2⟩ := h2
  have hm : y.map uvT ∈ i.whn.map (·.map zT) := by rw [← e3]; exact List.mem_map.2 ⟨y, hy, rfl⟩
  obtain ⟨y', hy', ey⟩ := List.mem_map.1 hm
  obtain ⟨cs3, v3, _, h3⟩ := hw.all hy'
  obtain ⟨_, _, _, _, hyl⟩ := h3.form
  have hyy : y.length = y'.length := by have := congrArg List.length ey; simpa using this.symm
  refine ⟨u2, rfl, ListS.rd hl2 cbT (by rw [hyy]; exact hyl) (fun t ht cs4 h4 => ?_)⟩
  have hm2 : uvT t ∈ y'.map zT := by rw [ey]; exact List.mem_map.2 ⟨t, ht, rfl⟩
  obtain ⟨t', ht', et⟩ := List.mem_map.1 hm2
  obtain ⟨cs5, _, j1, j2, j3, j4⟩ := h3.all ht'
  simp only [uvT, zT, Tst.mk.injEq, and_true] at et
  obtain ⟨f1, f2, f3, f4⟩ := et
  rw [f2] at j1
  rw [f4] at j2
  rw [f1] at j3
  rw [f3] at j4
  exact ⟨h4, j1, j2, j3, j4⟩
theorem rules_err (l : List Itm) : (rules l).2 ≠ 0 → rules l = ([], 1) ∨ rules l = ([], 3) := by
  unfold rules fin
  intro h1
  split at h1
  · rename_i c; rw [if_pos c]; exact .inl rfl
  · rename_i c
    rw [if_neg c]
    split at h1
    · rename_i d; rw [if_pos d]; exact .inr rfl
    · exact absurd rfl h1
end Pr
/-- Rules that were read from the text of others. -/
theorem rd_rules {w w' : World} {l : List Pr.Itm} {v0 v : Value} (h : RdS 9 Pr.RItm w v0 l) {xs : List Rl.Itm} (e : xs.map Pr.uvI = l.map Pr.zI) {B : Nat} (hl : ListS B 71 9 (Ci B) xs v w') : RdS 9 Pr.RItm w' v (xs.map Pr.cbI) ∧ (xs.map Pr.cbI).map Pr.zI = l.map Pr.zI := by
  obtain ⟨_, _, _, _, hrl⟩ := h.form
  have hxl : xs.length = l.length := by have := congrArg List.length e; simpa using this
  refine ⟨ListS.rd hl Pr.cbI (by rw [hxl]; exact hrl) (fun x hx cs hc => ?_), ?_⟩
  · have hm : Pr.uvI x ∈ l.map Pr.zI := by rw [← e]; exact List.mem_map.2 ⟨x, hx, rfl⟩
    obtain ⟨i, hi, ei⟩ := List.mem_map.1 hm
    obtain ⟨cs0, h0⟩ := h.all hi
    exact Pr.rd_item h0 ei.symm hc
  · rw [← e, List.map_map]
    exact List.map_congr_left (fun x _ => Pr.zI_cb x)
end Go.Proofs.YtgbooiaedbpenaaGreatDoor
