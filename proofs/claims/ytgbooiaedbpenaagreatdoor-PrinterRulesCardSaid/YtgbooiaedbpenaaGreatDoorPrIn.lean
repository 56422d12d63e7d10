/-
 Printer: halls, levels and rules that came in.
-/
import Derived.Test.YtgbooiaedbpenaaGreatDoorPrN
namespace Go.Proofs.YtgbooiaedbpenaaGreatDoor
set_option linter.unusedVariables false
set_option linter.unusedSimpArgs false
open Go Go.RowKit Go.Shelf
theorem tk_step {α : Type} {l m : List α} {j : Nat} {x : α} (h : l.take j = m.take j) (h1 : l[j]? = some x) (h2 : m[j]? = some x) : l.take (j + 1) = m.take (j + 1) := by
 obtain ⟨a1, e1⟩ := List.getElem?_eq_some_iff.1 h1
 obtain ⟨a2, e2⟩ := List.getElem?_eq_some_iff.1 h2
 rw [List.take_succ_eq_append_getElem a1, List.take_succ_eq_append_getElem a2, h, e1, e2]
theorem tk_ne {α : Type} {l m : List α} {j : Nat} {x y : α} (h1 : l[j]? = some x) (h2 : m[j]? = some y) (hn : x ≠ y) : l ≠ m := by
 intro e
 rw [e, h2] at h1
 cases h1
 exact hn rfl
theorem tk_end {α : Type} {l m : List α} {j : Nat} (h : l.take j = m.take j) (h1 : l.length ≤ j) (h2 : m.length ≤ j) : l = m := by rwa [List.take_of_length_le h1, List.take_of_length_le h2] at h
theorem len_ne {α : Type} {l m : List α} (h : l.length ≠ m.length) : l ≠ m := fun e => h (by rw [e])
theorem map_at {α β : Type} {l : List α} {j : Nat} {x : α} (f : α → β) (h : l[j]? = some x) : (l.map f)[j]? = some (f x) := by rw [List.getElem?_map, h]; rfl
/-- Two lists that can be read, at the same place. -/
theorem RdS.at_ {α : Type} {C : Nat} {R : World → List Value → α → Prop} {w0 w : World} {ao : Option Addr} {n cap : Nat} {l : List α} (h : RdS C R w0 (.slice ao n cap) l) (hc : Chg [] w0 w) {j : Nat} (hj : j < l.length) :
 ∃ x b off cs, l[j]? = some x ∧ ao = some ⟨b, off, none⟩ ∧ cs.length = C ∧ R w0 cs x ∧ ∀ (k : Nat) (c : Value), cs[k]? = some c → w.cell? ⟨b, off + j * C + k, none⟩ = some c := by
 obtain ⟨b, off, cs, ha, hb, hl, hr, h1⟩ := h.elem (List.getElem?_eq_getElem hj)
 exact ⟨_, b, off, cs, List.getElem?_eq_getElem hj, ha, hl, hr, fun k c hk => (World.cell?_of_block (hc.block b hb (by simp))).trans (h1 k c hk)⟩
theorem RdS.cp {α : Type} {C : Nat} {R : World → List Value → α → Prop} {w : World} {ao : Option Addr} {n cap : Nat} {l : List α} (h : RdS C R w (.slice ao n cap) l) : n ≤ cap ∧ n ≤ 140737488351232 ∧ l.length = n := by
 obtain ⟨ao', cap', he, h1, h2⟩ := h.form
 cases he
 exact ⟨h1, h2, rfl⟩
/-- A level that can be read: its five lists. -/
structure LvR (w : World) (a : Pr.Lv) (p0 p1 p2 p3 p4 : Option Addr) (n0 n1 n2 n3 n4 k0 k1 k2 k3 k4 : Nat) : Prop where
 rb : RdS 3 Pr.RBl w (.slice p0 n0 k0) a.blocks
 ra : RdS 7 Pr.RAr w (.slice p1 n1 k1) a.areas
 ri : RdS 4 Pr.RBx w (.slice p2 n2 k2) a.aisles
 rp : RdS 4 Pr.RBx w (.slice p3 n3 k3) a.pillars
 rd : RdS 2 Pr.RPt w (.slice p4 n4 k4) a.doors
theorem fin_len (ok : Bool) (s : Bytes) : (Pr.fin ok s).1.length ≤ 20000 := by
 unfold Pr.fin
 split
 · simp
 · split
   · simp
   · rename_i h
     simp only
     omega
/-- A hall that came in. -/
structure InH (w : World) (h : Pr.Hl) (ao : Option Addr) (cap n : Nat) : Prop where
 hn : h.levels.length = n
 hm : RdS 8 Pr.RLv w (.slice ao n cap) h.levels
 hi : Pr.I64 h.sx ∧ Pr.I64 h.sy
 hr : Rch n
theorem InH.keep {w w' : World} {h : Pr.Hl} {ao : Option Addr} {cap n : Nat} (H : InH w h ao cap n) (hc : Chg [] w w') : InH w' h ao cap n := ⟨H.hn, H.hm.keep Pr.kq_lv hc, H.hi, H.hr⟩
/-- Rules that came in. -/
structure InR (w : World) (l : List Pr.Itm) (ao : Option Addr) (cap n : Nat) : Prop where
 hn : l.length = n
 hm : RdS 9 Pr.RItm w (.slice ao n cap) l
 hr : Rch n
theorem InR.keep {w w' : World} {l : List Pr.Itm} {ao : Option Addr} {cap n : Nat} (H : InR w l ao cap n) (hc : Chg [] w w') : InR w' l ao cap n := ⟨H.hn, H.hm.keep Pr.kq_itm hc, H.hr⟩
end Go.Proofs.YtgbooiaedbpenaaGreatDoor
