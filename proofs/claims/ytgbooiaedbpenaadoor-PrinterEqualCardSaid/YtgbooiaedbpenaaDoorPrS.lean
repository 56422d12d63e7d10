/-
  Printer, plain laws: two halls, and two lists of rules, that can be written have the same text exactly if they are the same but for their offsets.
-/
import Derived.Test.YtgbooiaedbpenaaDoorPrM
import Derived.Test.YtgbooiaedbpenaaDoorPrO
import Derived.Test.YtgbooiaedbpenaaDoorPrQ
namespace Go.Proofs.YtgbooiaedbpenaaDoor
set_option linter.unusedVariables false
set_option linter.unusedSimpArgs false
open Go Go.RowKit

namespace Pr
def zR (r : Rw) : Rw := { r with at_ := 0 }
def zB (b : Bl) : Bl := ⟨b.name, b.rows.map zR, 0⟩
def zA (a : Ar) : Ar := { a with at_ := 0 }
def zL (l : Lv) : Lv := { l with blocks := l.blocks.map zB, areas := l.areas.map zA, at_ := 0 }
def zH (h : Hl) : Hl := { h with levels := h.levels.map zL }
def zT (t : Tst) : Tst := { t with at_ := 0 }
def zI (x : Itm) : Itm := { x with whn := x.whn.map (·.map zT), at_ := 0 }
/-! ### The texts do not show the offsets -/
theorem blockL_z (b : Bl) : blockL (zB b) = blockL b := by
  unfold blockL zB
  simp only [List.map_map]
  rfl
theorem levelL_z (l : Lv) : levelL (zL l) = levelL l := by
  unfold levelL innerL zL
  simp only [List.map_map, List.flatMap_map]
  have h1 : (fun x => blockL (zB x)) = blockL := funext blockL_z
  rw [h1]
  rfl
theorem hallL_z (h : Hl) : hallL (zH h) = hallL h := by
  unfold hallL zH
  simp only [List.flatMap_map]
  rw [show (fun x => levelL (zL x)) = levelL from funext levelL_z]
theorem whensS_z : ∀ (w : Bytes) (l : List (List Tst)), whensS w (l.map (·.map zT)) = whensS w l
  | _, [] => rfl
  | w, x :: l => by
    show w ++ join tAnd ((x.map zT).map testS) ++ whensS tOr (l.map (·.map zT)) = w ++ join tAnd (x.map testS) ++ whensS tOr l
    rw [whensS_z tOr l, List.map_map]
    rfl
theorem itemL_z (x : Itm) : itemL (zI x) = itemL x := by
  unfold itemL zI
  simp only [whensS_z]
  rfl
/-! ### What is read gives back what was written -/
def uvM (m : Pn.Mk) : Mk := ⟨m.kind, m.seat, m.w⟩
def uvR (r : Pn.Rw) : Rw := ⟨r.name, r.x, r.y, r.f, r.t, r.step, r.marks.map uvM, 0⟩
def uvB (b : Pn.Bl) : Bl := ⟨b.name, b.rows.map uvR, 0⟩
def uvX (b : Pn.Bx) : Bx := ⟨b.x, b.y, b.x2, b.y2⟩
def uvA (a : Pn.Ar) : Ar := ⟨a.name, uvX a.box, a.holds, 0⟩
def uvP (p : Nat × Nat) : Int × Int := (p.1, p.2)
def uvL (l : Pn.Lv) : Lv := ⟨l.name, l.height, l.blocks.map uvB, l.areas.map uvA, l.aisles.map uvX, l.pillars.map uvX, l.doors.map uvP, 0⟩
def uvH (h : Pn.Hl) : Hl := ⟨h.name, h.sx, h.sy, h.levels.map uvL⟩
def uvT (t : Rl.Tst) : Tst := ⟨t.attr, t.op, t.name, t.n, 0⟩
def uvI (x : Rl.Itm) : Itm := ⟨x.kind, x.name, x.whn.map (·.map uvT), x.n, uvP x.r, uvP x.s, 0⟩
theorem nat_of {n : Int} (h : numOk n = true) : ((n.toNat : Nat) : Int) = n := Int.toNat_of_nonneg (numOk_iff.1 h).1
theorem map_same {α β : Type} {f : α → β} {g : β → α} {z : α → α} {l : List α} (h : ∀ x ∈ l, g (f x) = z x) : (l.map f).map g = l.map z := by
  rw [List.map_map]
  exact List.map_congr_left h
theorem map_id' {α β : Type} {f : α → β} {g : β → α} {l : List α} (h : ∀ x ∈ l, g (f x) = x) : (l.map f).map g = l := by
  rw [List.map_map]
  exact (List.map_congr_left h).trans (List.map_id l)
theorem uv_mark {m : Mk} (h : markOk m = true) : uvM (cvM m) = m := by
  unfold markOk at h
  obtain ⟨h1, h⟩ := and2 h
  obtain ⟨_, h⟩ := and2 h
  obtain ⟨_, h⟩ := and2 h
  obtain ⟨h3, h4⟩ := and2 h
  have h1 := of_decide_eq_true h1
  have e : ((m.kind.toNat : Nat) : Int) = m.kind := Int.toNat_of_nonneg (by omega)
  show (⟨_, _, _⟩ : Mk) = m
  simp only [cvM, e, nat_of h3, nat_of h4]
theorem uv_row {r : Rw} (h : rowOk r = true) : uvR (cvR r) = zR r := by
  unfold rowOk at h
  obtain ⟨_, h⟩ := and2 h
  obtain ⟨hs, hm⟩ := and2 h
  simp only [numsOk, List.all_cons, List.all_nil, Bool.and_true, Bool.and_eq_true] at hs
  obtain ⟨h1, h2, h3, h4, h5⟩ := hs
  simp only [uvR, cvR, zR, nat_of h1, nat_of h2, nat_of h3, nat_of h4, nat_of h5, map_id' (fun m hx => uv_mark (List.all_eq_true.1 hm m hx))]
theorem uv_block {b : Bl} (h : blockOk b = true) : uvB (cvB b) = zB b := by
  unfold blockOk at h
  obtain ⟨_, h⟩ := and2 h
  simp only [uvB, cvB, zB, map_same (fun r hx => uv_row (List.all_eq_true.1 h r hx))]
theorem uv_box {b : Bx} (h : boxOk b = true) : uvX (cvX b) = b := by
  simp only [boxOk, boxN, numsOk, List.all_cons, List.all_nil, Bool.and_true, Bool.and_eq_true] at h
  obtain ⟨h1, h2, h3, h4⟩ := h
  simp only [uvX, cvX, nat_of h1, nat_of h2, nat_of h3, nat_of h4]
theorem uv_area {a : Ar} (h : areaOk a = true) : uvA (cvA a) = zA a := by
  unfold areaOk at h
  obtain ⟨_, h⟩ := and2 h
  obtain ⟨h1, h2⟩ := and2 h
  simp only [uvA, cvA, zA, uv_box h1, nat_of h2]
theorem uv_door {p : Int × Int} (h : doorOk p = true) : uvP (cvP p) = p := by
  simp only [doorOk, numsOk, List.all_cons, List.all_nil, Bool.and_true, Bool.and_eq_true] at h
  simp only [uvP, cvP, nat_of h.1, nat_of h.2]
theorem uv_level {l : Lv} (h : levelOk l = true) : uvL (cvL l) = zL l := by
  unfold levelOk at h
  obtain ⟨h0, h⟩ := and2 h
  obtain ⟨_, hh⟩ := and2 h0
  obtain ⟨h1, h⟩ := and2 h
  obtain ⟨h2, h⟩ := and2 h
  obtain ⟨h3, h⟩ := and2 h
  obtain ⟨h4, h5⟩ := and2 h
  simp only [uvL, cvL, zL, nat_of hh, map_same (fun x hx => uv_block (List.all_eq_true.1 h1 x hx)), map_same (fun x hx => uv_area (List.all_eq_true.1 h2 x hx)), map_id' (fun x hx => uv_box (List.all_eq_true.1 h3 x hx)),
    map_id' (fun x hx => uv_box (List.all_eq_true.1 h4 x hx)), map_id' (fun x hx => uv_door (List.all_eq_true.1 h5 x hx))]
theorem uv_hall {h : Hl} (ho : hallOk h = true) : uvH (cvH h) = zH h := by
  unfold hallOk at ho
  obtain ⟨h0, h1⟩ := and2 ho
  obtain ⟨_, hs⟩ := and2 h0
  simp only [numsOk, List.all_cons, List.all_nil, Bool.and_true, Bool.and_eq_true] at hs
  simp only [uvH, cvH, zH, nat_of hs.1, nat_of hs.2, map_same (fun x hx => uv_level (List.all_eq_true.1 h1 x hx))]
theorem uv_test {t : Tst} (h : testOk t = true) : uvT (cvT t) = zT t := by
  unfold testOk at h
  obtain ⟨h0, h⟩ := and2 h
  obtain ⟨h1, _⟩ := and2 h0
  obtain ⟨_, hv⟩ := and2 h
  have h1 := of_decide_eq_true h1
  have e : ((t.op.toNat : Nat) : Int) = t.op := Int.toNat_of_nonneg (by omega)
  have e2 : ((t.n.toNat : Nat) : Int) = t.n := by
    by_cases hn : t.name = []
    · rw [if_pos hn] at hv
      exact nat_of hv
    · rw [if_neg hn] at hv
      rw [of_decide_eq_true (and2 hv).1]
      rfl
  simp only [uvT, cvT, zT, e, e2]
theorem uv_pair {p : Int × Int} (h : ratioOk p = true) : uvP (cvQ p) = p := by
  simp only [ratioOk, numsOk, List.all_cons, List.all_nil, Bool.and_true, Bool.and_eq_true] at h
  simp only [uvP, cvQ, nat_of h.1, nat_of h.2]
theorem uv_part {p : Int × Int} (h : partOk p = true) : uvP (cvQ p) = p := by
  unfold partOk at h
  by_cases hp : p = (0, 1)
  · rw [hp]; rfl
  · rw [decide_eq_false hp, Bool.false_or] at h
    exact uv_pair h
theorem uv_item {x : Itm} (h : itemOk x = true) : uvI (cvI x) = zI x := by
  unfold itemOk at h
  obtain ⟨h0, h⟩ := and2 h
  obtain ⟨h1, h0⟩ := and2 h0
  obtain ⟨hw, hl⟩ := and2 h
  have h1 := of_decide_eq_true h1
  have e : ((x.kind.toNat : Nat) : Int) = x.kind := Int.toNat_of_nonneg (by omega)
  have ew : ((x.whn.map (·.map cvT)).map (·.map uvT)) = x.whn.map (·.map zT) := map_same (fun l hx => by
    have := List.all_eq_true.1 hl l hx
    unfold listOk at this
    exact map_same (fun t ht => uv_test (List.all_eq_true.1 (and2 (and2 this).2).2 t ht)))
  have en : ((x.n.toNat : Nat) : Int) = x.n ∧ uvP (cvQ x.r) = x.r ∧ uvP (cvQ x.s) = x.s := by
    have z : ∀ p : Int × Int, p = (0, 0) → uvP (cvQ p) = p := fun p hp => by rw [hp]; rfl
    have zn : x.n = 0 → ((x.n.toNat : Nat) : Int) = x.n := fun h => by rw [h]; rfl
    unfold wordsOk at hw
    obtain ⟨_, hw⟩ := and2 hw
    split at hw
    · obtain ⟨g1, g2⟩ := and2 hw
      have g2 := of_decide_eq_true g2
      exact ⟨nat_of g1, z _ g2.1, z _ g2.2⟩
    split at hw
    · obtain ⟨g1, g2⟩ := and2 hw
      obtain ⟨g2, g3⟩ := and2 g2
      exact ⟨nat_of g1, uv_part g2, uv_part g3⟩
    split at hw
    · obtain ⟨g1, g2⟩ := and2 hw
      obtain ⟨g2, g3⟩ := and2 g2
      exact ⟨zn (of_decide_eq_true g1), uv_pair g2, uv_pair g3⟩
    split at hw
    · obtain ⟨g1, g2⟩ := and2 hw
      obtain ⟨g2, g3⟩ := and2 g2
      exact ⟨zn (of_decide_eq_true g1), uv_pair g2, z _ (of_decide_eq_true g3)⟩
    · obtain ⟨g1, g2⟩ := and2 hw
      have g2 := of_decide_eq_true g2
      exact ⟨zn (of_decide_eq_true g1), z _ g2.1, z _ g2.2⟩
  simp only [uvI, cvI, zI, e, ew, en]
/-! ### The laws -/
theorem fin_ok {ok : Bool} {l : List (Nat × Bytes)} {s : Bytes} (h : fin ok (puts [] l) = (s, 0)) : ok = true ∧ s = full l := by
  rw [fin_full] at h
  split at h
  · cases h
  · split at h
    · cases h
    · rename_i h1 _
      cases h
      exact ⟨by simpa using h1, rfl⟩
theorem hall_equal {a b : Hl} {s t : Bytes} (ha : hall a = (s, 0)) (hb : hall b = (t, 0)) : s = t ↔ zH a = zH b := by
  obtain ⟨oa, rfl⟩ := fin_ok ha
  obtain ⟨ob, rfl⟩ := fin_ok hb
  constructor
  · intro e
    have h1 := toks_of (hall_lws oa) (hall_lws ob) e
    have h2 := hall_read oa
    rw [h1, hall_read ob] at h2
    injection h2 with h3
    rw [← uv_hall oa, ← uv_hall ob, h3]
  · intro e
    rw [← hallL_z a, ← hallL_z b, e]
theorem rulesL_z (l : List Itm) : (l.map zI).map itemL = l.map itemL := by
  rw [List.map_map]
  exact List.map_congr_left (fun x _ => itemL_z x)
theorem rules_equal {a b : List Itm} {s t : Bytes} (ha : rules a = (s, 0)) (hb : rules b = (t, 0)) : s = t ↔ a.map zI = b.map zI := by
  obtain ⟨oa, rfl⟩ := fin_ok ha
  obtain ⟨ob, rfl⟩ := fin_ok hb
  have ia := List.all_eq_true.1 (and2 oa).2
  have ib := List.all_eq_true.1 (and2 ob).2
  constructor
  · intro e
    have h1 := toks_of (rules_lws ia) (rules_lws ib) e
    have h2 := rules_read oa
    rw [h1, rules_read ob] at h2
    injection h2 with h3
    rw [← map_same (fun x hx => uv_item (ia x hx)), ← map_same (fun x hx => uv_item (ib x hx)), h3]
  · intro e
    rw [← rulesL_z a, ← rulesL_z b, e]
/-! ### What is refused -/
theorem fin_bad (s : Bytes) : fin false s = ([], 1) := rfl
theorem hall_err (h : Hl) : (hall h).2 ≠ 0 → hall h = ([], 1) ∨ hall h = ([], 3) := by
  unfold hall fin
  intro h1
  split at h1
  · rename_i c; rw [if_pos c]; exact .inl rfl
  · rename_i c
    rw [if_neg c]
    split at h1
    · rename_i d; rw [if_pos d]; exact .inr rfl
    · exact absurd rfl h1
theorem refuse_stage {h : Hl} {n : Int} (hn : numOk n = false) : hall { h with sy := n } = ([], 1) := by
  have e : hallOk { h with sy := n } = false := by simp [hallOk, numsOk, hn]
  unfold hall
  rw [e]
  rfl
theorem name_dash (s : Bytes) : nameOk (s ++ [45]) = false := by
  have h : (s ++ [45]).all Lx.word = false := by
    rw [List.all_append]
    have : ([45] : Bytes).all Lx.word = false := by decide
    rw [this, Bool.and_false]
  unfold nameOk
  rw [h]
  simp
theorem refuse_name {h : Hl} : hall { h with name := h.name ++ [45] } = ([], 1) := by
  have e : hallOk { h with name := h.name ++ [45] } = false := by simp [hallOk, name_dash]
  unfold hall
  rw [e]
  rfl
theorem refuse_level {h : Hl} {l : Lv} (hl : levelOk l = false) : hall { h with levels := h.levels ++ [l] } = ([], 1) := by
  have e : hallOk { h with levels := h.levels ++ [l] } = false := by simp [hallOk, hl]
  unfold hall
  rw [e]
  rfl
theorem refuse_item {x : Itm} {l : List Itm} (hl : itemOk x = false) : rules (x :: l) = ([], 1) := by
  have e : rulesOk (x :: l) = false := by simp [rulesOk, hl]
  unfold rules
  rw [e]
  rfl
end Pr
end Go.Proofs.YtgbooiaedbpenaaDoor
