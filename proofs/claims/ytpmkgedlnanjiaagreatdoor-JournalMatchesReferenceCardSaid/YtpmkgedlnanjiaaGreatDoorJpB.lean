/-
  Journal: two lists of texts are compared; lists that come in; whether they are light; texts of zeros.
-/
import Derived.Test.YtpmkgedlnanjiaaGreatDoorJpA
import Derived.Deep.QuietTactic
namespace Go.Proofs.YtpmkgedlnanjiaaGreatDoor
set_option linter.unusedVariables false
set_option linter.unusedSimpArgs false
set_option maxRecDepth 100000
open Go Go.RowKit
attribute [local irreducible] Go.wpStill
theorem same_spec (w : World) (v u : Value) (a b : List Bytes) (HV : Hid (Strs w v a)) (HU : Hid (Strs w u b)) (HA : Hid (a.length ≤ 9223372036854775807)) (HB : Hid (b.length ≤ 9223372036854775807)) :
    Calls Tryz.prog 15 #[v, u] w fun e w' => e = .returned (.bool (decide (a = b))) ∧ Chg [] w w' := by
  obtain ⟨ao, cap, rfl, hcap, hv⟩ := HV.out
  obtain ⟨bo, cup, rfl, hcup, hu⟩ := HU.out
  have HE := Lib.hid hv
  have HG := Lib.hid hu
  obtain ⟨m, hm⟩ : ∃ m, m = a.length := ⟨_, rfl⟩
  obtain ⟨q, hq⟩ : ∃ q, q = b.length := ⟨_, rfl⟩
  have hm9 : m ≤ 9223372036854775807 := by rw [hm]; exact HA.out
  have hq9 : q ≤ 9223372036854775807 := by rw [hq]; exact HB.out
  rw [← hm] at hcap ⊢
  rw [← hq] at hcup ⊢
  have HM := Lib.hid hm
  have HQ := Lib.hid hq
  clear hv hm hu hq
  by_cases hmq : m = q
  · obtain rfl : m = q := hmq
    go_enter Tryz.func15, Tryz.ntmps15
    go_wp2_with fail
    go_loopw [5] (fun i wr => ∃ k : Nat, k ≤ m ∧ i = .int .i64 k ∧ a.take k = b.take k ∧ Chg [] w wr) (fun i _ => m - (intOf i).toNat)
    case atStart => exact ⟨0, Nat.zero_le _, rfl, by simp, Chg.refl _ _⟩
    case round =>
      obtain ⟨k, hk, rfl, hall, hc⟩ := hrel
      have HT := Lib.hid hall
      have HC := Lib.hid hc
      clear hall hc
      by_cases hlt : k < m
      · obtain ⟨x, hx⟩ : ∃ x, a[k]? = some x := ⟨a[k]'(by rw [← HM.out]; exact hlt), by simp⟩
        obtain ⟨y, hy⟩ : ∃ y, b[k]? = some y := ⟨b[k]'(by rw [← HQ.out]; exact hlt), by simp⟩
        obtain ⟨g, off, rfl, c0⟩ := HE.out k x hx
        obtain ⟨g2, off2, rfl, c1⟩ := HG.out k y hy
        have d0 := (World.cell?_of_block (HC.out.block g (World.block_lt_of_cell? _ _ c0) (by simp))).trans c0
        have d1 := (World.cell?_of_block (HC.out.block g2 (World.block_lt_of_cell? _ _ c1) (by simp))).trans c1
        have HX := Lib.hid hx
        have HY := Lib.hid hy
        clear hx hy c0 c1
        have hki : (0 : Int) ≤ (k : Int) := by omega
        have hki2 : (k : Int) < (m : Int) := by omega
        have e0 : ((k : Int)).toNat = k := by omega
        by_cases hxy : x = y
        · have hne : (!x == y) = false := by simpa using hxy
          have HXY := Lib.hid hxy
          clear hxy
          go_wp2_with fail
          go_quiet (fail)
          clear e0
          go_wp2_with fail
          refine ⟨⟨k + 1, by omega, by go_num, ?_, ⟨HC.out.os, HC.out.tape, HC.out.output, HC.out.size, HC.out.block⟩⟩, by simp [intOf]; omega⟩
          rw [List.take_add_one, List.take_add_one, HX.out, HY.out, HT.out, HXY.out]
        · have hne : (!x == y) = true := by simpa using hxy
          have HF : Hid (decide (a = b) = false) := Lib.hid (by
            rw [decide_eq_false_iff_not]
            rintro rfl
            have := HX.out.symm.trans HY.out
            exact hxy (by simpa using this))
          clear hxy
          go_wp2_with fail
          go_quiet (fail)
          clear e0
          go_wp2_with fail
          go_ret
          exact ⟨by rw [HF.out]; rfl, ⟨HC.out.os, HC.out.tape, HC.out.output, HC.out.size, HC.out.block⟩⟩
      · have hkm : k = m := by omega
        have HF : Hid (decide (a = b) = true) := Lib.hid (by
          rw [decide_eq_true_iff]
          have := HT.out
          rwa [List.take_of_length_le (by rw [← HM.out, hkm]; exact Nat.le_refl _), List.take_of_length_le (by rw [← HQ.out, hkm]; exact Nat.le_refl _)] at this)
        clear hkm
        go_wp2_with fail
        go_ret
        exact ⟨by rw [HF.out]; rfl, HC.out⟩
  · have HF : Hid (decide (a = b) = false) := Lib.hid (by
      rw [decide_eq_false_iff_not]
      rintro rfl
      exact hmq (HM.out.trans HQ.out.symm))
    go_enter Tryz.func15, Tryz.ntmps15
    go_wp2_with fail
    go_ret
    exact ⟨by rw [HF.out]; rfl, Chg.refl _ _⟩
theorem same_z {w : World} {A1 A2 : List Nat} (v u : Value) (a b : List Bytes) (HV : Hid (Lst A1 w v a)) (HU : Hid (Lst A2 w u b)) (ha : a.length ≤ 1000000) (hb : b.length ≤ 1000000) {R : Ending → World → Prop} (h : ∀ w', Chg [] w w' → R (.returned (.bool (decide (a = b)))) w') :
    Calls Tryz.prog 15 #[v, u] w R :=
  (same_spec w v u a b (Lib.hid HV.out.1) (Lib.hid HU.out.1) (Lib.hid (by omega)) (Lib.hid (by omega))).mono (fun e w' h9 => by rw [h9.1]; exact h w' h9.2)
/-- What a machine's memory holds at most. -/
def Rch (n : Nat) : Prop := n ≤ 140737488351232
/-- A list that can be read: its elements lie in cells of the memory, C for each. -/
def RdS {α : Type} (C : Nat) (R : World → List Value → α → Prop) (w : World) (v : Value) (l : List α) : Prop :=
 ∃ ao cap, v = .slice ao l.length cap ∧ (l.length ≤ cap ∧ Rch l.length) ∧ ∀ (i : Nat) (x : α), l[i]? = some x → ∃ b off cs, ao = some ⟨b, off, none⟩ ∧ b < w.heap.size ∧ cs.length = C ∧ R w cs x ∧ ∀ (j : Nat) (c : Value), cs[j]? = some c → w.cell? ⟨b, off + i * C + j, none⟩ = some c
/-- What can be read still can when only memory was made. -/
def Kq {α : Type} (R : World → List Value → α → Prop) : Prop := ∀ (w w' : World) (cs : List Value) (x : α), Chg [] w w' → R w cs x → R w' cs x
theorem RdS.keep {α : Type} {C : Nat} {R : World → List Value → α → Prop} (hR : Kq R) {w w' : World} {v : Value} {l : List α} (h : RdS C R w v l) (hc : Chg [] w w') : RdS C R w' v l := by
 obtain ⟨ao, cap, hv, hn, h1⟩ := h
 refine ⟨ao, cap, hv, hn, fun i x hx => ?_⟩
 obtain ⟨b, off, cs, ha, hb, hl, hr, h2⟩ := h1 i x hx
 exact ⟨b, off, cs, ha, Nat.lt_of_lt_of_le hb hc.size, hl, hR _ _ _ _ hc hr, fun j c hj => (World.cell?_of_block (hc.block b hb (by simp))).trans (h2 j c hj)⟩
theorem RdS.form {α : Type} {C : Nat} {R : World → List Value → α → Prop} {w : World} {v : Value} {l : List α} (h : RdS C R w v l) : ∃ ao cap, v = .slice ao l.length cap ∧ l.length ≤ cap ∧ Rch l.length := by
 obtain ⟨ao, cap, hv, hn, _⟩ := h
 exact ⟨ao, cap, hv, hn⟩
theorem RdS.elem {α : Type} {C : Nat} {R : World → List Value → α → Prop} {w : World} {ao : Option Addr} {n cap : Nat} {l : List α} (h : RdS C R w (.slice ao n cap) l) {i : Nat} {x : α} (hx : l[i]? = some x) :
 ∃ b off cs, ao = some ⟨b, off, none⟩ ∧ b < w.heap.size ∧ cs.length = C ∧ R w cs x ∧ ∀ (j : Nat) (c : Value), cs[j]? = some c → w.cell? ⟨b, off + i * C + j, none⟩ = some c := by
 obtain ⟨ao', cap', he, _, h1⟩ := h
 cases he
 exact h1 i x hx
theorem RdS.nil {α : Type} (C : Nat) (R : World → List Value → α → Prop) (w : World) (ao : Option Addr) (cap : Nat) : RdS C R w (.slice ao 0 cap) [] := ⟨ao, cap, rfl, ⟨Nat.zero_le _, by simp [Rch]⟩, fun i x hx => by simp at hx⟩
/-- A part of a list that can be read. -/
theorem RdS.take {α : Type} {C : Nat} {R : World → List Value → α → Prop} {w : World} {ao : Option Addr} {n cap : Nat} {l : List α} (h : RdS C R w (.slice ao n cap) l) (k cap' : Nat) (hk : k ≤ l.length) (hc : k ≤ cap') : RdS C R w (.slice ao k cap') (l.take k) := by
 obtain ⟨_, _, _, hn⟩ := h.form
 unfold Rch at hn
 have e : (l.take k).length = k := by rw [List.length_take, Nat.min_eq_left hk]
 refine ⟨ao, cap', by rw [e], ⟨by rw [e]; exact hc, by unfold Rch; omega⟩, fun i x hx => ?_⟩
 rw [List.getElem?_take] at hx
 split at hx
 · exact h.elem hx
 · cases hx
/-- Cells that were written in a row can be read as a list. -/
theorem RdS.of_cells {α : Type} {C : Nat} {R : World → List Value → α → Prop} {w : World} {l : List α} {css : List (List Value)} {b off cap : Nat} (hl : css.length = l.length) (hcap : l.length ≤ cap) (hrc : Rch l.length)
 (hC : ∀ cs ∈ css, cs.length = C) (hR : ∀ (i : Nat) (x : α) (cs : List Value), l[i]? = some x → css[i]? = some cs → R w cs x)
 (hc : ∀ (k : Nat) (c : Value), css.flatten[k]? = some c → w.cell? ⟨b, off + k, none⟩ = some c) (hb : b < w.heap.size) : RdS C R w (.slice (some ⟨b, off, none⟩) l.length cap) l := by
 refine ⟨_, cap, rfl, ⟨hcap, hrc⟩, fun i x hx => ?_⟩
 have hi : i < l.length := (List.getElem?_eq_some_iff.1 hx).1
 have hcs : css[i]? = some (css[i]'(by omega)) := List.getElem?_eq_getElem (by omega)
 have hm : css[i]'(by omega) ∈ css := List.getElem_mem _
 refine ⟨b, off, _, rfl, hb, hC _ hm, hR i x _ hx hcs, fun j c hj => ?_⟩
 rw [Nat.add_assoc]
 refine hc _ c ?_
 have h1 : ∀ (css : List (List Value)) (i : Nat) (cs : List Value), (∀ cs ∈ css, cs.length = C) → css[i]? = some cs → ∀ j c, cs[j]? = some c → css.flatten[i * C + j]? = some c := by
  intro css
  induction css with
  | nil => intro i cs _ h; simp at h
  | cons y ys ih =>
   intro i cs hC h j c hj
   have hy : y.length = C := hC y (by simp)
   cases i with
   | zero =>
    simp at h
    subst h
    rw [List.flatten_cons, Nat.zero_mul, Nat.zero_add, List.getElem?_append_left (List.getElem?_eq_some_iff.1 hj).1, hj]
   | succ i =>
    simp at h
    rw [List.flatten_cons, List.getElem?_append_right (by rw [hy, Nat.succ_mul]; omega), hy, show (i + 1) * C + j - C = i * C + j by rw [Nat.succ_mul]; omega]
    exact ih i cs (fun z hz => hC z (by simp [hz])) h j c hj
 exact h1 css i _ hC hcs j c hj

/-- A text in a list. -/
def RStr (w : World) (cs : List Value) (s : Bytes) : Prop := cs = [.string ⟨s.toArray⟩] ∧ Rch s.length
theorem RdS.strs {w : World} {v : Value} {l : List Bytes} (h : RdS 1 RStr w v l) : Strs w v l := by
  obtain ⟨ao, cap, rfl, ⟨h1, _⟩, h2⟩ := h
  refine ⟨ao, cap, rfl, h1, fun i x hx => ?_⟩
  obtain ⟨b, off, cs, rfl, _, _, ⟨rfl, _⟩, h3⟩ := h2 i x hx
  exact ⟨b, off, rfl, by have h4 := h3 0 _ rfl; simpa using h4⟩
theorem kq_str : Kq RStr := fun _ _ _ _ _ h => h
/-- An operation of a statement. -/
structure OpV where
  kind : Int
  list : List Bytes
  at_ : Int
  w : Int
  b : Int
def I64 (n : Int) : Prop := -9223372036854775808 ≤ n ∧ n ≤ 9223372036854775807
def ROp (w : World) (cs : List Value) (o : OpV) : Prop := ∃ lv, cs = [.int .i64 o.kind, lv, .int .i64 o.at_, .int .i64 o.w, .int .i64 o.b] ∧ RdS 1 RStr w lv o.list ∧ I64 o.kind ∧ I64 o.at_ ∧ I64 o.w ∧ I64 o.b
theorem kq_op : Kq ROp := fun w w' cs x hc h => by
  obtain ⟨lv, h1, h2, h3⟩ := h
  exact ⟨lv, h1, h2.keep kq_str hc, h3⟩
/-- Whether the operations are small enough. -/
def Light (s : Int) (L : List OpV) : Prop := s ≤ 40 ∧ L.length ≤ 16 ∧ ∀ o ∈ L, o.list.length ≤ 20 ∧ ∀ x ∈ o.list, x.length ≤ 6000
/-- Elements by their cells. -/
theorem RdS.str_at {w : World} {ao : Option Addr} {n cap : Nat} {l : List Bytes} (h : RdS 1 RStr w (.slice ao n cap) l) {i : Nat} {x : Bytes} (hx : l[i]? = some x) : ∃ g off, ao = some ⟨g, off, none⟩ ∧ w.cell? ⟨g, off + i, none⟩ = some (.string ⟨x.toArray⟩) ∧ Rch x.length := by
  obtain ⟨b, off, cs, rfl, _, _, ⟨rfl, h1⟩, h3⟩ := h.elem hx
  exact ⟨b, off, rfl, by have h4 := h3 0 _ rfl; simpa using h4, h1⟩
set_option maxHeartbeats 2000000 in
theorem light_r {w : World} (s : Int) (hs : I64 s) (v : Value) (L : List OpV) (H : Hid (RdS 5 ROp w v L)) {R : Ending → World → Prop} (h : ∀ q, (q = true → Light s L) → R (.returned (.bool q)) w) :
    Calls Tryz.prog 6 #[.int .i64 s, v] w R := by
  have HRR := Lib.hid h
  clear h
  obtain ⟨ao, cap, rfl, hle, hrc⟩ := H.out.form
  unfold Rch at hrc
  obtain ⟨n, hn⟩ : ∃ n, n = L.length := ⟨_, rfl⟩
  rw [← hn] at H hle hrc ⊢
  have HN := Lib.hid hn
  have HF : Hid (R (.returned (.bool false)) w) := Lib.hid (HRR.out false (fun h => by cases h))
  obtain ⟨s1, s2⟩ := hs
  clear hn
  go_enter Tryz.func6, Tryz.ntmps6
  by_cases h40 : 40 < s
  · go_wp2_with fail
    exact HF.out
  by_cases h16 : 16 < n
  · have z1 : (16 : Int) < (n : Int) := by omega
    go_wp2_with fail
    exact HF.out
  have z1 : ¬ (16 : Int) < (n : Int) := by omega
  have H40 := Lib.hid h40
  go_wp2_with fail
  go_loopw [5, 6] (fun tv iv wr => ∃ k t : Nat, k ≤ n ∧ t ≤ 6000 ∧ tv = .int .i64 (t : Int) ∧ iv = .int .i64 (k : Int) ∧ wr = w ∧ Hid (∀ o ∈ L.take k, o.list.length ≤ 20 ∧ ∀ x ∈ o.list, x.length ≤ 6000)) (fun _ iv _ => n - (intOf iv).toNat)
  case atStart => exact ⟨0, 0, Nat.zero_le _, Nat.zero_le _, rfl, rfl, rfl, Lib.hid (fun o ho => by simp at ho)⟩
  case round =>
    obtain ⟨k, t, hk, ht, rfl, rfl, rfl, HA⟩ := hrel
    by_cases hlt : k < n
    · obtain ⟨o, ho⟩ : ∃ o, L[k]? = some o := ⟨L[k]'(by rw [← HN.out]; exact hlt), by simp⟩
      obtain ⟨g, off, cs, hag, hgl, -, ⟨lv, rfl, hlv, -⟩, hcc⟩ := H.out.elem ho
      subst hag
      have c1 := hcc 1 _ rfl
      obtain ⟨ao2, cap2, rfl, hle2, hrc2⟩ := hlv.form
      unfold Rch at hrc2
      obtain ⟨m, hm⟩ : ∃ m, m = o.list.length := ⟨_, rfl⟩
      rw [← hm] at hle2 hrc2 hlv c1
      have HM := Lib.hid hm
      have HLV := Lib.hid hlv
      have HO := Lib.hid ho
      clear hm hlv ho hcc
      have z0 : (0 : Int) ≤ (k : Int) := by omega
      have z2 : (k : Int) < (n : Int) := by omega
      by_cases h20 : 20 < m
      · have z3 : (20 : Int) < (m : Int) := by omega
        go_wp2_with fail
        exact HF.out
      have z3 : ¬ (20 : Int) < (m : Int) := by omega
      go_wp2_with fail
      rename World => wo
      go_loopw [5, 7] (fun tv iv wr => ∃ q t : Nat, q ≤ m ∧ t ≤ 6000 ∧ tv = .int .i64 (t : Int) ∧ iv = .int .i64 (q : Int) ∧ wr = wo ∧ Hid (∀ x ∈ o.list.take q, x.length ≤ 6000)) (fun _ iv _ => m - (intOf iv).toNat)
      case atStart => exact ⟨0, t, Nat.zero_le _, ht, rfl, rfl, rfl, Lib.hid (fun o ho => by simp at ho)⟩
      case round =>
        obtain ⟨q, t2, hq, ht2, rfl, rfl, rfl, HB⟩ := hrel
        by_cases hql : q < m
        · obtain ⟨x, hx⟩ : ∃ x, o.list[q]? = some x := ⟨o.list[q]'(by rw [← HM.out]; exact hql), by simp⟩
          obtain ⟨g2, off2, hag2, d1, hrx⟩ := HLV.out.str_at hx
          subst hag2
          unfold Rch at hrx
          obtain ⟨sb, hsb⟩ : ∃ z : ByteArray, z = ⟨x.toArray⟩ := ⟨_, rfl⟩
          obtain ⟨nx, hnx⟩ : ∃ n, n = x.length := ⟨_, rfl⟩
          have hsz : sb.size = nx := by rw [hsb, hnx]; rfl
          rw [← hsb] at d1
          rw [← hnx] at hrx
          have HX := Lib.hid hx
          have HNX := Lib.hid hnx
          clear hsb hx hnx
          have y0 : (0 : Int) ≤ (q : Int) := by omega
          have y1 : (q : Int) < (m : Int) := by omega
          obtain ⟨t3, ht3⟩ : ∃ t3, t3 = t2 + nx := ⟨_, rfl⟩
          have y2 : IntKind.i64.wrap ((t2 : Int) + (nx : Int)) = (t3 : Int) := by rw [IntWalk.i64_in _ (by omega)]; omega
          by_cases h60 : 6000 < t3
          · have y3 : (6000 : Int) < (t3 : Int) := by omega
            go_wp2_with fail
            exact HF.out
          · have y3 : ¬ (6000 : Int) < (t3 : Int) := by omega
            go_wp2_with fail
            go_roundw
            case rel => exact ⟨q + 1, t3, by omega, by omega, (by congr 1; omega), by go_num, trivial, Lib.hid (fun y hy => by
              rw [List.take_add_one, HX.out] at hy
              rcases List.mem_append.1 hy with h1 | h1
              · exact HB.out y h1
              · simp only [Option.toList_some, List.mem_singleton] at h1
                rw [h1, ← HNX.out]
                omega)⟩
            case measure => simp [intOf]; omega
        · have hqm : q = m := by omega
          subst hqm
          go_wp2_with fail
          go_roundw
          case rel => exact ⟨k + 1, t2, by omega, ht2, rfl, by go_num, trivial, Lib.hid (fun y hy => by
            rw [List.take_add_one, HO.out] at hy
            rcases List.mem_append.1 hy with h1 | h1
            · exact HA.out y h1
            · simp only [Option.toList_some, List.mem_singleton] at h1
              rw [h1]
              refine ⟨by rw [← HM.out]; omega, fun x hx => HB.out x ?_⟩
              rw [HM.out, List.take_length]
              exact hx)⟩
          case measure => simp [intOf]; omega
    · have hkn : k = n := by omega
      subst hkn
      go_wp2_with fail
      refine HRR.out true (fun _ => ⟨by have := H40.out; omega, by rw [← HN.out]; omega, fun o ho => HA.out o ?_⟩)
      rw [HN.out, List.take_length]
      exact ho
end Go.Proofs.YtpmkgedlnanjiaaGreatDoor
