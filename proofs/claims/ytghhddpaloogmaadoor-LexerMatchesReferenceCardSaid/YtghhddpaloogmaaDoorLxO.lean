/-
  Layer 18: comparing lists of tokens (Same, Alike), and writing them (written).
-/
import Derived.Test.YtghhddpaloogmaaDoorLxK
import Derived.Test.YtghhddpaloogmaaDoorLxQ
namespace Go.Proofs.YtghhddpaloogmaaDoor
set_option linter.unusedVariables false
set_option linter.unusedSimpArgs false
open Go Go.RowKit Go.Shelf
attribute [local irreducible] Go.wpStill

namespace Lx
def tshift (d : Nat) (t : Tk) : Tk := { t with at_ := t.at_ + d }
theorem take_eq {α : Type} {a b : List α} {k : Nat} {x y : α} (h : a.take k = b.take k) (hx : a[k]? = some x) (hy : b[k]? = some y) (e : x = y) : a.take (k + 1) = b.take (k + 1) := by
  rw [List.take_add_one, List.take_add_one, hx, hy, h, e]
theorem wr_take (l : List Tk) (k : Nat) : (wr (l.take k)).length ≤ (wr l).length := by
  have h : wr l = wr (l.take k) ++ wr (l.drop k) := by
    unfold wr
    rw [← List.flatMap_append, List.take_append_drop]
  rw [h, List.length_append]
  omega
end Lx
/-- Reading a token out of a list. -/
theorem TokS.get {w : World} {ao : Option Addr} {m cap : Nat} {l : List Lx.Tk} (h : TokS w (.slice ao m cap) l) {k : Nat} {t : Lx.Tk} (ht : l[k]? = some t) : ∃ g off, ao = some ⟨g, off, none⟩ ∧
    w.cell? ⟨g, off + k * 4, none⟩ = some (.int .i64 t.kind) ∧ w.cell? ⟨g, off + k * 4 + 1, none⟩ = some (.string ⟨t.text.toArray⟩) ∧ w.cell? ⟨g, off + k * 4 + 2, none⟩ = some (.int .i64 t.n) ∧ w.cell? ⟨g, off + k * 4 + 3, none⟩ = some (.int .i64 t.at_) := by
  obtain ⟨ao', cap', he, _, h3⟩ := h
  cases he
  rw [Nat.mul_comm k 4]
  exact h3 k t ht
theorem TokS.form {w : World} {v : Value} {l : List Lx.Tk} (h : TokS w v l) : ∃ ao cap, v = .slice ao l.length cap ∧ l.length ≤ cap := by
  obtain ⟨ao, cap, h1, h2, _⟩ := h
  exact ⟨ao, cap, h1, h2⟩
theorem written_spec (w : World) (v : Value) (l : List Lx.Tk) (HV : Hid (TokS w v l)) (hl : l.length ≤ 1000000) (HW : Hid ((Lx.wr l).length ≤ 1000000)) :
    Calls Tryd.prog 16 #[v] w fun e w' => e = .returned (.string ⟨(Lx.wr l).toArray⟩) ∧ w' = w := by
  obtain ⟨ao, cap, rfl, hcap⟩ := HV.out.form
  obtain ⟨m, hm⟩ : ∃ m, m = l.length := ⟨_, rfl⟩
  rw [← hm] at hl hcap HV ⊢
  have HM := Lib.hid hm
  clear hm
  go_enter Tryd.func16, Tryd.ntmps16
  go_wp2_with fail
  go_loop [3, 4] (fun s i => ∃ k : Nat, i = .int .i64 (k : Int) ∧ k ≤ m ∧ s = .string ⟨(Lx.wr (l.take k)).toArray⟩) (fun _ i => m - (intOf i).toNat)
  case atStart => exact ⟨0, rfl, Nat.zero_le _, rfl⟩
  case round =>
    obtain ⟨k, rfl, hk, rfl⟩ := hrel
    by_cases hlt : k < m
    · obtain ⟨x, hx⟩ : ∃ x, l[k]? = some x := ⟨l[k]'(by rw [← HM.out]; exact hlt), by simp⟩
      obtain ⟨g, off, rfl, c0, c1, c2, c3⟩ := HV.out.get hx
      have HN : Hid (Lx.wr (l.take (k + 1)) = Lx.wr (l.take k) ++ (x.text ++ [32])) := Lib.hid (by
        rw [List.take_add_one, hx]
        simp [Lx.wr])
      have q1 : (k : Int) < (m : Int) := by omega
      have q0 : (0 : Int) ≤ (k : Int) := by omega
      have hlen : (Lx.wr (l.take (k + 1))).length ≤ 1000000 := Nat.le_trans (Lx.wr_take l (k + 1)) HW.out
      obtain ⟨S, hS⟩ : ∃ S, S = Lx.wr (l.take k) := ⟨_, rfl⟩
      rw [← hS] at HN ⊢
      rw [HN.out, List.length_append, List.length_append] at hlen
      have n1 : ¬ 9223372036854775807 < x.text.length + 1 := by simp at hlen; omega
      have n2 : ¬ 9223372036854775807 < S.length + (x.text.length + 1) := by simp at hlen; omega
      clear hx hS hlen
      go_wp2_with fail
      go_round
      case rel => exact ⟨k + 1, vint (by omega), by omega, by rw [HN.out]; exact congrArg Value.string (by apply ByteArray.ext; apply Array.ext'; simp)⟩
      case measure => simp [intOf]; omega
    · have q1 : ¬ (k : Int) < (m : Int) := by omega
      have HK : Hid (l.take k = l) := Lib.hid (List.take_of_length_le (by rw [← HM.out]; omega))
      rw [HK.out]
      go_wp2_with fail
      go_ret
      exact ⟨rfl, rfl⟩
theorem same_spec (w : World) (v u : Value) (a b : List Lx.Tk) (d : Nat) (HV : Hid (TokS w v a)) (HU : Hid (TokS w u b)) (ha : a.length ≤ 1000000) (hb : b.length ≤ 1000000) (hd : d ≤ 1000000) (HA : Hid (∀ t ∈ a, t.at_ ≤ 1000000)) :
    Calls Tryd.prog 14 #[v, .int .i64 (d : Int), u] w fun e w' => e = .returned (.bool (decide (a.map (Lx.tshift d) = b))) ∧ Chg [] w w' := by
  obtain ⟨ao, cap, rfl, hcap⟩ := HV.out.form
  obtain ⟨bo, cup, rfl, hcup⟩ := HU.out.form
  obtain ⟨m, hm⟩ : ∃ m, m = a.length := ⟨_, rfl⟩
  obtain ⟨q, hq⟩ : ∃ q, q = b.length := ⟨_, rfl⟩
  rw [← hm] at hcap ha HV ⊢
  rw [← hq] at hcup hb HU ⊢
  have HM := Lib.hid hm
  have HQ := Lib.hid hq
  clear hm hq
  by_cases hmq : m = q
  · obtain rfl : m = q := hmq
    go_enter Tryd.func14, Tryd.ntmps14
    go_wp2_with fail
    go_loopw [7] (fun i wr => ∃ k : Nat, k ≤ m ∧ i = .int .i64 k ∧ Hid ((a.map (Lx.tshift d)).take k = b.take k) ∧ Chg [] w wr) (fun i _ => m - (intOf i).toNat)
    case atStart => exact ⟨0, Nat.zero_le _, rfl, Lib.hid (by simp), Chg.refl _ _⟩
    case round =>
      obtain ⟨k, hk, rfl, HT, hc⟩ := hrel
      have HC := Lib.hid hc
      clear hc
      by_cases hlt : k < m
      · obtain ⟨x, hx⟩ : ∃ x, a[k]? = some x := ⟨a[k]'(by rw [← HM.out]; exact hlt), by simp⟩
        obtain ⟨y, hy⟩ : ∃ y, b[k]? = some y := ⟨b[k]'(by rw [← HQ.out]; exact hlt), by simp⟩
        obtain ⟨g, off, rfl, c0, c1, c2, c3⟩ := (HV.out.quiet HC.out).get hx
        obtain ⟨g2, off2, rfl, e0, e1, e2, e3⟩ := (HU.out.quiet HC.out).get hy
        have hat := HA.out x (List.mem_of_getElem? hx)
        have HX := Lib.hid (show (a.map (Lx.tshift d))[k]? = some (Lx.tshift d x) by rw [List.getElem?_map, hx]; rfl)
        have HY := Lib.hid hy
        have l0 : g2 < wr.heap.size := World.block_lt_of_cell? _ _ e0
        have l1 : g < wr.heap.size := World.block_lt_of_cell? _ _ c0
        clear hx hy
        have hki : (0 : Int) ≤ (k : Int) := by omega
        have hki2 : (k : Int) < (m : Int) := by omega
        have ne0 : ¬ g2 = wr.heap.size := by omega
        have hno : Lx.tshift d x ≠ y → decide (a.map (Lx.tshift d) = b) = false := fun h9 => by
          rw [decide_eq_false_iff_not]
          intro e
          have h8 := HX.out
          rw [e, HY.out] at h8
          exact h9 (Option.some.inj h8).symm
        obtain ⟨b1, h1⟩ : ∃ b, ((x.kind : Int) == (y.kind : Int)) = b := ⟨_, rfl⟩
        obtain ⟨b2, h2⟩ : ∃ b, (x.text == y.text) = b := ⟨_, rfl⟩
        obtain ⟨b3, h3⟩ : ∃ b, ((x.n : Int) == (y.n : Int)) = b := ⟨_, rfl⟩
        obtain ⟨b4, h4⟩ : ∃ b, ((x.at_ : Int) + (d : Int) == (y.at_ : Int)) = b := ⟨_, rfl⟩
        cases b1 with
        | false =>
          have HF : Hid (decide (a.map (Lx.tshift d) = b) = false) := Lib.hid (hno (by intro e; rw [← e] at h1; simp [Lx.tshift] at h1))
          clear hno
          go_wp2_with fail
          go_quiet (fail)
          go_wp2_with fail
          go_ret
          exact ⟨by rw [HF.out]; rfl, ⟨HC.out.os, HC.out.tape, HC.out.output, by simp; have := HC.out.size; omega, fun z hz hn => (Below.heap_alloc _ _ z (Nat.lt_of_lt_of_le hz HC.out.size)).trans (HC.out.block z hz hn)⟩⟩
        | true =>
          cases b2 with
          | false =>
            have HF : Hid (decide (a.map (Lx.tshift d) = b) = false) := Lib.hid (hno (by intro e; rw [← e] at h2; simp [Lx.tshift] at h2))
            clear hno
            go_wp2_with fail
            go_quiet (fail)
            go_wp2_with fail
            go_ret
            exact ⟨by rw [HF.out]; rfl, ⟨HC.out.os, HC.out.tape, HC.out.output, by simp; have := HC.out.size; omega, fun z hz hn => (Below.heap_alloc _ _ z (Nat.lt_of_lt_of_le hz HC.out.size)).trans (HC.out.block z hz hn)⟩⟩
          | true =>
            cases b3 with
            | false =>
              have HF : Hid (decide (a.map (Lx.tshift d) = b) = false) := Lib.hid (hno (by intro e; rw [← e] at h3; simp [Lx.tshift] at h3))
              clear hno
              go_wp2_with fail
              go_quiet (fail)
              go_wp2_with fail
              go_ret
              exact ⟨by rw [HF.out]; rfl, ⟨HC.out.os, HC.out.tape, HC.out.output, by simp; have := HC.out.size; omega, fun z hz hn => (Below.heap_alloc _ _ z (Nat.lt_of_lt_of_le hz HC.out.size)).trans (HC.out.block z hz hn)⟩⟩
            | true =>
              cases b4 with
              | false =>
                have HF : Hid (decide (a.map (Lx.tshift d) = b) = false) := Lib.hid (hno (by intro e; rw [← e] at h4; simp [Lx.tshift] at h4))
                clear hno
                go_wp2_with fail
                go_quiet (fail)
                go_wp2_with fail
                go_ret
                exact ⟨by rw [HF.out]; rfl, ⟨HC.out.os, HC.out.tape, HC.out.output, by simp; have := HC.out.size; omega, fun z hz hn => (Below.heap_alloc _ _ z (Nat.lt_of_lt_of_le hz HC.out.size)).trans (HC.out.block z hz hn)⟩⟩
              | true =>
                have HXY : Hid (Lx.tshift d x = y) := Lib.hid (by
                  have e1 := eq_of_beq h1
                  have e2 := eq_of_beq h2
                  have e3 := eq_of_beq h3
                  have e4 := eq_of_beq h4
                  obtain ⟨yk, yt, yn, ya⟩ := y
                  simp only at e1 e2 e3 e4
                  unfold Lx.tshift
                  rw [Lx.Tk.mk.injEq]
                  exact ⟨by omega, e2, by omega, by omega⟩)
                clear hno
                go_wp2_with fail
                go_quiet (fail)
                go_wp2_with fail
                refine ⟨⟨k + 1, by omega, by go_num, Lib.hid (Lx.take_eq HT.out HX.out HY.out HXY.out), ?_⟩, by simp [intOf]; omega⟩
                exact ⟨HC.out.os, HC.out.tape, HC.out.output, by simp; have := HC.out.size; omega, fun z hz hn => (Below.heap_alloc _ _ z (Nat.lt_of_lt_of_le hz HC.out.size)).trans (HC.out.block z hz hn)⟩
      · have hkm : k = m := by omega
        have HF : Hid (decide (a.map (Lx.tshift d) = b) = true) := Lib.hid (by
          rw [decide_eq_true_iff]
          have := HT.out
          rwa [List.take_of_length_le (by rw [List.length_map, ← HM.out, hkm]; exact Nat.le_refl _), List.take_of_length_le (by rw [← HQ.out, hkm]; exact Nat.le_refl _)] at this)
        clear hkm
        go_wp2_with fail
        go_ret
        exact ⟨by rw [HF.out]; rfl, HC.out⟩
  · have HF : Hid (decide (a.map (Lx.tshift d) = b) = false) := Lib.hid (by
      rw [decide_eq_false_iff_not]
      intro h
      have := congrArg List.length h
      rw [List.length_map] at this
      exact hmq (HM.out.trans (this.trans HQ.out.symm)))
    go_enter Tryd.func14, Tryd.ntmps14
    go_wp2_with fail
    go_ret
    exact ⟨by rw [HF.out]; rfl, Chg.refl _ _⟩
end Go.Proofs.YtghhddpaloogmaaDoor
