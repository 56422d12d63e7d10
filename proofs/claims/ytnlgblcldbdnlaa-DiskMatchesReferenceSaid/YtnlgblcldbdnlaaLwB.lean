/-
  The statements' own helpers: ok, over a list of operations in memory.
-/
import Derived.Test.YtnlgblcldbdnlaaLwA
namespace Go.Proofs.Ytnlgblcldbdnlaa
set_option linter.unusedVariables false
set_option linter.unusedSimpArgs false
open Go Go.RowKit

/-- A slice value that reads as a list of operations. -/
def ActsAt (w : World) (v : Value) (l : List ActD) : Prop :=
  ∃ ao cap, v = .slice ao l.length cap ∧ ∀ (i : Nat) (x : ActD), l[i]? = some x → ∃ b off, ao = some ⟨b, off, none⟩ ∧ b < w.heap.size ∧ ∀ (j : Nat) (c : Value), x.cells[j]? = some c → w.cell? ⟨b, off + i * 6 + j, none⟩ = some c
theorem ActsAt.quiet {w w' : World} {v : Value} {l : List ActD} (h : ActsAt w v l) (hc : Chg [] w w') : ActsAt w' v l := by
  obtain ⟨ao, cap, rfl, h1⟩ := h
  refine ⟨ao, cap, rfl, fun i x hx => ?_⟩
  obtain ⟨b, off, rfl, hlt, h2⟩ := h1 i x hx
  exact ⟨b, off, rfl, Nat.lt_of_lt_of_le hlt hc.size, fun j c hj => (World.cell?_of_block (hc.block b hlt (by simp))).trans (h2 j c hj)⟩

theorem ActsAt.elem {w : World} {ao : Option Addr} {cap n : Nat} {l : List ActD} (h : ActsAt w (.slice ao n cap) l) (i : Nat) (x : ActD) (hx : l[i]? = some x) : ∃ b off, ao = some ⟨b, off, none⟩ ∧ b < w.heap.size ∧
    w.cell? ⟨b, off + i * 6, none⟩ = some (.int .i64 x.kind) ∧ w.cell? ⟨b, off + i * 6 + 1, none⟩ = some (.int .i64 x.sector) ∧ w.cell? ⟨b, off + i * 6 + 2, none⟩ = some (.int .i64 x.bytes) ∧
    w.cell? ⟨b, off + i * 6 + 3, none⟩ = some (.string ⟨x.text.toArray⟩) ∧ w.cell? ⟨b, off + i * 6 + 4, none⟩ = some (.bool x.odd) ∧ w.cell? ⟨b, off + i * 6 + 5, none⟩ = some (.int .i64 x.after) := by
  obtain ⟨ao', cap', he, h1⟩ := h
  simp at he
  obtain ⟨rfl, _, _⟩ := he
  obtain ⟨b, off, rfl, hlt, h2⟩ := h1 i x hx
  exact ⟨b, off, rfl, hlt, h2 0 _ rfl, h2 1 _ rfl, h2 2 _ rfl, h2 3 _ rfl, h2 4 _ rfl, h2 5 _ rfl⟩
theorem ActsAt.len {w : World} {ao : Option Addr} {cap n : Nat} {l : List ActD} (h : ActsAt w (.slice ao n cap) l) : n = l.length := by
  obtain ⟨ao', cap', he, _⟩ := h
  simp at he
  exact he.2.1

def okL (l : List ActD) : Bool := l.all (fun x => decide (x.text.length ≤ 100)) && decide (l.length ≤ 60)

theorem ok_spec (w : World) (ao : Option Addr) (n cap : Nat) (l : List ActD) (H : Hid (ActsAt w (.slice ao n cap) l)) (hm : n ≤ 9223372036854775807) :
    Calls Try.prog 11 #[.slice ao n cap] w fun e w' => e = .returned (.bool (okL l)) ∧ w = w' := by
  go_enter Try.func11, Try.ntmps11
  go_wp2_with fail
  go_loop [3] (fun s3 => ∃ k : Nat, k ≤ n ∧ s3 = .int .i64 k ∧ ∀ i x, l[i]? = some x → i < k → x.text.length ≤ 100) (fun s3 => n - (intOf s3).toNat)
  case atStart => exact ⟨0, Nat.zero_le _, rfl, fun i x _ h => by omega⟩
  case round =>
    obtain ⟨k, hk, rfl, hall⟩ := hrel
    have HA := Lib.hid hall
    have hn := H.out.len
    have Hn := Lib.hid hn
    clear hall hn
    by_cases hlt : k < n
    · obtain ⟨x, hx⟩ : ∃ x, l[k]? = some x := ⟨l[k]'(by rw [← Hn.out]; exact hlt), by simp⟩
      obtain ⟨b, off, rfl, hbl, _, _, _, c3, _, _⟩ := H.out.elem k x hx
      have HX := Lib.hid hx
      clear hx
      by_cases hb : x.text.length ≤ 100
      · go_wp2_with fail
        go_round
        case rel => exact ⟨k + 1, by omega, by go_num, fun i y hy hik => by
          by_cases e : i = k
          · subst e
            have := HX.out
            rw [hy] at this
            simp at this
            rw [this]; exact hb
          · exact HA.out i y hy (by omega)⟩
        case measure => simp [intOf]; omega
      · go_wp2_with fail
        go_ret
        refine ⟨?_, rfl⟩
        have : okL l = false := by
          unfold okL
          rw [Bool.and_eq_false_iff]
          left
          rw [List.all_eq_false]
          exact ⟨x, List.mem_of_getElem? HX.out, by simpa using hb⟩
        rw [this]
        rfl
    · go_wp2_with fail
      go_ret
      refine ⟨?_, rfl⟩
      have hkn : k = n := by omega
      have : okL l = decide ((n : Int) ≤ 60) := by
        unfold okL
        rw [List.all_eq_true.2 (fun x hx => by
          obtain ⟨i, hi⟩ := List.mem_iff_getElem?.1 hx
          have := HA.out i x hi (by have := (List.getElem?_eq_some_iff.1 hi).1; rw [hkn, Hn.out]; exact this)
          simpa using this), Bool.true_and, ← Hn.out]
        congr 1
        exact propext ⟨fun h => by omega, fun h => by omega⟩
      rw [this]
      rfl
end Go.Proofs.Ytnlgblcldbdnlaa
