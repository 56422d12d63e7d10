/-
  Plan, layer 25: spaced.
-/
import Derived.Test.YtocadlcglgpdcaaDoorPnZb
import Derived.Test.YtocadlcglgpdcaaDoorPoF
namespace Go.Proofs.YtocadlcglgpdcaaDoor
set_option linter.unusedVariables false
set_option linter.unusedSimpArgs false
open Go Go.RowKit Go.Shelf
open Lx (Tk)
attribute [local go_sem ↓] Go.wp_at_zero Go.wp_at_succ
/-- A number in a list of numbers. -/
def Cn (x : Nat) (cs : List Value) (w : World) : Prop := cs = [.int .i64 (x : Nat)]
theorem kp_n (B : Nat) : Kp B [] Cn := fun own w w' a cs hc ho h => h
theorem num_get {B : Nat} {w : World} {l : List Nat} {v : Value} (h : ListS B 3 1 Cn l v w) {i : Nat} {x : Nat} (hx : l[i]? = some x) : ∃ g cap, v = .slice (some ⟨g, 0, none⟩) l.length cap ∧ l.length ≤ cap ∧ w.cell? ⟨g, i, none⟩ = some (.int .i64 (x : Nat)) := by
  obtain ⟨g, cap, cs, rfl, hcap, hB, hlen, hC, hg, -⟩ := h.get hx
  cases hC
  have := hg 0 _ rfl
  exact ⟨g, cap, rfl, hcap, by simpa using this⟩
/-- Where the tokens begin that stand with a line feed after each. -/
def ats (l : List Tk) (k : Nat) : List Nat := (List.range k).map fun i => (Lx.spc (l.take i)).length
theorem ats_get (l : List Tk) {k i : Nat} (h : i < k) : (ats l k)[i]? = some (Lx.spc (l.take i)).length := by simp [ats, h]
theorem ats_succ (l : List Tk) (k : Nat) : ats l (k + 1) = ats l k ++ [(Lx.spc (l.take k)).length] := by simp [ats, List.range_succ]
theorem ats_len (l : List Tk) (k : Nat) : (ats l k).length = k := by simp [ats]
theorem info_int : (Tryd.prog.info? 3).map (fun i => (i.zero, i.size, i.bytes)) = some (some (.int .i64 0), 1, 8) := by kernel_rfl
theorem spc_cat {l : List Tk} {j : Nat} {t : Tk} (ht : l[j]? = some t) : (⟨(Lx.spc (l.take j)).toArray⟩ : ByteArray) ++ ⟨t.text.toArray⟩ ++ (⟨#[10]⟩ : ByteArray) = ⟨(Lx.spc (l.take (j + 1))).toArray⟩ := by
  rw [take_snoc ht]
  unfold Lx.spc
  apply ByteArray.ext
  apply Array.ext'
  simp
theorem spc_mono (l : List Tk) (j : Nat) : (Lx.spc (l.take j)).length ≤ (Lx.spc l).length := by
  have h : Lx.spc l = Lx.spc (l.take j) ++ Lx.spc (l.drop j) := by
    unfold Lx.spc
    rw [← List.flatMap_append, List.take_append_drop]
  rw [h]
  simp
set_option maxHeartbeats 2000000 in
set_option maxRecDepth 100000 in
theorem spaced_spec (w : World) (l : List Tk) (hl : (Lx.spc l).length ≤ 100000) (ao : Option Addr) (n cap : Nat) (HT : Hid (TokS w (.slice ao n cap) l)) (HN : Hid (l.length = n)) (hn : n ≤ 100000) :
    Calls Tryd.prog 14 #[.slice ao n cap] w fun e w' => ∃ vo vc, e = .returned (.tuple #[.string ⟨(Lx.spc l).toArray⟩, .slice vo n vc]) ∧ ListS w.heap.size 3 1 Cn (ats l n) (.slice vo n vc) w' ∧ Chg [] w w' := by
  obtain ⟨im, him, mz0, mz1, mz2⟩ := info_parts info_int
  go_enter Tryd.func14, Tryd.ntmps14
  have HL := Lib.hid hl
  go_wp2_with fail
  go_loopw [4, 5, 6] (fun sv av iv wr => ∃ (j : Nat) (sb : ByteArray) (vo : Option Addr) (vc : Nat), sv = .string sb ∧ av = .slice vo j vc ∧ iv = .int .i64 (j : Int) ∧ j ≤ n ∧ Hid (sb = ⟨(Lx.spc (l.take j)).toArray⟩) ∧ Hid (ListS w.heap.size 3 1 Cn (ats l j) (.slice vo j vc) wr) ∧ Hid (Chg [] w wr)) (fun _ _ iv _ => n - intN iv)
  case atStart => exact ⟨0, ⟨#[]⟩, none, 0, rfl, rfl, rfl, Nat.zero_le _, Lib.hid rfl, Lib.hid (ListS.nil _ _ _ _ _), Lib.hid (Chg.refl _ _)⟩
  case round =>
    obtain ⟨j, sb, vo, vc, rfl, rfl, rfl, hj, HSB, HLJ, HCR⟩ := hrel
    by_cases hlt : j < n
    · obtain ⟨t, ht⟩ : ∃ t, l[j]? = some t := ⟨l[j]'(by rw [HN.out]; exact hlt), by simp⟩
      have hsz : sb.size = (Lx.spc (l.take j)).length := by rw [HSB.out, size_of]
      obtain ⟨z, hz⟩ : ∃ z, z = (Lx.spc (l.take j)).length := ⟨_, rfl⟩
      rw [← hz] at hsz
      have HZ := Lib.hid hz
      have HTT := Lib.hid ht
      have q0 : (0 : Int) ≤ (j : Int) := by omega
      have q1 : (j : Int) < (n : Int) := by omega
      have qj : ((j : Int)).toNat = j := by omega
      have hw2 : IntKind.i64.wrap ((j : Int) + 1) = ((j + 1 : Nat) : Int) := by rw [IntWalk.i64_in _ (by omega)]; omega
      clear hz ht
      have HLk : Hid (ListS w.heap.size 3 1 Cn (ats l j) (.slice vo j vc) (wr.alloc (.cells #[.int .i64 (z : Nat)] 3))) := Lib.hid (HLJ.out.keep (kp_n _) ((Chg.refl [] wr).alloc _) (TyB.nil _ _ _))
      have hws : w.heap.size ≤ (wr.alloc (.cells #[.int .i64 (z : Nat)] 3)).heap.size := ((HCR.out).alloc (.cells #[.int .i64 (z : Nat)] 3)).size
      have HWS := Lib.hid hws
      clear hws
      go_upto_region 6 with fail
      go_wp2_with (at_builtin; refine wpList_snoc rfl (.tmp 13) (.tmp 16) 36 rfl 3 im (.int .i64 0) 1 8 Tryd.underlying36 him mz0 mz1 mz2 rfl (by decide) (C := Cn) (Es := []) (.slice vo j vc) j rfl HLk.out (ats_len l j) (kp_n _) (by simp) z [.int .i64 (z : Nat)] rfl rfl (by intro u hu; simp at hu; rcases hu with rfl; rfl) wr.heap.size rfl (Blk.new wr [.int .i64 (z : Nat)] 3) (by unfold maxLen; omega) (by omega) HWS.out ?kk)
      case kk =>
        intro lo8 lc8 v8 hl8 hc8 hb8
        have HL8 : Hid (ListS w.heap.size 3 1 Cn (ats l (j + 1)) (.slice lo8 (j + 1) lc8) v8) := Lib.hid (by rw [ats_succ, ← HZ.out]; exact hl8)
        have HC8 : Hid (Chg [] w v8) := Lib.hid (hc8 _ _ (HCR.out.alloc _) (Nat.le_refl _))
        clear hl8 hc8 hb8
        obtain ⟨g, off, e1, e2, e3, k0, k1, k2, k3⟩ := (HT.out.quiet HC8.out).get HTT.out
        subst e1
        have q2 : (j : Int) ≤ (cap : Int) := by omega
        have HCT : Hid (sb ++ ⟨t.text.toArray⟩ ++ (⟨#[10]⟩ : ByteArray) = ⟨(Lx.spc (l.take (j + 1))).toArray⟩) := Lib.hid (by rw [HSB.out]; exact spc_cat HTT.out)
        have hsz2 : (sb ++ ⟨t.text.toArray⟩ ++ (⟨#[10]⟩ : ByteArray)).size ≤ 100000 := by
          rw [HCT.out, size_of]
          exact Nat.le_trans (spc_mono l (j + 1)) HL.out
        have htz : z + t.text.length + 1 ≤ 100000 := by
          have h1 := hsz2
          rw [ByteArray.size_append, ByteArray.size_append, hsz, size_of] at h1
          exact h1
        have c1 : ¬ 9223372036854775807 < z + t.text.length := by omega
        have c2 : ¬ 9223372036854775807 < z + t.text.length + 1 := by omega
        clear e2 e3 hsz2 htz
        go_wp2_with fail
        refine ⟨?_, by simp [intN]; omega⟩
        first | exact ⟨j + 1, _, lo8, lc8, rfl, rfl, vintP (by omega), by omega, HCT, HL8, HC8⟩ | ((repeat apply Exists.intro); exact ⟨⟨j + 1, _, lo8, lc8, rfl, rfl, vintP (by omega), by omega, HCT, HL8, HC8⟩, rfl⟩)
    · have q1 : ¬ (j : Int) < (n : Int) := by omega
      have hjn : j = n := by omega
      subst hjn
      have HE : Hid (sb = ⟨(Lx.spc l).toArray⟩) := Lib.hid (by rw [HSB.out, List.take_of_length_le (by rw [HN.out]; exact Nat.le_refl _)])
      go_wp2_with fail
      exact bodyPost_ret (v := .tuple #[.string sb, .slice vo j vc]) (by simp [results, Tryd.results14, go_sem]) rfl ⟨vo, vc, by rw [HE.out], HLJ.out, HCR.out⟩
end Go.Proofs.YtocadlcglgpdcaaDoor
