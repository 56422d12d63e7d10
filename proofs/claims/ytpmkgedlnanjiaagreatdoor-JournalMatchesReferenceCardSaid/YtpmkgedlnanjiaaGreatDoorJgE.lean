/-
  The digest of layer 2: the digest of a list of texts.
-/
import Derived.Test.YtpmkgedlnanjiaaGreatDoorJgD
import Derived.Test.YtpmkgedlnanjiaaGreatDoorJnA
import Derived.Lib.ItoaLen
import Derived.Lib.AppendIntMem
import Derived.Lib.UnsafeStr
namespace Go.Proofs.YtpmkgedlnanjiaaGreatDoor
set_option linter.unusedVariables false
set_option maxRecDepth 100000
set_option linter.unusedSimpArgs false
open Go Go.RowKit

theorem Below.chg {w0 w w' : World} (h : Chg [] w0 w) (hb : Below w0.heap.size w w') : Chg [] w0 w' :=
  ⟨hb.os.trans h.os, hb.tape.trans h.tape, hb.output.trans h.output, Nat.le_trans h.size hb.size, fun k hk hn => (hb.block k hk).trans (h.block k hk hn)⟩
theorem row_keptB {w w' : World} {B : Nat} {e : TypeId} {size : Nat} {v : Value} {n : Nat} {xs : List Value} (h : w.ownsRow B e size v n xs) (hc : Chg [] w w') : w'.ownsRow B e size v n xs := by
  refine ⟨h.1, ?_⟩
  rcases h.2 with h0 | ⟨g, cap, cur, rfl, hb, hg, rest⟩
  · exact .inl h0
  · exact .inr ⟨g, cap, cur, rfl, hb, (hc.block g (Array.getElem?_eq_some_iff.1 hg).1 (by simp)).trans hg, rest⟩
theorem bld_at {w w' : World} {T e : TypeId} {B b : Nat} {p : Value} {bs : List Value} (h : Lib.BuilderAt T e B b p bs w) (hc : Chg [] w w') : Lib.BuilderAt T e B b p bs w' := by
  have hl := h.lt
  obtain ⟨hB, v, hb, ho, hn⟩ := h
  exact ⟨hB, v, (hc.block b hl (by simp)).trans hb, row_keptB ho hc, hn⟩
theorem bld_quiet {w w' : World} {T e : TypeId} {B b : Nat} {bs : List Value} (h : Lib.IsBuilder T e B b bs w) (hc : Chg [] w w') : Lib.IsBuilder T e B b bs w' := by
  rcases h with h | h
  · exact .inl (bld_at h hc)
  · exact .inr (bld_at h hc)

/-- A list of texts that can be read in world w. -/
def Strs (w : World) (v : Value) (l : List Bytes) : Prop :=
  ∃ ao cap, v = .slice ao l.length cap ∧ l.length ≤ cap ∧ ∀ (i : Nat) (x : Bytes), l[i]? = some x → ∃ g off, ao = some ⟨g, off, none⟩ ∧ w.cell? ⟨g, off + i, none⟩ = some (.string ⟨x.toArray⟩)
theorem Strs.quiet {w w' : World} {v : Value} {l : List Bytes} (h : Strs w v l) (hc : Chg [] w w') : Strs w' v l := by
  obtain ⟨ao, cap, rfl, hle, h2⟩ := h
  refine ⟨ao, cap, rfl, hle, fun i x hx => ?_⟩
  obtain ⟨g, off, rfl, h3⟩ := h2 i x hx
  exact ⟨g, off, rfl, (World.cell?_of_block (hc.block g (World.block_lt_of_cell? _ _ h3) (by simp))).trans h3⟩
theorem Strs.nil (w : World) : Strs w (.slice none 0 0) [] := ⟨none, 0, rfl, Nat.le_refl _, fun i x hx => by simp at hx⟩
def vstr (b : Bytes) : Value := .string ⟨b.toArray⟩
theorem Strs.blk {w : World} {b n : Nat} {l : List Bytes} {e : TypeId} (h : Blk w b (l.map vstr) e) (hn : n = l.length) : Strs w (.slice (some ⟨b, 0, none⟩) n n) l := by
  subst hn
  refine ⟨_, _, rfl, Nat.le_refl _, fun i x hx => ⟨b, 0, rfl, ?_⟩⟩
  rw [Nat.zero_add]
  exact h.cell (by rw [List.getElem?_map, hx]; rfl)

namespace Dg
def joined (l : List Bytes) : Bytes := l.flatMap (fun s => Lib.itoa (s.length : Int) ++ [58] ++ s)
def list (l : List Bytes) : Bytes := sum (joined l)
theorem joined_snoc (l : List Bytes) (k : Nat) (x : Bytes) (h : l[k]? = some x) : joined (l.take (k + 1)) = joined (l.take k) ++ (Lib.itoa (x.length : Int) ++ [58] ++ x) := by
  unfold joined
  rw [List.take_add_one, h, Option.toList_some, List.flatMap_append]
  simp
theorem itoa_len (x : Bytes) (h : x.length ≤ 1000000) : (Lib.itoa (x.length : Int)).length ≤ 21 := Lib.itoa_length_le _ (by omega) (by omega)
theorem joined_len (l : List Bytes) (h : ∀ x ∈ l, x.length ≤ 1000000) : (joined l).length ≤ l.length * 1000022 := by
  unfold joined
  induction l with
  | nil => simp
  | cons x l ih =>
    have h1 := itoa_len x (h x (by simp))
    have h2 := h x (by simp)
    have h3 := ih (fun y hy => h y (by simp [hy]))
    simp only [List.flatMap_cons, List.length_append, List.length_cons, List.length_nil] at h3 ⊢
    omega
end Dg

theorem join3 (a x : Bytes) : (⟨a.toArray⟩ : ByteArray) ++ ⟨#[58]⟩ ++ ⟨x.toArray⟩ = ⟨(a ++ [58] ++ x).toArray⟩ := by
  apply ByteArray.ext
  apply Array.ext'
  simp
set_option maxHeartbeats 2000000 in
theorem text_r44 (w : World) (HL : Hid (Laid w)) (v : Value) (l : List Bytes) (HV : Hid (Strs w v l)) (hl : l.length ≤ 900) (HB : Hid (∀ x ∈ l, x.length ≤ 1000000)) :
    Calls Tryz.prog 48 #[v] w fun e w' => e = .returned (.string ⟨(Jn.text l).toArray⟩) ∧ Chg [] w w' := by
  obtain ⟨ao, cap, rfl, _, hv⟩ := HV.out
  have HE := Lib.hid hv
  obtain ⟨n, hn⟩ : ∃ n, n = l.length := ⟨_, rfl⟩
  rw [← hn]
  have hn9 : n ≤ 900 := by omega
  have Hn := Lib.hid hn
  clear hv hn hl
  have hfresh := Lib.fresh_isBuilder 58 5 w
  have HF := Lib.hid hfresh
  clear hfresh
  go_enter Tryz.func48, Tryz.ntmps48
  go_wp2_with fail
  obtain ⟨B, hB⟩ : ∃ B, B = w.heap.size := ⟨_, rfl⟩
  rw [← hB] at HF ⊢
  have HBB := Lib.hid hB
  clear hB
  go_loopw [8] (fun i wr => ∃ k : Nat, k ≤ n ∧ i = .int .i64 k ∧ Lib.IsBuilder 58 5 B B (Lib.byteCells (Dg.joined (l.take k))) wr ∧ Chg [] w wr) (fun i _ => n - (intOf i).toNat)
  case atStart => exact ⟨0, Nat.zero_le _, rfl, HF.out, (Chg.refl _ _).alloc _⟩
  case round =>
    obtain ⟨k, hk, rfl, hI, hC⟩ := hrel
    have HI := Lib.hid hI
    have HC := Lib.hid hC
    clear hI hC HF
    have HJ : Hid ((Dg.joined (l.take k)).length ≤ 900018000 + 1800) := Lib.hid (by
      have h1 := Dg.joined_len (l.take k) (fun x hx => HB.out x (List.mem_of_mem_take hx))
      rw [List.length_take] at h1
      have := Hn.out
      omega)
    by_cases hlt : k < n
    · obtain ⟨x, hx⟩ : ∃ x, l[k]? = some x := ⟨l[k]'(by rw [← Hn.out]; exact hlt), by simp⟩
      obtain ⟨g, off, rfl, hc⟩ := HE.out k x hx
      have c0 := (World.cell?_of_block (HC.out.block g (World.block_lt_of_cell? _ _ hc) (by simp))).trans hc
      have hxl : x.length ≤ 1000000 := HB.out x (List.mem_of_getElem? hx)
      have HX := Lib.hid (Dg.joined_snoc l k x hx)
      obtain ⟨it, hit⟩ : ∃ it, it = Lib.itoa (x.length : Int) := ⟨_, rfl⟩
      have hil : it.length ≤ 21 := by rw [hit]; exact Dg.itoa_len x hxl
      have HIT := Lib.hid hit
      have hs1 : ¬ 9223372036854775807 < it.length + 1 := by omega
      have hs2 : ¬ 9223372036854775807 < it.length + 1 + x.length := by omega
      have HIL := Lib.hid hil
      have HXL := Lib.hid hxl
      clear hx hc hit hil hxl
      go_wp2_with fail
      refine (Tryz.strconv_Itoa (x.length : Int) (by omega) (by have := HXL.out; omega) _ (HL.out.quiet HC.out).pow).mono ?_
      rintro e w2 ⟨rfl, d, os, rfl⟩
      rw [← HIT.out]
      have hb2 : Chg [] wr (Go.Sort.grow (wr.drewN d) os) := Below.chg (Chg.refl _ _) (Lib.below_grow _ _ (Nat.le_refl _) _ _)
      generalize Go.Sort.grow (wr.drewN d) os = w2 at *
      have HC2 := Lib.hid (HC.out.trans hb2 (by simp))
      have HI2 := Lib.hid (bld_quiet HI.out hb2)
      clear hb2 c0 HI HC
      go_wp2_with fail
      rw [join3]
      have hsz : (⟨(it ++ [58] ++ x).toArray⟩ : ByteArray).size = it.length + 1 + x.length := by rw [Lib.size_eq]; simp; omega
      refine (writeString_spec B B _ _ w2 HI2.out (by rw [Lib.byteCells_length, hsz]; have := HJ.out; have := HIL.out; have := HXL.out; omega) (by rw [HBB.out]; exact HC2.out.size)).mono ?_
      rintro e w3 ⟨rfl, h3, hb3⟩
      rw [Lib.strCells_eq, ← Lib.byteCells_append] at h3
      rw [HBB.out] at hb3
      have HC3 := Lib.hid (Below.chg HC2.out hb3)
      have HI3 := Lib.hid h3
      clear h3 hb3 hsz HI2 HC2
      go_wp2_with fail
      go_roundw
      case rel =>
        refine ⟨k + 1, by omega, by go_num, .inr ?_, HC3.out⟩
        have := HI3.out
        rw [HX.out, ← HIT.out]
        simpa using this
      case measure => simp [intOf]; omega
    · have hkn : k = n := by omega
      have hj : l.take k = l := List.take_of_length_le (by rw [← Hn.out]; omega)
      rw [hj] at HI HJ
      clear hj hkn
      go_wp2_with fail
      refine (Tryz.Builder_String_any B B (Dg.joined l) wr HI.out (by rw [HBB.out]; exact HC.out.size)).mono ?_
      rintro e w3 ⟨rfl, hb3⟩
      rw [HBB.out] at hb3
      have HC3 := Lib.hid (Below.chg HC.out hb3)
      clear hb3 HI HC
      go_wp2_with fail
      go_ret
      exact ⟨rfl, HC3.out⟩
end Go.Proofs.YtpmkgedlnanjiaaGreatDoor
