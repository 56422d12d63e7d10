/-
  Layer 4: the contract of tree.Path.
-/
import Derived.Test.YtpeehlflhnhhjaaDoorTrH
namespace Go.Proofs.YtpeehlflhnhhjaaDoor
set_option linter.unusedVariables false
set_option linter.unusedSimpArgs false
open Go Go.RowKit Go.Shelf
attribute [local go_sem] Oper.semAt_some

namespace Tr
def pathL : List (List Bytes) → Nat → List Bytes
  | [], _ => []
  | l :: ls, i => (if sib i < l.length then [l.getD (sib i) []] else []) ++ pathL ls (i / 2)
theorem pathL_snoc : ∀ (ls : List (List Bytes)) (l : List Bytes) (i : Nat), pathL (ls ++ [l]) i = pathL ls i ++ (if sib (i / 2 ^ ls.length) < l.length then [l.getD (sib (i / 2 ^ ls.length)) []] else [])
  | [], l, i => by simp [pathL]
  | k :: ls, l, i => by
    rw [List.cons_append, pathL, pathL, pathL_snoc ls l (i / 2), List.append_assoc, List.length_cons, Nat.pow_succ, Nat.mul_comm, Nat.div_div_eq_div_mul]
def path (l : List Bytes) (i : Nat) : List Bytes := pathL (levs l.length (l.map leaf)) i
theorem pathL_len : ∀ (ls : List (List Bytes)) (i : Nat), (pathL ls i).length ≤ ls.length
  | [], i => by simp [pathL]
  | l :: ls, i => by
    have := pathL_len ls (i / 2)
    rw [pathL, List.length_append, List.length_cons]
    split <;> simp <;> omega
end Tr
theorem path_out (w : World) (v : Value) (l : List Bytes) (HV : Hid (Strs w v l)) (hl : l.length ≤ 900) (i : Int) (h : i < 0 ∨ (l.length : Int) ≤ i) :
    Calls Tryd.prog 11 #[v, .int .i64 i] w fun e w' => e = .returned (.tuple #[.slice none 0 0, .int .i64 1]) ∧ Chg [] w w' := by
  obtain ⟨ao, cap, rfl, hcap, _⟩ := HV.out
  generalize l.length = m at *
  by_cases h1 : i < 0
  · clear h
    go_enter Tryd.func11, Tryd.ntmps11
    go_wp2_with fail
    go_ret2
    exact ⟨rfl, (Chg.refl _ _).alloc _⟩
  · have h1' : 0 ≤ i := by omega
    have h2 : (m : Int) ≤ i := by omega
    clear h
    go_enter Tryd.func11, Tryd.ntmps11
    go_wp2_with fail
    go_ret2
    exact ⟨rfl, (Chg.refl _ _).alloc _⟩
/-- An append to the row of the box bo, and its store into the box. -/
theorem path_app {bi bo : Nat} {W5 w10 : World} {v5 : Value} {n : Nat} {xs : List Value} {g9 cap9 : Nat} {s : Bytes} (hbi : bi ≠ bo)
    (hb5 : Blk W5 bo [v5] 22) (hr5 : W5.ownsRow 0 9 1 v5 n xs) (hown : w10.ownsRow 0 9 1 (.slice (some ⟨g9, 0, none⟩) (n + 1) cap9) (n + 1) (xs ++ [.string ⟨s.toArray⟩]))
    (hgrow : (W5.drew.alloc (.cells #[.string ⟨s.toArray⟩] 9)).grownBy w10 v5.ownBlock) (hat : v5.ownBlock = some g9 ∨ g9 = W5.heap.size + 1) (hnb : v5.ownBlock ≠ some bo) :
    KeepsOthers W5 (w10.setCell ⟨bo, 0, none⟩ (.slice (some ⟨g9, 0, none⟩) (n + 1) cap9)) ∧ KpP bi bo W5 (w10.setCell ⟨bo, 0, none⟩ (.slice (some ⟨g9, 0, none⟩) (n + 1) cap9)) ∧
      Blk (w10.setCell ⟨bo, 0, none⟩ (.slice (some ⟨g9, 0, none⟩) (n + 1) cap9)) bo [.slice (some ⟨g9, 0, none⟩) (n + 1) cap9] 22 ∧
      (w10.setCell ⟨bo, 0, none⟩ (.slice (some ⟨g9, 0, none⟩) (n + 1) cap9)).ownsRow 0 9 1 (.slice (some ⟨g9, 0, none⟩) (n + 1) cap9) (n + 1) (xs ++ [.string ⟨s.toArray⟩]) ∧
      Chg (bo :: v5.ownBlock.toList) W5 (w10.setCell ⟨bo, 0, none⟩ (.slice (some ⟨g9, 0, none⟩) (n + 1) cap9)) := by
  have h1 : Chg [] W5 (W5.drew.alloc (.cells #[.string ⟨s.toArray⟩] 9)) := (Chg.refl _ _).drew.alloc _
  have h2 : Chg v5.ownBlock.toList W5 w10 := (h1.mono (by simp)).grown hgrow (fun k hk => .inl (by rw [hk]; simp))
  have h3 : Chg (bo :: v5.ownBlock.toList) W5 (w10.setCell ⟨bo, 0, none⟩ (.slice (some ⟨g9, 0, none⟩) (n + 1) cap9)) := (h2.mono (fun k hk => by simp [hk])).setCell _ _ (.inl (by simp))
  have hb10 : Blk w10 bo [v5] 22 := h2.blk hb5 (by simpa using hnb)
  have hgr : ∃ cur, w10.heap[g9]? = some (.cells cur 9 (0, 0)) := by
    rcases hown.2 with ⟨h0, _⟩ | ⟨g, cap, cur, h0, _, hg, _⟩
    · cases h0
    · cases h0
      exact ⟨cur, hg⟩
  obtain ⟨cur9, hg9⟩ := hgr
  have hg9l : g9 < w10.heap.size := (Array.getElem?_eq_some_iff.1 hg9).1
  have hbg : bo ≠ g9 := by
    rintro rfl
    have h := hb10
    unfold Blk at h
    rw [hg9] at h
    cases h
  refine ⟨⟨h3.size, fun k o ho hoc => ?_⟩, ⟨fun k o n1 n2 hn ho hc => ?_, fun v' k hv hk => ?_, h3.size⟩, hb10.set 0 _, ⟨hown.1, ?_⟩, h3⟩
  · refine (h3.block k (Array.getElem?_eq_some_iff.1 ho).1 ?_).trans ho
    intro hm
    rcases List.mem_cons.1 hm with rfl | hm
    · have h := hb5
      unfold Blk at h
      rw [ho] at h
      cases h
      cases hoc
    · rcases hr5.2 with ⟨h0, _⟩ | ⟨g, cap, cur, h0, _, hg, _⟩
      · rw [h0] at hm
        simp [Value.ownBlock] at hm
      · rw [h0] at hm
        simp [Value.ownBlock] at hm
        subst hm
        rw [ho] at hg
        cases hg
        cases hoc
  · refine (h3.block k (Array.getElem?_eq_some_iff.1 ho).1 ?_).trans ho
    intro hm
    rcases List.mem_cons.1 hm with rfl | hm
    · exact n2 rfl
    · exact hn v5 (hb5.cell (i := 0) rfl) (by simpa using hm)
  · rw [(hb10.set 0 _).cell (i := 0) rfl] at hv
    cases hv
    simp only [Value.ownBlock, Option.some.injEq] at hk
    subst hk
    rcases hat with h | h
    · exact .inl ⟨v5, hb5.cell (i := 0) rfl, h⟩
    · exact .inr ⟨by omega, by simpa using hg9l⟩
  · rcases hown.2 with h0 | ⟨g, cap, cur, h0, hb, hg, rest⟩
    · exact .inl h0
    · cases h0
      exact .inr ⟨g9, _, cur, rfl, hb, (heap_setCell_other w10 ⟨bo, 0, none⟩ g9 _ (fun e => hbg e.symm)).trans hg, rest⟩
/-- The relation of the rounds. -/
def PathI (bi bo i : Nat) (w0 : World) (pre : List (Value × List Bytes)) (W : World) : Prop :=
  ∃ v, Blk W bo [v] 22 ∧ W.ownsRow 0 9 1 v (Tr.pathL (pre.map Prod.snd) i).length ((Tr.pathL (pre.map Prod.snd) i).map vstr) ∧ Blk W bi [.int .i64 (i / 2 ^ pre.length : Nat)] 3 ∧ (∀ b ∈ v.ownBlock.toList, w0.heap.size ≤ b) ∧ Chg [bi, bo] w0 W
theorem pathI_cellish {bi bo i B : Nat} {w0 : World} (pre : List (Value × List Bytes)) (hB : B = w0.heap.size) : Cellish B (PathI bi bo i w0 pre) := by
  subst hB
  refine ⟨?_, ?_, ?_⟩
  · rintro W o ⟨v, h1, h2, h3, h4, h5⟩
    exact ⟨v, h1.alloc o, row_keptB h2 ((Chg.refl _ _).alloc o), h3.alloc o, h4, h5.alloc o⟩
  · rintro W W' ⟨v, h1, h2, h3, h4, h5⟩ hg
    exact ⟨v, (hg.block bo h1.lt (by simp)).trans h1, row_keptB h2 (grown0_chg hg), (hg.block bi h3.lt (by simp)).trans h3, h4, h5.trans (grown0_chg hg) (by simp)⟩
  · rintro W l o o' hl ho hoc ⟨v, h1, h2, h3, h4, h5⟩
    refine ⟨v, put_cells ho hoc h1, ⟨h2.1, ?_⟩, put_cells ho hoc h3, h4, ⟨h5.os, h5.tape, h5.output, by simpa using h5.size, fun k hk hn => (World.putObj_heap_other (by omega)).trans (h5.block k hk hn)⟩⟩
    rcases h2.2 with h0 | ⟨g, cap, cur, rfl, hb, hg, rest⟩
    · exact .inl h0
    · exact .inr ⟨g, cap, cur, rfl, hb, put_cells ho hoc hg, rest⟩
end Go.Proofs.YtpeehlflhnhhjaaDoor
