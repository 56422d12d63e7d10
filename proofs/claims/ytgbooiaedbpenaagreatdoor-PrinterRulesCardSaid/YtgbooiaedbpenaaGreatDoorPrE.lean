/-
 Printer, layer 5: String of a builder at the head of a block.
-/
import Derived.Test.YtgbooiaedbpenaaGreatDoorPrD
namespace Go.Proofs.YtgbooiaedbpenaaGreatDoor
set_option linter.unusedVariables false
set_option linter.unusedSimpArgs false
open Go Go.RowKit Go.Shelf
attribute [local irreducible] Go.wpStill

theorem own_freeze {w : World} {g n : Nat} : Chg [g] w (w.freeze ⟨g, 0, none⟩ n) := by
 unfold World.freeze
 split
 · exact Chg.refl _ _
 · exact ⟨rfl, rfl, rfl, by simp, fun k hk hn => by
    simp only [Array.getElem?_modify]
    rw [if_neg (fun e => hn (by simp [e]))]⟩
set_option maxHeartbeats 2000000 in
set_option maxRecDepth 100000 in
theorem string_w {T : TypeId} (b : Nat) (w : World) (out : Bytes) (rest : List Value) (v : Value) (HW : Hid (BW T b out rest v w)) :
 Calls Tryz.prog 43 #[.pointer (some ⟨b, 0, none⟩)] w fun e w' => e = .returned (.string ⟨out.toArray⟩) ∧ Chg v.ownBlock.toList w w' := by
 have mixed : Tryz.prog.follows .mixedOrders = true := by kernel_rfl
 obtain ⟨p, _, hb⟩ := HW.out.blk
 by_cases h0 : out = []
 · have hv := HW.out.nil h0
   subst h0
   subst hv
   have hUS : (Builtin.unsafeString_ #[157, 3] 9 #[.pointer none, .int .i64 0]).run Tryz.prog w.drew = .ok (.string .empty) w.drew := Lib.run_unsafeString_none w.drew _ _ _ none
   have c1 : w.drew.cell? ⟨b, 1, none⟩ = some (.slice none 0 0) := hb.drew.cell (i := 1) rfl
   have hSD : (Builtin.unsafeSliceData_ #[73] 157 #[.slice none 0 0]).run Tryz.prog w.drew = .ok (.pointer none) w.drew := rfl
   clear hb
   go_enter Tryz.func43, Tryz.ntmps43
   go_wp2_with fail
   go_region_o
   all_goals (go_wp2_with fail; go_ret; exact ⟨rfl, (Chg.refl _ _).drew⟩)
 · have hl0 : out.length ≠ 0 := by simpa using h0
   have hown := HW.out.own
   obtain ⟨g, cap, cur, rfl, hbg, hg, hnc, hcm, hcs, htake⟩ : ∃ g cap cur, v = .slice (some ⟨g, 0, none⟩) out.length cap ∧ b + 1 ≤ g ∧ w.heap[g]? = some (.cells cur 5 (0, 0)) ∧ out.length ≤ cap ∧ cap ≤ maxLen ∧ cur.size = cap * 1 ∧ cur.toList.take (out.length * 1) = Lib.byteCells out := by
    rcases hown.2 with ⟨_, hz⟩ | ⟨g, cap, cur, hv, r⟩
    · exact absurd hz hl0
    · exact ⟨g, cap, cur, hv, r⟩
   have c1 : w.drew.cell? ⟨b, 1, none⟩ = some (.slice (some ⟨g, 0, none⟩) out.length cap) := hb.drew.cell (i := 1) rfl
   have hSD : (Builtin.unsafeSliceData_ #[73] 157 #[.slice (some ⟨g, 0, none⟩) out.length cap]).run Tryz.prog w.drew = .ok (.pointer (some ⟨g, 0, none⟩)) w.drew :=
    Lib.run_unsafeSliceData_row _ _ _ _ _ _ (by omega)
   have hUS : (Builtin.unsafeString_ #[157, 3] 9 #[.pointer (some ⟨g, 0, none⟩), .int .i64 out.length]).run Tryz.prog w.drew = .ok (.string ⟨out.toArray⟩) (w.drew.freeze ⟨g, 0, none⟩ out.length) := by
    refine Lib.run_unsafeString_row w.drew 157 3 9 5 Tryz.underlying157 (by kernel_rfl) g cur.size (by have hg' : w.drew.heap[g]? = some (.cells cur 5 (0, 0)) := hg; simp [World.shape?, hg']) out h0 (by omega) (by unfold maxLen at hcm; omega) ?_
    intro j x hx
    exact hown.cells (g := g) rfl j (.int .u8 x.toNat) (by simp [Lib.byteCells, hx])
   have HGL : Hid (g < w.heap.size) := hd (Array.getElem?_eq_some_iff.1 hg).1
   clear hb hown hg htake hcs hcm hnc hbg
   go_enter Tryz.func43, Tryz.ntmps43
   go_wp2_with fail
   go_region_o
   all_goals (go_wp2_with fail; go_ret; exact ⟨rfl, show Chg [g] w _ from ((Chg.refl [g] w).drew).trans (own_freeze (g := g)) (fun k hk => .inl hk)⟩)
end Go.Proofs.YtgbooiaedbpenaaGreatDoor
