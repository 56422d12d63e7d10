/-
  Plan, layer 7: box. Printed by genpng06.py.
-/
import Derived.Test.YtocadlcglgpdcaaDoorPnF
namespace Go.Proofs.YtocadlcglgpdcaaDoor
set_option linter.unusedVariables false
set_option linter.unusedSimpArgs false
open Go Go.RowKit Go.Shelf
open Lx (Tk)
def bxc (x : Pn.Bx) : List Value := [.int .i64 (x.x : Nat), .int .i64 (x.y : Nat), .int .i64 (x.x2 : Nat), .int .i64 (x.y2 : Nat)]
def BoxV (x : Pn.Bx) (v : Value) (w : World) : Prop := v = .agg #[.int .i64 (x.x : Nat), .int .i64 (x.y : Nat), .int .i64 (x.x2 : Nat), .int .i64 (x.y2 : Nat)]
set_option maxHeartbeats 1000000 in
theorem box_spec (w : World) (b en : Nat) (l : List Tk) (HP : Hid (Pp w b l en)) : Calls Tryd.prog 50 #[.pointer (some ⟨b, 0, none⟩)] w fun e w' => PRes w b en BoxV (Pn.box l) e w' := by
  have HBW : Hid (b < w.heap.size) := Lib.hid HP.out.lt
  go_enter Tryd.func50, Tryd.ntmps50
  go_upto_region 1 with fail
  obtain ⟨W1, hW⟩ : ∃ W, W = (w.alloc (.cells #[.int .i64 0, .int .i64 0, .int .i64 0, .int .i64 0] 56)) := ⟨_, rfl⟩
  rw [← hW]
  obtain ⟨X2, hX2⟩ : ∃ T, T = w.heap.size := ⟨_, rfl⟩
  try rw [← hX2]
  have OX2 : Hid (w.heap.size ≤ X2) := Lib.hid (by rw [hX2]; exact Nat.le_refl _)
  have HX2_1 : Hid (Blk W1 X2 [.int .i64 0, .int .i64 0, .int .i64 0, .int .i64 0] 56) := Lib.hid (by
    have h1 := Blk.new w [.int .i64 0, .int .i64 0, .int .i64 0, .int .i64 0] 56
    have h2 : w.heap.size = X2 := by simp [hX2]
    rw [h2] at h1
    rw [hW]
    exact h1)
  have BX2 : Hid (b < X2) := Lib.hid (by have h1 := HBW.out; have OX2_ := OX2.out; omega)
  have C1 : Hid (Chg [b] w W1) := Lib.hid (by rw [hW]; exact ((Chg.refl [b] w).alloc _))
  have KP_1 : Hid (Chg [] w W1) := Lib.hid (by rw [hW]; exact ((Chg.refl [] w).alloc _))
  have MP_X2 : Hid (w.heap.size ≤ X2) := Lib.hid (by rw [hX2]; have h1 := (Chg.refl [] w).size; omega)
  clear hW hX2
  go_wp2_with fail
  obtain ⟨W2, hW⟩ : ∃ W, W = (W1.alloc (.cells #[.pointer (some ⟨X2, 0, none⟩), .pointer (some ⟨X2, 1, none⟩), .pointer (some ⟨X2, 2, none⟩), .pointer (some ⟨X2, 3, none⟩)] 73)) := ⟨_, rfl⟩
  rw [← hW]
  obtain ⟨G1, hG1⟩ : ∃ T, T = W1.heap.size := ⟨_, rfl⟩
  try rw [← hG1]
  have OG1 : Hid (X2 < G1) := Lib.hid (by rw [hG1]; exact HX2_1.out.lt)
  have HX2_2 : Hid (Blk W2 X2 [.int .i64 0, .int .i64 0, .int .i64 0, .int .i64 0] 56) := Lib.hid (by rw [hW]; exact (HX2_1.out.alloc _))
  have HG1_2 : Hid (Blk W2 G1 [.pointer (some ⟨X2, 0, none⟩), .pointer (some ⟨X2, 1, none⟩), .pointer (some ⟨X2, 2, none⟩), .pointer (some ⟨X2, 3, none⟩)] 73) := Lib.hid (by
    have h1 := Blk.new W1 [.pointer (some ⟨X2, 0, none⟩), .pointer (some ⟨X2, 1, none⟩), .pointer (some ⟨X2, 2, none⟩), .pointer (some ⟨X2, 3, none⟩)] 73
    have h2 : W1.heap.size = G1 := by simp [hG1]
    rw [h2] at h1
    rw [hW]
    exact h1)
  have BG1 : Hid (b < G1) := Lib.hid (by have h1 := HBW.out; have OX2_ := OX2.out; have OG1_ := OG1.out; omega)
  have C2 : Hid (Chg [b] w W2) := Lib.hid (by rw [hW]; exact (C1.out.alloc _))
  have KP_2 : Hid (Chg [] w W2) := Lib.hid (by rw [hW]; exact (KP_1.out.alloc _))
  have MP_G1 : Hid (w.heap.size ≤ G1) := Lib.hid (by rw [hG1]; have h1 := KP_1.out.size; omega)
  clear hW hG1
  have NG1_b : G1 ≠ b := by have h1 := HBW.out; have OX2_ := OX2.out; have OG1_ := OG1.out; omega
  have Nb_G1 : b ≠ G1 := NG1_b.symm
  have NG1_X2 : G1 ≠ X2 := by have h1 := OG1.out; omega
  refine num4_two (Lib.hid (HP.out.keep KP_2.out (by simp))) HG1_2 HX2_2 (Lib.hid ⟨BX2.out, NG1_b, NG1_X2⟩) (fun x r w1 HM HP1 HD1 HC1 => ?_) (fun c r w1 HM HCb => ?_)
  · skip
    have NX2_b : X2 ≠ b := by have h1 := HBW.out; have OX2_ := OX2.out; omega
    have Nb_X2 : b ≠ X2 := NX2_b.symm
    have HG1_3 : Hid (Blk w1 G1 [.pointer (some ⟨X2, 0, none⟩), .pointer (some ⟨X2, 1, none⟩), .pointer (some ⟨X2, 2, none⟩), .pointer (some ⟨X2, 3, none⟩)] 73) := Lib.hid (HC1.out.blk HG1_2.out (by simp [NG1_b, NG1_X2]))
    have C3 : Hid (Chg [b] w w1) := Lib.hid (C2.out.trans HC1.out (fun k hk => by simp only [List.mem_cons, List.not_mem_nil, or_false] at hk; rcases hk with h9 | h9; (rw [h9]; exact .inl (by simp)); (rw [h9]; exact .inr (by have OX2_ := OX2.out; show w.heap.size ≤ X2; omega))))
    have cX2_0 := HD1.out.cell (i := 0) rfl
    have cX2_1 := HD1.out.cell (i := 1) rfl
    have cX2_2 := HD1.out.cell (i := 2) rfl
    have cX2_3 := HD1.out.cell (i := 3) rfl
    have cX2_f0 := HD1.out.free 0
    have cX2_f1 := HD1.out.free 1
    have cX2_f2 := HD1.out.free 2
    have cX2_f3 := HD1.out.free 3
    go_wp2_with fail
    clear cX2_0 cX2_1 cX2_2 cX2_3 cX2_f0 cX2_f1 cX2_f2 cX2_f3
    obtain ⟨W4, hW⟩ : ∃ W, W = ((((w1.setCell ⟨X2, 0, none⟩ (.int .i64 (x.x : Nat))).setCell ⟨X2, 1, none⟩ (.int .i64 (x.y : Nat))).setCell ⟨X2, 2, none⟩ (.int .i64 (x.x2 : Nat))).setCell ⟨X2, 3, none⟩ (.int .i64 (x.y2 : Nat))) := ⟨_, rfl⟩
    rw [← hW]
    have HX2_4 : Hid (Blk W4 X2 [.int .i64 (x.x : Nat), .int .i64 (x.y : Nat), .int .i64 (x.x2 : Nat), .int .i64 (x.y2 : Nat)] 56) := Lib.hid (by rw [hW]; exact ((((HD1.out.set 0 (.int .i64 (x.x : Nat))).set 1 (.int .i64 (x.y : Nat))).set 2 (.int .i64 (x.x2 : Nat))).set 3 (.int .i64 (x.y2 : Nat))))
    have HG1_4 : Hid (Blk W4 G1 [.pointer (some ⟨X2, 0, none⟩), .pointer (some ⟨X2, 1, none⟩), .pointer (some ⟨X2, 2, none⟩), .pointer (some ⟨X2, 3, none⟩)] 73) := Lib.hid (by rw [hW]; exact ((((HG1_3.out.other _ _ NG1_X2).other _ _ NG1_X2).other _ _ NG1_X2).other _ _ NG1_X2))
    have C4 : Hid (Chg [b] w W4) := Lib.hid (by rw [hW]; exact ((((C3.out.setCell _ _ (.inr (by have OX2_ := OX2.out; show w.heap.size ≤ X2; omega))).setCell _ _ (.inr (by have OX2_ := OX2.out; show w.heap.size ≤ X2; omega))).setCell _ _ (.inr (by have OX2_ := OX2.out; show w.heap.size ≤ X2; omega))).setCell _ _ (.inr (by have OX2_ := OX2.out; show w.heap.size ≤ X2; omega))))
    have KP_4 : Hid (Chg [X2, G1] w1 W4) := Lib.hid (by rw [hW]; exact (((((Chg.refl [X2, G1] w1).setCell _ _ (.inl (by simp))).setCell _ _ (.inl (by simp))).setCell _ _ (.inl (by simp))).setCell _ _ (.inl (by simp))))
    clear hW
    (try simp only [Exit.inBlock, Exit.then])
    refine bodyPost_ret (results_cell_row rfl _ _ X2 56 #[.int .i64 (x.x : Nat), .int .i64 (x.y : Nat), .int .i64 (x.x2 : Nat), .int .i64 (x.y2 : Nat)] (0, 0) _ rfl HX2_4.out Tryd.underlying56 rfl (by kernel_rfl)) rfl (pgood C4.out HM.out rfl (HP1.out.keep KP_4.out (fun k hk => by simp only [List.mem_cons, List.not_mem_nil, or_false] at hk; rcases hk with rfl | rfl; exact BX2.out; exact BG1.out)))
  · go_wp2_with fail
    exact ⟨rfl, pbad (C2.out.trans HCb.out (fun k hk => by simp only [List.mem_cons, List.not_mem_nil, or_false] at hk; rcases hk with h9 | h9; (rw [h9]; exact .inl (by simp)); (rw [h9]; exact .inr (by have OX2_ := OX2.out; show w.heap.size ≤ X2; omega)))) HM.out⟩
theorem box_two {w : World} {b en : Nat} {l : List Tk} (HP : Hid (Pp w b l en)) {R : Ending → World → Prop}
    (hok : ∀ (x : Pn.Bx) (r : List Tk) (w' : World), Hid (Pn.box l = .ok x r) → Hid (Pp w' b r en) → Hid (Chg [b] w w') → R (.returned (.agg #[.int .i64 (x.x : Nat), .int .i64 (x.y : Nat), .int .i64 (x.x2 : Nat), .int .i64 (x.y2 : Nat)])) w')
    (hbad : ∀ (c : Nat) (r : List Tk) (w' : World), Hid (Pn.box l = .bad c r) → Hid (Chg [b] w w') → R (.panicked [{ v := flt c r en, recovered := false }]) w') :
    Calls Tryd.prog 50 #[.pointer (some ⟨b, 0, none⟩)] w R :=
  (box_spec w b en l HP).mono fun e w' h => pres_two h (fun a r v h1 h2 h3 h4 => by rw [show v = _ from h4]; exact hok a r w' h1 h2 h3) (fun c r h1 h2 => hbad c r w' h1 h2)
end Go.Proofs.YtocadlcglgpdcaaDoor

