/-
  Rule: the reference parser in memory: item, by kinds. Printed by genrnh07.py.
-/
import Derived.Test.YtmfjebpefneboaaDoorRnGH
namespace Go.Proofs.YtmfjebpefneboaaDoor
set_option linter.unusedVariables false
set_option linter.unusedSimpArgs false
open Go Go.RowKit Go.Shelf
open Lx (Tk)
open Rl (RSt)
set_option maxHeartbeats 8000000 in
set_option maxRecDepth 100000 in
theorem item_4 {w : World} {en : Nat} {s : RSt} {ao : Option Addr} {cap : Nat} (HT : Hid (TokS w (.slice ao s.l.length cap) s.l)) (HSM : Hid (Sm s.l)) (HN : Hid (s.l.length ≤ 100000)) (HKQ : Hid (RSt.lastIs s 1 Rl.kindsL 1 0 = 4)) {R : Ending → World → Prop}
    (h : ∀ (x : Rl.Itm) (uo : Option Addr) (uc : Nat) (s' : RSt) (ao' : Option Addr) (cap' : Nat) (w' : World), Hid (s.item en = (x, s')) → Hid (Suf ao cap s.l ao' cap' s'.l) → Hid (ListS w.heap.size 46 1 (Cr w.heap.size) x.whn (.slice uo x.whn.length uc) w') → Hid (Chg [] w w') → R (.returned (.tuple #[.agg #[.int .i64 (x.kind : Nat), .string ⟨x.name.toArray⟩, .slice uo x.whn.length uc, .int .i64 (x.n : Nat), .int .i64 (x.r.1 : Nat), .int .i64 (x.r.2 : Nat), .int .i64 (x.s.1 : Nat), .int .i64 (x.s.2 : Nat), .int .i64 (x.at_ : Nat)], .agg #[.slice ao' s'.l.length cap', .int .i64 (en : Int), .int .i64 (s'.err : Int), .int .i64 (s'.at_ : Int)]])) w') :
    Calls Tryd.prog 26 #[.agg #[.slice ao s.l.length cap, .int .i64 (en : Int), .int .i64 (s.err : Int), .int .i64 (s.at_ : Int)]] w R := by
  refine (show Calls Tryd.prog 26 #[.agg #[.slice ao s.l.length cap, .int .i64 (en : Int), .int .i64 (s.err : Int), .int .i64 (s.at_ : Int)]] w (fun e w' => ∃ x uo uc s' ao' cap', Hid (s.item en = (x, s')) ∧ Hid (Suf ao cap s.l ao' cap' s'.l) ∧ Hid (ListS w.heap.size 46 1 (Cr w.heap.size) x.whn (.slice uo x.whn.length uc) w') ∧ Hid (Chg [] w w') ∧ e = .returned (.tuple #[.agg #[.int .i64 (x.kind : Nat), .string ⟨x.name.toArray⟩, .slice uo x.whn.length uc, .int .i64 (x.n : Nat), .int .i64 (x.r.1 : Nat), .int .i64 (x.r.2 : Nat), .int .i64 (x.s.1 : Nat), .int .i64 (x.s.2 : Nat), .int .i64 (x.at_ : Nat)], .agg #[.slice ao' s'.l.length cap', .int .i64 (en : Int), .int .i64 (s'.err : Int), .int .i64 (s'.at_ : Int)]])) from ?_).mono (fun e w' hx => by obtain ⟨x, uo, uc, s', ao', cap', h1, h2, h3, h4, h5⟩ := hx; subst h5; exact h x uo uc s' ao' cap' w' h1 h2 h3 h4)
  clear h
  go_enter Tryd.func26, Tryd.ntmps26
  go_upto_region 1 with fail
  obtain ⟨W1, hW⟩ : ∃ W, W = (((w.alloc (.cells #[.slice ao s.l.length cap, .int .i64 (en : Int), .int .i64 (s.err : Int), .int .i64 (s.at_ : Int)] 63)).alloc (.cells #[.int .i64 0, .string ⟨#[]⟩, .slice none 0 0, .int .i64 0, .int .i64 0, .int .i64 0, .int .i64 0, .int .i64 0, .int .i64 0] 42)).alloc (.cells #[.slice none 0 0, .int .i64 0, .int .i64 0, .int .i64 0] 63)) := ⟨_, rfl⟩
  rw [← hW]
  obtain ⟨X3, hX3⟩ : ∃ T, T = w.heap.size + 1 + 1 := ⟨_, rfl⟩
  try rw [← hX3]
  obtain ⟨X2, hX2⟩ : ∃ T, T = w.heap.size + 1 := ⟨_, rfl⟩
  try rw [← hX2]
  obtain ⟨X1, hX1⟩ : ∃ T, T = w.heap.size := ⟨_, rfl⟩
  try rw [← hX1]
  have OX1 : Hid (w.heap.size ≤ X1) := Lib.hid (by rw [hX1]; exact Nat.le_refl _)
  have OX2 : Hid (X1 < X2) := Lib.hid (by rw [hX2, hX1]; omega)
  have OX3 : Hid (X2 < X3) := Lib.hid (by rw [hX3, hX2]; omega)
  have HX1_1 : Hid (Blk W1 X1 [.slice ao s.l.length cap, .int .i64 (en : Int), .int .i64 (s.err : Int), .int .i64 (s.at_ : Int)] 63) := Lib.hid (by
    have h1 := Blk.new w [.slice ao s.l.length cap, .int .i64 (en : Int), .int .i64 (s.err : Int), .int .i64 (s.at_ : Int)] 63
    have h2 : w.heap.size = X1 := by simp [hX1]
    rw [h2] at h1
    rw [hW]
    exact ((h1.alloc _).alloc _))
  have HX2_1 : Hid (Blk W1 X2 [.int .i64 0, .string ⟨#[]⟩, .slice none 0 0, .int .i64 0, .int .i64 0, .int .i64 0, .int .i64 0, .int .i64 0, .int .i64 0] 42) := Lib.hid (by
    have h1 := Blk.new (w.alloc (.cells #[.slice ao s.l.length cap, .int .i64 (en : Int), .int .i64 (s.err : Int), .int .i64 (s.at_ : Int)] 63)) [.int .i64 0, .string ⟨#[]⟩, .slice none 0 0, .int .i64 0, .int .i64 0, .int .i64 0, .int .i64 0, .int .i64 0, .int .i64 0] 42
    have h2 : (w.alloc (.cells #[.slice ao s.l.length cap, .int .i64 (en : Int), .int .i64 (s.err : Int), .int .i64 (s.at_ : Int)] 63)).heap.size = X2 := by simp [hX2]
    rw [h2] at h1
    rw [hW]
    exact (h1.alloc _))
  have HX3_1 : Hid (Blk W1 X3 [.slice none 0 0, .int .i64 0, .int .i64 0, .int .i64 0] 63) := Lib.hid (by
    have h1 := Blk.new ((w.alloc (.cells #[.slice ao s.l.length cap, .int .i64 (en : Int), .int .i64 (s.err : Int), .int .i64 (s.at_ : Int)] 63)).alloc (.cells #[.int .i64 0, .string ⟨#[]⟩, .slice none 0 0, .int .i64 0, .int .i64 0, .int .i64 0, .int .i64 0, .int .i64 0, .int .i64 0] 42)) [.slice none 0 0, .int .i64 0, .int .i64 0, .int .i64 0] 63
    have h2 : ((w.alloc (.cells #[.slice ao s.l.length cap, .int .i64 (en : Int), .int .i64 (s.err : Int), .int .i64 (s.at_ : Int)] 63)).alloc (.cells #[.int .i64 0, .string ⟨#[]⟩, .slice none 0 0, .int .i64 0, .int .i64 0, .int .i64 0, .int .i64 0, .int .i64 0, .int .i64 0] 42)).heap.size = X3 := by simp [hX3]
    rw [h2] at h1
    rw [hW]
    exact h1)
  have C1 : Hid (Chg [] w W1) := Lib.hid (by rw [hW]; exact ((((Chg.refl [] w).alloc _).alloc _).alloc _))
  clear hW hX1 hX2 hX3
  go_upto_region 2 with fail
  obtain ⟨W2, hW⟩ : ∃ W, W = (W1.alloc (.cells #[.int .i64 0, .string ⟨#[]⟩, .slice none 0 0, .int .i64 0, .int .i64 0, .int .i64 0, .int .i64 0, .int .i64 0, .int .i64 0] 42)) := ⟨_, rfl⟩
  rw [← hW]
  obtain ⟨T4, hT4⟩ : ∃ T, T = W1.heap.size := ⟨_, rfl⟩
  try rw [← hT4]
  have OT4 : Hid (X3 < T4) := Lib.hid (by rw [hT4]; exact HX3_1.out.lt)
  have HX1_2 : Hid (Blk W2 X1 [.slice ao s.l.length cap, .int .i64 (en : Int), .int .i64 (s.err : Int), .int .i64 (s.at_ : Int)] 63) := Lib.hid (by rw [hW]; exact (HX1_1.out.alloc _))
  have HX2_2 : Hid (Blk W2 X2 [.int .i64 0, .string ⟨#[]⟩, .slice none 0 0, .int .i64 0, .int .i64 0, .int .i64 0, .int .i64 0, .int .i64 0, .int .i64 0] 42) := Lib.hid (by rw [hW]; exact (HX2_1.out.alloc _))
  have HX3_2 : Hid (Blk W2 X3 [.slice none 0 0, .int .i64 0, .int .i64 0, .int .i64 0] 63) := Lib.hid (by rw [hW]; exact (HX3_1.out.alloc _))
  have HT4_2 : Hid (Blk W2 T4 [.int .i64 0, .string ⟨#[]⟩, .slice none 0 0, .int .i64 0, .int .i64 0, .int .i64 0, .int .i64 0, .int .i64 0, .int .i64 0] 42) := Lib.hid (by
    have h1 := Blk.new W1 [.int .i64 0, .string ⟨#[]⟩, .slice none 0 0, .int .i64 0, .int .i64 0, .int .i64 0, .int .i64 0, .int .i64 0, .int .i64 0] 42
    have h2 : W1.heap.size = T4 := by simp [hT4]
    rw [h2] at h1
    rw [hW]
    exact h1)
  have C2 : Hid (Chg [] w W2) := Lib.hid (by rw [hW]; exact (C1.out.alloc _))
  clear hW hT4
  go_upto_region 3 with fail
  obtain ⟨W3, hW⟩ : ∃ W, W = (W2.alloc (.cells #[.string ⟨#[97, 108, 108, 111, 119]⟩, .string ⟨#[100, 101, 110, 121]⟩, .string ⟨#[112, 114, 105, 99, 101]⟩, .string ⟨#[114, 101, 115, 97, 108, 101]⟩, .string ⟨#[114, 101, 102, 117, 110, 100]⟩, .string ⟨#[116, 111, 103, 101, 116, 104, 101, 114]⟩, .string ⟨#[115, 105, 110, 103, 108, 101]⟩] 9)) := ⟨_, rfl⟩
  rw [← hW]
  obtain ⟨T5, hT5⟩ : ∃ T, T = W2.heap.size := ⟨_, rfl⟩
  try rw [← hT5]
  have OT5 : Hid (T4 < T5) := Lib.hid (by rw [hT5]; exact HT4_2.out.lt)
  have HX1_3 : Hid (Blk W3 X1 [.slice ao s.l.length cap, .int .i64 (en : Int), .int .i64 (s.err : Int), .int .i64 (s.at_ : Int)] 63) := Lib.hid (by rw [hW]; exact (HX1_2.out.alloc _))
  have HX2_3 : Hid (Blk W3 X2 [.int .i64 0, .string ⟨#[]⟩, .slice none 0 0, .int .i64 0, .int .i64 0, .int .i64 0, .int .i64 0, .int .i64 0, .int .i64 0] 42) := Lib.hid (by rw [hW]; exact (HX2_2.out.alloc _))
  have HX3_3 : Hid (Blk W3 X3 [.slice none 0 0, .int .i64 0, .int .i64 0, .int .i64 0] 63) := Lib.hid (by rw [hW]; exact (HX3_2.out.alloc _))
  have HT4_3 : Hid (Blk W3 T4 [.int .i64 0, .string ⟨#[]⟩, .slice none 0 0, .int .i64 0, .int .i64 0, .int .i64 0, .int .i64 0, .int .i64 0, .int .i64 0] 42) := Lib.hid (by rw [hW]; exact (HT4_2.out.alloc _))
  have HT5_3 : Hid (Blk W3 T5 [.string ⟨#[97, 108, 108, 111, 119]⟩, .string ⟨#[100, 101, 110, 121]⟩, .string ⟨#[112, 114, 105, 99, 101]⟩, .string ⟨#[114, 101, 115, 97, 108, 101]⟩, .string ⟨#[114, 101, 102, 117, 110, 100]⟩, .string ⟨#[116, 111, 103, 101, 116, 104, 101, 114]⟩, .string ⟨#[115, 105, 110, 103, 108, 101]⟩] 9) := Lib.hid (by
    have h1 := Blk.new W2 [.string ⟨#[97, 108, 108, 111, 119]⟩, .string ⟨#[100, 101, 110, 121]⟩, .string ⟨#[112, 114, 105, 99, 101]⟩, .string ⟨#[114, 101, 115, 97, 108, 101]⟩, .string ⟨#[114, 101, 102, 117, 110, 100]⟩, .string ⟨#[116, 111, 103, 101, 116, 104, 101, 114]⟩, .string ⟨#[115, 105, 110, 103, 108, 101]⟩] 9
    have h2 : W2.heap.size = T5 := by simp [hT5]
    rw [h2] at h1
    rw [hW]
    exact h1)
  have C3 : Hid (Chg [] w W3) := Lib.hid (by rw [hW]; exact (C2.out.alloc _))
  clear hW hT5
  go_wp2_with fail
  go_loopw [6] (fun i wr => ∃ (j op : Nat), i = .int .i64 (j : Int) ∧ j ≤ 7 ∧ Hid (op = RSt.lastIs s 1 (Rl.kindsL.take j) 1 0) ∧ Hid (Blk wr T4 [.int .i64 (op : Nat), .string ⟨#[]⟩, .slice none 0 0, .int .i64 0, .int .i64 0, .int .i64 0, .int .i64 0, .int .i64 0, .int .i64 0] 42) ∧ Hid (Chg [T4] W3 wr)) (fun i _ => 7 - (intOf i).toNat)
  case atStart => exact ⟨0, 0, rfl, Nat.zero_le _, Lib.hid rfl, HT4_3, Lib.hid (Chg.refl _ _)⟩
  case round =>
    obtain ⟨j, op, rfl, hj, HOP, HT4, HCL⟩ := hrel
    have NX1_T4 : X1 ≠ T4 := by have OX2_ := OX2.out; have OX3_ := OX3.out; have OT4_ := OT4.out; omega
    have NT4_X1 : T4 ≠ X1 := NX1_T4.symm
    have NX2_T4 : X2 ≠ T4 := by have OX3_ := OX3.out; have OT4_ := OT4.out; omega
    have NT4_X2 : T4 ≠ X2 := NX2_T4.symm
    have NX3_T4 : X3 ≠ T4 := by have OT4_ := OT4.out; omega
    have NT4_X3 : T4 ≠ X3 := NX3_T4.symm
    have NT5_T4 : T5 ≠ T4 := by have OT5_ := OT5.out; omega
    have NT4_T5 : T4 ≠ T5 := NT5_T4.symm
    have HX1_4 : Hid (Blk wr X1 [.slice ao s.l.length cap, .int .i64 (en : Int), .int .i64 (s.err : Int), .int .i64 (s.at_ : Int)] 63) := Lib.hid (HCL.out.blk HX1_3.out (by simp [NX1_T4]))
    have HX2_4 : Hid (Blk wr X2 [.int .i64 0, .string ⟨#[]⟩, .slice none 0 0, .int .i64 0, .int .i64 0, .int .i64 0, .int .i64 0, .int .i64 0, .int .i64 0] 42) := Lib.hid (HCL.out.blk HX2_3.out (by simp [NX2_T4]))
    have HX3_4 : Hid (Blk wr X3 [.slice none 0 0, .int .i64 0, .int .i64 0, .int .i64 0] 63) := Lib.hid (HCL.out.blk HX3_3.out (by simp [NX3_T4]))
    have HT5_4 : Hid (Blk wr T5 [.string ⟨#[97, 108, 108, 111, 119]⟩, .string ⟨#[100, 101, 110, 121]⟩, .string ⟨#[112, 114, 105, 99, 101]⟩, .string ⟨#[114, 101, 115, 97, 108, 101]⟩, .string ⟨#[114, 101, 102, 117, 110, 100]⟩, .string ⟨#[116, 111, 103, 101, 116, 104, 101, 114]⟩, .string ⟨#[115, 105, 110, 103, 108, 101]⟩] 9) := Lib.hid (HCL.out.blk HT5_3.out (by simp [NT5_T4]))
    have C4 : Hid (Chg [] w wr) := Lib.hid (C3.out.trans HCL.out (fun k hk => .inr (by have OX1_ := OX1.out; have OX2_ := OX2.out; have OX3_ := OX3.out; have OT4_ := OT4.out; simp only [List.mem_cons, List.not_mem_nil, or_false] at hk; omega)))
    by_cases hlt : j < 7
    · skip
      obtain ⟨x, hx⟩ : ∃ x, Rl.kindsL[j]? = some x := ⟨Rl.kindsL[j]'(by show j < 7; omega), List.getElem?_eq_getElem _⟩
      have hxc : wr.cell? ⟨T5, j, none⟩ = some (.string ⟨x.toArray⟩) := HT5_4.out.cell (i := j) (by
        show (Rl.kindsL.map (fun x => Value.string ⟨x.toArray⟩))[j]? = _
        rw [List.getElem?_map, hx]
        rfl)
      have HXC := Lib.hid hxc
      have HXX := Lib.hid hx
      clear hxc hx
      have q0 : (0 : Int) ≤ (j : Int) := by omega
      have q1 : (j : Int) < 7 := by omega
      have qj : ((j : Int)).toNat = j := by omega
      obtain ⟨j1, hj1⟩ : ∃ j1, j1 = j + 1 := ⟨_, rfl⟩
      have HJ1 : Hid (((j : Int) + 1) = (j1 : Int)) := Lib.hid (by omega)
      go_upto_region 6 with fail
      refine wp_region_held_drew (S := fun W' => Chg [] wr W') (by kernel_rfl) (Chg.refl _ _).drew (fun hHeld => ?_)
      refine wpAnyH_take (i := 0) (v := ?vu0) rfl (by kernel_rfl) (by kernel_rfl) (by kernel_rfl) (fun _ _ _ h => h) (Or.inl ⟨by kernel_rfl, ?hyu0⟩) (by assumption) ?rsu0
      case hyu0 => (intro w9 hSw; have e0 := cell_quiet hSw (HX1_4.out.cell (i := 0) rfl) (by simp); have e1 := cell_quiet hSw (HX1_4.out.cell (i := 1) rfl) (by simp); have e2 := cell_quiet hSw (HX1_4.out.cell (i := 2) rfl) (by simp); have e3 := cell_quiet hSw (HX1_4.out.cell (i := 3) rfl) (by simp); go_simp; try with_reducible rfl)
      try simp only [Act.put, List.setIfInBounds_toArray, List.set_cons_zero, List.set_cons_succ, List.getElem_toArray, List.getElem_cons_succ, List.getElem_cons_zero]
      refine wpAnyH_take (i := 1) (v := ?vu1) rfl (by kernel_rfl) (by kernel_rfl) (by kernel_rfl) (fun _ _ _ h => h) (Or.inl ⟨by kernel_rfl, ?hyu1⟩) (by assumption) ?rsu1
      case hyu1 => (intro w9 hSw; skip; go_simp; try with_reducible rfl)
      try simp only [Act.put, List.setIfInBounds_toArray, List.set_cons_zero, List.set_cons_succ, List.getElem_toArray, List.getElem_cons_succ, List.getElem_cons_zero]
      refine wpAnyH_take (i := 2) (v := ?vu2) rfl (by kernel_rfl) (by kernel_rfl) (by kernel_rfl) (fun _ _ _ h => h) (Or.inl ⟨by kernel_rfl, ?hyu2⟩) (by assumption) ?rsu2
      case hyu2 => (intro w9 hSw; skip; go_simp; try with_reducible rfl)
      try simp only [Act.put, List.setIfInBounds_toArray, List.set_cons_zero, List.set_cons_succ, List.getElem_toArray, List.getElem_cons_succ, List.getElem_cons_zero]
      refine wpAnyH_take (i := 3) (v := ?vu3) rfl (by kernel_rfl) (by kernel_rfl) (by kernel_rfl) (fun _ _ _ h => h) (Or.inl ⟨by kernel_rfl, ?hyu3⟩) (by assumption) ?rsu3
      case hyu3 => (intro w9 hSw; skip; go_simp; try with_reducible rfl)
      try simp only [Act.put, List.setIfInBounds_toArray, List.set_cons_zero, List.set_cons_succ, List.getElem_toArray, List.getElem_cons_succ, List.getElem_cons_zero]
      refine wpAnyH_take (i := 4) (v := ?vu4) rfl (by kernel_rfl) (by kernel_rfl) (by kernel_rfl) (fun _ _ _ h => h) (Or.inl ⟨by kernel_rfl, ?hyu4⟩) (by assumption) ?rsu4
      case hyu4 => (intro w9 hSw; have e := cell_quiet hSw HXC.out (by simp); go_simp; try with_reducible rfl)
      try simp only [Act.put, List.setIfInBounds_toArray, List.set_cons_zero, List.set_cons_succ, List.getElem_toArray, List.getElem_cons_succ, List.getElem_cons_zero]
      refine wpAnyH_ready (rs := [5]) (by kernel_rfl) (by simp) (AllReadyH.cons rfl (fun K hK => ?_) AllReadyH.nil)
      go_simp
      refine is_r (Lib.hid (HT.out.quiet (C4.out.drew))) 1 x (fun b w9 HB9 D9 => ?_)
      refine hK.out _ _ (hHeld.trans D9.out (by simp)) (fun hHeld => ?_)
      clear hK K
      try simp only [Act.put, List.setIfInBounds_toArray, List.set_cons_zero, List.set_cons_succ, List.getElem_toArray, List.getElem_cons_succ, List.getElem_cons_zero]
      refine wpAnyH_done (by kernel_rfl) ?_ _
      try simp only [Act.put, List.setIfInBounds_toArray, List.set_cons_zero, List.set_cons_succ, List.getElem_toArray, List.getElem_cons_succ, List.getElem_cons_zero]
      have HHu := Lib.hid hHeld
      clear hHeld
      have HT4_5 : Hid (Blk w9 T4 [.int .i64 (op : Nat), .string ⟨#[]⟩, .slice none 0 0, .int .i64 0, .int .i64 0, .int .i64 0, .int .i64 0, .int .i64 0, .int .i64 0] 42) := Lib.hid (HHu.out.blk HT4.out (by simp))
      have HNX : Hid (RSt.lastIs s 1 (Rl.kindsL.take j1) 1 0 = if b = true then j1 else op) := Lib.hid (by
        rw [hj1, take_snoc HXX.out, lastIs_snoc, HB9.out, ← HOP.out, List.length_take]
        have : 1 + min j Rl.kindsL.length = j + 1 := by show 1 + min j 7 = j + 1; omega
        rw [this])
      have HCL9 : Hid (Chg [T4] W3 w9) := Lib.hid (HCL.out.trans HHu.out (by simp))
      cases b with
      | true =>
        have cT4_0 := HT4_5.out.cell (i := 0) rfl
        have cT4_1 := HT4_5.out.cell (i := 1) rfl
        have cT4_2 := HT4_5.out.cell (i := 2) rfl
        have cT4_3 := HT4_5.out.cell (i := 3) rfl
        have cT4_4 := HT4_5.out.cell (i := 4) rfl
        have cT4_5 := HT4_5.out.cell (i := 5) rfl
        have cT4_6 := HT4_5.out.cell (i := 6) rfl
        have cT4_7 := HT4_5.out.cell (i := 7) rfl
        have cT4_8 := HT4_5.out.cell (i := 8) rfl
        have cT4_f0 := HT4_5.out.free 0
        have cT4_f1 := HT4_5.out.free 1
        have cT4_f2 := HT4_5.out.free 2
        have cT4_f3 := HT4_5.out.free 3
        have cT4_f4 := HT4_5.out.free 4
        have cT4_f5 := HT4_5.out.free 5
        have cT4_f6 := HT4_5.out.free 6
        have cT4_f7 := HT4_5.out.free 7
        have cT4_f8 := HT4_5.out.free 8
        go_wp2_with fail
        clear cT4_0 cT4_1 cT4_2 cT4_3 cT4_4 cT4_5 cT4_6 cT4_7 cT4_8 cT4_f0 cT4_f1 cT4_f2 cT4_f3 cT4_f4 cT4_f5 cT4_f6 cT4_f7 cT4_f8
        rw [HJ1.out]
        refine ⟨?_, by simp [intOf]; omega⟩
        have HX9 : Hid (Blk (w9.setCell ⟨T4, 0, none⟩ (.int .i64 (j1 : Nat))) T4 [.int .i64 (j1 : Nat), .string ⟨#[]⟩, .slice none 0 0, .int .i64 0, .int .i64 0, .int .i64 0, .int .i64 0, .int .i64 0, .int .i64 0] 42) := Lib.hid (HT4_5.out.set 0 _)
        have HC9 : Hid (Chg [T4] W3 (w9.setCell ⟨T4, 0, none⟩ (.int .i64 (j1 : Nat)))) := Lib.hid (HCL9.out.setCell _ _ (.inl (by simp)))
        have HNY : Hid (j1 = RSt.lastIs s 1 (Rl.kindsL.take j1) 1 0) := Lib.hid (by rw [HNX.out]; rfl)
        first | exact ⟨j1, j1, rfl, by omega, HNY, HX9, HC9⟩ | ((repeat apply Exists.intro); exact ⟨⟨j1, j1, rfl, by omega, HNY, HX9, HC9⟩, rfl⟩)
      | false =>
        go_wp2_with fail
        rw [HJ1.out]
        refine ⟨?_, by simp [intOf]; omega⟩
        have HNY : Hid (op = RSt.lastIs s 1 (Rl.kindsL.take j1) 1 0) := Lib.hid (by rw [HNX.out]; rfl)
        first | exact ⟨j1, op, rfl, by omega, HNY, HT4_5, HCL9⟩ | ((repeat apply Exists.intro); exact ⟨⟨j1, op, rfl, by omega, HNY, HT4_5, HCL9⟩, rfl⟩)
    · obtain rfl : j = 7 := by omega
      obtain ⟨kd, hkd⟩ : ∃ kd, kd = op := ⟨_, rfl⟩
      subst hkd
      have HKD : Hid (RSt.lastIs s 1 Rl.kindsL 1 0 = kd) := Lib.hid HOP.out.symm
      clear hlt hj
      clear HT5_4
      have cT4_0 := HT4.out.cell (i := 0) rfl
      have cT4_1 := HT4.out.cell (i := 1) rfl
      have cT4_2 := HT4.out.cell (i := 2) rfl
      have cT4_3 := HT4.out.cell (i := 3) rfl
      have cT4_4 := HT4.out.cell (i := 4) rfl
      have cT4_5 := HT4.out.cell (i := 5) rfl
      have cT4_6 := HT4.out.cell (i := 6) rfl
      have cT4_7 := HT4.out.cell (i := 7) rfl
      have cT4_8 := HT4.out.cell (i := 8) rfl
      go_upto_if 41 with fail
      clear cT4_0 cT4_1 cT4_2 cT4_3 cT4_4 cT4_5 cT4_6 cT4_7 cT4_8
      have h0 : ¬ kd = 0 := by rw [← HKD.out, HKQ.out]; decide
      have q2 : ((kd : Int) == 0) = false := beq_eq_false_iff_ne.2 (by omega)
      obtain ⟨her, tk, rr, hl⟩ := lastIs_cons (s := s) (k := 1) (l := Rl.kindsL) (i := 1) (o := 0) (by rw [HKD.out]; exact h0)
      have HKN := Lib.hid h0
      have HHD : Hid (s.hd.at_ = tk.at_) := Lib.hid (by unfold RSt.hd; rw [hl]; rfl)
      obtain ⟨s2, hs2⟩ : ∃ s2, s2 = s.tl := ⟨_, rfl⟩
      have HS2E := Lib.hid hs2
      have hl2 : s2.l = rr := by rw [hs2]; unfold RSt.tl; rw [hl]; rfl
      obtain ⟨rn, hrn⟩ : ∃ n, rr.length = n := ⟨_, rfl⟩
      have hn1 : s.l.length = rn + 1 := by rw [hl, ← hrn]; rfl
      have hn2 : s2.l.length = rn := by rw [hl2, hrn]
      have he2 : s2.err = s.err ∧ s2.at_ = s.at_ := by rw [hs2]; exact ⟨rfl, rfl⟩
      have hsuf : ∀ g off, ao = some ⟨g, off, none⟩ → rn + 1 ≤ cap → ∀ off' cap', (rr ≠ [] → off' = off + 4) → rn ≤ cap' → Suf ao cap s.l (some ⟨g, off', none⟩) cap' s2.l := by
        intro g off e1 _ off' cap' h1 h2 v hv
        rw [hl2]
        rw [hl, e1] at hv
        exact TokS.tl hv h1 (by rw [hrn]; exact h2)
      have hhd := HT.out
      rw [hl] at hhd
      obtain ⟨g, off, hao, -, hcap, -, -, -, k3⟩ := hhd.hd
      rw [hrn] at hcap
      have HK3 := Lib.hid k3
      have HSUF := Lib.hid (hsuf g off hao hcap)
      have HCAP := Lib.hid hcap
      have HRN := Lib.hid hrn
      have HN2 := Lib.hid hn2
      have HE2 := Lib.hid he2
      have HN1 := Lib.hid hn1
      have HAO := Lib.hid hao
      clear hsuf hcap hs2 hl2 hn2 he2 hhd hl hrn h0 k3
      have z0 := HX1_4.out.cell (i := 0) rfl
      have z1 := HX1_4.out.cell (i := 1) rfl
      have z2 := HX1_4.out.cell (i := 2) rfl
      have z3 := HX1_4.out.cell (i := 3) rfl
      have cT4_0 := HT4.out.cell (i := 0) rfl
      have cT4_1 := HT4.out.cell (i := 1) rfl
      have cT4_2 := HT4.out.cell (i := 2) rfl
      have cT4_3 := HT4.out.cell (i := 3) rfl
      have cT4_4 := HT4.out.cell (i := 4) rfl
      have cT4_5 := HT4.out.cell (i := 5) rfl
      have cT4_6 := HT4.out.cell (i := 6) rfl
      have cT4_7 := HT4.out.cell (i := 7) rfl
      have cT4_8 := HT4.out.cell (i := 8) rfl
      have cT4_f0 := HT4.out.free 0
      have cT4_f1 := HT4.out.free 1
      have cT4_f2 := HT4.out.free 2
      have cT4_f3 := HT4.out.free 3
      have cT4_f4 := HT4.out.free 4
      have cT4_f5 := HT4.out.free 5
      have cT4_f6 := HT4.out.free 6
      have cT4_f7 := HT4.out.free 7
      have cT4_f8 := HT4.out.free 8
      rw [HAO.out, HN1.out] at z0
      have k3 := cell_quiet C4.out HK3.out (by simp)
      have n1 : (0 : Int) < (rn : Int) + 1 := by omega
      clear hao hn1
      go_upto_region 11 with fail
      clear k3 n1 z0 z1 z2 z3 cT4_0 cT4_1 cT4_2 cT4_3 cT4_4 cT4_5 cT4_6 cT4_7 cT4_8 cT4_f0 cT4_f1 cT4_f2 cT4_f3 cT4_f4 cT4_f5 cT4_f6 cT4_f7 cT4_f8
      obtain ⟨W5, hW⟩ : ∃ W, W = (wr.setCell ⟨T4, 8, none⟩ (.int .i64 (tk.at_ : Nat))) := ⟨_, rfl⟩
      rw [← hW]
      have HX1_5 : Hid (Blk W5 X1 [.slice ao s.l.length cap, .int .i64 (en : Int), .int .i64 (s.err : Int), .int .i64 (s.at_ : Int)] 63) := Lib.hid (by rw [hW]; exact (HX1_4.out.other _ _ NX1_T4))
      have HX2_5 : Hid (Blk W5 X2 [.int .i64 0, .string ⟨#[]⟩, .slice none 0 0, .int .i64 0, .int .i64 0, .int .i64 0, .int .i64 0, .int .i64 0, .int .i64 0] 42) := Lib.hid (by rw [hW]; exact (HX2_4.out.other _ _ NX2_T4))
      have HX3_5 : Hid (Blk W5 X3 [.slice none 0 0, .int .i64 0, .int .i64 0, .int .i64 0] 63) := Lib.hid (by rw [hW]; exact (HX3_4.out.other _ _ NX3_T4))
      have HT4_5 : Hid (Blk W5 T4 [.int .i64 (kd : Nat), .string ⟨#[]⟩, .slice none 0 0, .int .i64 0, .int .i64 0, .int .i64 0, .int .i64 0, .int .i64 0, .int .i64 (tk.at_ : Nat)] 42) := Lib.hid (by rw [hW]; exact (HT4.out.set 8 (.int .i64 (tk.at_ : Nat))))
      have C5 : Hid (Chg [] w W5) := Lib.hid (by rw [hW]; exact (C4.out.setCell _ _ (.inr (by have OX1_ := OX1.out; have OX2_ := OX2.out; have OX3_ := OX3.out; have OT4_ := OT4.out; show w.heap.size ≤ T4; omega))))
      clear hW
      have z0 := HX1_5.out.cell (i := 0) rfl
      have z1 := HX1_5.out.cell (i := 1) rfl
      have z2 := HX1_5.out.cell (i := 2) rfl
      have z3 := HX1_5.out.cell (i := 3) rfl
      have zf0 := HX1_5.out.free 0
      have zf1 := HX1_5.out.free 1
      have zf2 := HX1_5.out.free 2
      have zf3 := HX1_5.out.free 3
      rw [HAO.out, HN1.out] at z0
      go_cut [53] from 51 (fun v wc => ∃ off' cap', v = .slice (some ⟨g, off', none⟩) s2.l.length cap' ∧ (rr ≠ [] → off' = off + 4) ∧ rn ≤ cap' ∧ wc = W5.setCell ⟨X1, 0, none⟩ (.slice (some ⟨g, off', none⟩) s2.l.length cap'))
      case first =>
        have hcap := HCAP.out
        by_cases hc1 : cap = 1
        · subst hc1
          obtain rfl : rn = 0 := by omega
          go_wp2_with fail
          go_meet
          case rel => exact ⟨off, 0, by rw [HN2.out], fun h => absurd (List.eq_nil_of_length_eq_zero HRN.out) h, Nat.le_refl _, by rw [HN2.out]⟩
        · obtain ⟨c, rfl⟩ : ∃ c, cap = c + 2 := ⟨cap - 2, by omega⟩
          go_wp2_with fail
          go_meet
          case rel => exact ⟨off + 4, c + 1, by rw [HN2.out], fun _ => rfl, by omega, by rw [HN2.out]⟩
      case rest =>
        obtain ⟨off', cap2, rfl, hof, hcp, hwc⟩ := hcut
        have HS2 := Lib.hid (HSUF.out off' cap2 hof hcp)
        clear hof hcp z0 z1 z2 z3 zf0 zf1 zf2 zf3
        subst hwc
        obtain ⟨ao2, hao2⟩ : ∃ a : Option Addr, a = some ⟨g, off', none⟩ := ⟨_, rfl⟩
        rw [← hao2] at HS2 ⊢
        clear hao2
        have NX2_X1 : X2 ≠ X1 := by have OX2_ := OX2.out; omega
        have NX1_X2 : X1 ≠ X2 := NX2_X1.symm
        have NX3_X1 : X3 ≠ X1 := by have OX2_ := OX2.out; have OX3_ := OX3.out; omega
        have NX1_X3 : X1 ≠ X3 := NX3_X1.symm
        obtain ⟨W6, hW⟩ : ∃ W, W = (W5.setCell ⟨X1, 0, none⟩ (.slice ao2 s2.l.length cap2)) := ⟨_, rfl⟩
        rw [← hW]
        have HX1_6 : Hid (Blk W6 X1 [.slice ao2 s2.l.length cap2, .int .i64 (en : Int), .int .i64 (s.err : Int), .int .i64 (s.at_ : Int)] 63) := Lib.hid (by rw [hW]; exact (HX1_5.out.set 0 (.slice ao2 s2.l.length cap2)))
        have HX2_6 : Hid (Blk W6 X2 [.int .i64 0, .string ⟨#[]⟩, .slice none 0 0, .int .i64 0, .int .i64 0, .int .i64 0, .int .i64 0, .int .i64 0, .int .i64 0] 42) := Lib.hid (by rw [hW]; exact (HX2_5.out.other _ _ NX2_X1))
        have HX3_6 : Hid (Blk W6 X3 [.slice none 0 0, .int .i64 0, .int .i64 0, .int .i64 0] 63) := Lib.hid (by rw [hW]; exact (HX3_5.out.other _ _ NX3_X1))
        have HT4_6 : Hid (Blk W6 T4 [.int .i64 (kd : Nat), .string ⟨#[]⟩, .slice none 0 0, .int .i64 0, .int .i64 0, .int .i64 0, .int .i64 0, .int .i64 0, .int .i64 (tk.at_ : Nat)] 42) := Lib.hid (by rw [hW]; exact (HT4_5.out.other _ _ NT4_X1))
        have C6 : Hid (Chg [] w W6) := Lib.hid (by rw [hW]; exact (C5.out.setCell _ _ (.inr (by have OX1_ := OX1.out; show w.heap.size ≤ X1; omega))))
        clear hW
        have HX1s : Hid (Blk W6 X1 [.slice ao2 s2.l.length cap2, .int .i64 (en : Int), .int .i64 (s2.err : Int), .int .i64 (s2.at_ : Int)] 63) := Lib.hid (by have := HX1_6.out; rw [← HE2.out.1, ← HE2.out.2] at this; exact this)
        have cX1_0 := HX1s.out.cell (i := 0) rfl
        have cX1_1 := HX1s.out.cell (i := 1) rfl
        have cX1_2 := HX1s.out.cell (i := 2) rfl
        have cX1_3 := HX1s.out.cell (i := 3) rfl
        go_wp2_with fail
        clear cX1_0 cX1_1 cX1_2 cX1_3
        refine take_r (Lib.hid (HS2.out.to HT.out C6.out)) 1 (fun tn s3 ao3 cap3 w3 HE3 HS3 D3 => ?_)
        have HX1_7 : Hid (Blk w3 X1 [.slice ao2 s2.l.length cap2, .int .i64 (en : Int), .int .i64 (s2.err : Int), .int .i64 (s2.at_ : Int)] 63) := Lib.hid (D3.out.blk HX1s.out (by simp))
        have HX2_7 : Hid (Blk w3 X2 [.int .i64 0, .string ⟨#[]⟩, .slice none 0 0, .int .i64 0, .int .i64 0, .int .i64 0, .int .i64 0, .int .i64 0, .int .i64 0] 42) := Lib.hid (D3.out.blk HX2_6.out (by simp))
        have HX3_7 : Hid (Blk w3 X3 [.slice none 0 0, .int .i64 0, .int .i64 0, .int .i64 0] 63) := Lib.hid (D3.out.blk HX3_6.out (by simp))
        have HT4_7 : Hid (Blk w3 T4 [.int .i64 (kd : Nat), .string ⟨#[]⟩, .slice none 0 0, .int .i64 0, .int .i64 0, .int .i64 0, .int .i64 0, .int .i64 0, .int .i64 (tk.at_ : Nat)] 42) := Lib.hid (D3.out.blk HT4_6.out (by simp))
        have C7 : Hid (Chg [] w w3) := Lib.hid (C6.out.trans D3.out (by simp))
        have cX1_0 := fun o0 : Obj => (HX1_7.out.alloc o0).cell (i := 0) rfl
        have cX1_1 := fun o0 : Obj => (HX1_7.out.alloc o0).cell (i := 1) rfl
        have cX1_2 := fun o0 : Obj => (HX1_7.out.alloc o0).cell (i := 2) rfl
        have cX1_3 := fun o0 : Obj => (HX1_7.out.alloc o0).cell (i := 3) rfl
        have cX1_f0 := fun o0 : Obj => (HX1_7.out.alloc o0).free 0
        have cX1_f1 := fun o0 : Obj => (HX1_7.out.alloc o0).free 1
        have cX1_f2 := fun o0 : Obj => (HX1_7.out.alloc o0).free 2
        have cX1_f3 := fun o0 : Obj => (HX1_7.out.alloc o0).free 3
        go_upto_region 13 with fail
        clear cX1_0 cX1_1 cX1_2 cX1_3 cX1_f0 cX1_f1 cX1_f2 cX1_f3
        obtain ⟨W8, hW⟩ : ∃ W, W = (((((w3.alloc (.cells #[.int .i64 (tn.kind : Nat), .string ⟨tn.text.toArray⟩, .int .i64 (tn.n : Nat), .int .i64 (tn.at_ : Nat)] 44)).setCell ⟨X1, 0, none⟩ (.slice ao3 s3.l.length cap3)).setCell ⟨X1, 1, none⟩ (.int .i64 (en : Int))).setCell ⟨X1, 2, none⟩ (.int .i64 (s3.err : Int))).setCell ⟨X1, 3, none⟩ (.int .i64 (s3.at_ : Int))) := ⟨_, rfl⟩
        rw [← hW]
        obtain ⟨T7, hT7⟩ : ∃ T, T = w3.heap.size := ⟨_, rfl⟩
        try rw [← hT7]
        have OT7 : Hid (T4 < T7) := Lib.hid (by rw [hT7]; exact HT4_7.out.lt)
        have NT7_X1 : T7 ≠ X1 := by have OX2_ := OX2.out; have OX3_ := OX3.out; have OT4_ := OT4.out; have OT5_ := OT5.out; have OT7_ := OT7.out; omega
        have NX1_T7 : X1 ≠ T7 := NT7_X1.symm
        have HX1_8 : Hid (Blk W8 X1 [.slice ao3 s3.l.length cap3, .int .i64 (en : Int), .int .i64 (s3.err : Int), .int .i64 (s3.at_ : Int)] 63) := Lib.hid (by rw [hW]; exact (((((HX1_7.out.alloc _).set 0 (.slice ao3 s3.l.length cap3)).set 1 (.int .i64 (en : Int))).set 2 (.int .i64 (s3.err : Int))).set 3 (.int .i64 (s3.at_ : Int))))
        have HX2_8 : Hid (Blk W8 X2 [.int .i64 0, .string ⟨#[]⟩, .slice none 0 0, .int .i64 0, .int .i64 0, .int .i64 0, .int .i64 0, .int .i64 0, .int .i64 0] 42) := Lib.hid (by rw [hW]; exact (((((HX2_7.out.alloc _).other _ _ NX2_X1).other _ _ NX2_X1).other _ _ NX2_X1).other _ _ NX2_X1))
        have HX3_8 : Hid (Blk W8 X3 [.slice none 0 0, .int .i64 0, .int .i64 0, .int .i64 0] 63) := Lib.hid (by rw [hW]; exact (((((HX3_7.out.alloc _).other _ _ NX3_X1).other _ _ NX3_X1).other _ _ NX3_X1).other _ _ NX3_X1))
        have HT4_8 : Hid (Blk W8 T4 [.int .i64 (kd : Nat), .string ⟨#[]⟩, .slice none 0 0, .int .i64 0, .int .i64 0, .int .i64 0, .int .i64 0, .int .i64 0, .int .i64 (tk.at_ : Nat)] 42) := Lib.hid (by rw [hW]; exact (((((HT4_7.out.alloc _).other _ _ NT4_X1).other _ _ NT4_X1).other _ _ NT4_X1).other _ _ NT4_X1))
        have HT7_8 : Hid (Blk W8 T7 [.int .i64 (tn.kind : Nat), .string ⟨tn.text.toArray⟩, .int .i64 (tn.n : Nat), .int .i64 (tn.at_ : Nat)] 44) := Lib.hid (by
          have h1 := Blk.new w3 [.int .i64 (tn.kind : Nat), .string ⟨tn.text.toArray⟩, .int .i64 (tn.n : Nat), .int .i64 (tn.at_ : Nat)] 44
          have h2 : w3.heap.size = T7 := by simp [hT7]
          rw [h2] at h1
          rw [hW]
          exact ((((h1.other _ _ NT7_X1).other _ _ NT7_X1).other _ _ NT7_X1).other _ _ NT7_X1))
        have C8 : Hid (Chg [] w W8) := Lib.hid (by rw [hW]; exact (((((C7.out.alloc _).setCell _ _ (.inr (by have OX1_ := OX1.out; show w.heap.size ≤ X1; omega))).setCell _ _ (.inr (by have OX1_ := OX1.out; show w.heap.size ≤ X1; omega))).setCell _ _ (.inr (by have OX1_ := OX1.out; show w.heap.size ≤ X1; omega))).setCell _ _ (.inr (by have OX1_ := OX1.out; show w.heap.size ≤ X1; omega))))
        clear hW hT7
        have cT7_0 := HT7_8.out.cell (i := 0) rfl
        have cT7_1 := HT7_8.out.cell (i := 1) rfl
        have cT7_2 := HT7_8.out.cell (i := 2) rfl
        have cT7_3 := HT7_8.out.cell (i := 3) rfl
        have cT4_0 := HT4_8.out.cell (i := 0) rfl
        have cT4_1 := HT4_8.out.cell (i := 1) rfl
        have cT4_2 := HT4_8.out.cell (i := 2) rfl
        have cT4_3 := HT4_8.out.cell (i := 3) rfl
        have cT4_4 := HT4_8.out.cell (i := 4) rfl
        have cT4_5 := HT4_8.out.cell (i := 5) rfl
        have cT4_6 := HT4_8.out.cell (i := 6) rfl
        have cT4_7 := HT4_8.out.cell (i := 7) rfl
        have cT4_8 := HT4_8.out.cell (i := 8) rfl
        have cT4_f0 := HT4_8.out.free 0
        have cT4_f1 := HT4_8.out.free 1
        have cT4_f2 := HT4_8.out.free 2
        have cT4_f3 := HT4_8.out.free 3
        have cT4_f4 := HT4_8.out.free 4
        have cT4_f5 := HT4_8.out.free 5
        have cT4_f6 := HT4_8.out.free 6
        have cT4_f7 := HT4_8.out.free 7
        have cT4_f8 := HT4_8.out.free 8
        go_upto_region 14 with fail
        clear cT7_0 cT7_1 cT7_2 cT7_3 cT4_0 cT4_1 cT4_2 cT4_3 cT4_4 cT4_5 cT4_6 cT4_7 cT4_8 cT4_f0 cT4_f1 cT4_f2 cT4_f3 cT4_f4 cT4_f5 cT4_f6 cT4_f7 cT4_f8
        have NT7_T4 : T7 ≠ T4 := by have OT5_ := OT5.out; have OT7_ := OT7.out; omega
        have NT4_T7 : T4 ≠ T7 := NT7_T4.symm
        obtain ⟨W9, hW⟩ : ∃ W, W = (W8.setCell ⟨T4, 1, none⟩ (.string ⟨tn.text.toArray⟩)) := ⟨_, rfl⟩
        rw [← hW]
        have HX1_9 : Hid (Blk W9 X1 [.slice ao3 s3.l.length cap3, .int .i64 (en : Int), .int .i64 (s3.err : Int), .int .i64 (s3.at_ : Int)] 63) := Lib.hid (by rw [hW]; exact (HX1_8.out.other _ _ NX1_T4))
        have HX2_9 : Hid (Blk W9 X2 [.int .i64 0, .string ⟨#[]⟩, .slice none 0 0, .int .i64 0, .int .i64 0, .int .i64 0, .int .i64 0, .int .i64 0, .int .i64 0] 42) := Lib.hid (by rw [hW]; exact (HX2_8.out.other _ _ NX2_T4))
        have HX3_9 : Hid (Blk W9 X3 [.slice none 0 0, .int .i64 0, .int .i64 0, .int .i64 0] 63) := Lib.hid (by rw [hW]; exact (HX3_8.out.other _ _ NX3_T4))
        have HT4_9 : Hid (Blk W9 T4 [.int .i64 (kd : Nat), .string ⟨tn.text.toArray⟩, .slice none 0 0, .int .i64 0, .int .i64 0, .int .i64 0, .int .i64 0, .int .i64 0, .int .i64 (tk.at_ : Nat)] 42) := Lib.hid (by rw [hW]; exact (HT4_8.out.set 1 (.string ⟨tn.text.toArray⟩)))
        have HT7_9 : Hid (Blk W9 T7 [.int .i64 (tn.kind : Nat), .string ⟨tn.text.toArray⟩, .int .i64 (tn.n : Nat), .int .i64 (tn.at_ : Nat)] 44) := Lib.hid (by rw [hW]; exact (HT7_8.out.other _ _ NT7_T4))
        have C9 : Hid (Chg [] w W9) := Lib.hid (by rw [hW]; exact (C8.out.setCell _ _ (.inr (by have OX1_ := OX1.out; have OX2_ := OX2.out; have OX3_ := OX3.out; have OT4_ := OT4.out; show w.heap.size ≤ T4; omega))))
        clear hW
        clear HT7_9
        have HS3' : Hid (Suf ao cap s.l ao3 cap3 s3.l) := Lib.hid (HS2.out.trans HS3.out)
        have HE3' : Hid (s.tl.take en 1 = (tn, s3)) := Lib.hid (by rw [← HS2E.out]; exact HE3.out)
        have HL3 : Hid (s3.l <:+ s.l) := Lib.hid (by have h1 := rtake_suf en s2 1; rw [HE3.out, HS2E.out] at h1; exact h1.trans (List.tail_suffix _))
        clear q2
        have hk : kd = 4 := by rw [← HKD.out]; exact HKQ.out
        have qk1 : ((kd : Int) == 1) = false := by rw [hk]; rfl
        have qk3 : ((kd : Int) == 3) = false := by rw [hk]; rfl
        have qk4 : ((kd : Int) == 4) = true := by rw [hk]; rfl
        have qk5 : ((kd : Int) == 5) = false := by rw [hk]; rfl
        have HKK := Lib.hid hk
        clear hk
        have cX1_0 := HX1_9.out.cell (i := 0) rfl
        have cX1_1 := HX1_9.out.cell (i := 1) rfl
        have cX1_2 := HX1_9.out.cell (i := 2) rfl
        have cX1_3 := HX1_9.out.cell (i := 3) rfl
        have cT4_0 := HT4_9.out.cell (i := 0) rfl
        have cT4_1 := HT4_9.out.cell (i := 1) rfl
        have cT4_2 := HT4_9.out.cell (i := 2) rfl
        have cT4_3 := HT4_9.out.cell (i := 3) rfl
        have cT4_4 := HT4_9.out.cell (i := 4) rfl
        have cT4_5 := HT4_9.out.cell (i := 5) rfl
        have cT4_6 := HT4_9.out.cell (i := 6) rfl
        have cT4_7 := HT4_9.out.cell (i := 7) rfl
        have cT4_8 := HT4_9.out.cell (i := 8) rfl
        go_wp2_with fail
        clear cX1_0 cX1_1 cX1_2 cX1_3 cT4_0 cT4_1 cT4_2 cT4_3 cT4_4 cT4_5 cT4_6 cT4_7 cT4_8
        refine word_r (Lib.hid (HS3'.out.to HT.out C9.out)) [99, 97, 112] (fun s5 ao5 cap5 w5 HE5 HS5 D5 => ?_)
        have HX1_10 : Hid (Blk w5 X1 [.slice ao3 s3.l.length cap3, .int .i64 (en : Int), .int .i64 (s3.err : Int), .int .i64 (s3.at_ : Int)] 63) := Lib.hid (D5.out.blk HX1_9.out (by simp))
        have HX2_10 : Hid (Blk w5 X2 [.int .i64 0, .string ⟨#[]⟩, .slice none 0 0, .int .i64 0, .int .i64 0, .int .i64 0, .int .i64 0, .int .i64 0, .int .i64 0] 42) := Lib.hid (D5.out.blk HX2_9.out (by simp))
        have HX3_10 : Hid (Blk w5 X3 [.slice none 0 0, .int .i64 0, .int .i64 0, .int .i64 0] 63) := Lib.hid (D5.out.blk HX3_9.out (by simp))
        have HT4_10 : Hid (Blk w5 T4 [.int .i64 (kd : Nat), .string ⟨tn.text.toArray⟩, .slice none 0 0, .int .i64 0, .int .i64 0, .int .i64 0, .int .i64 0, .int .i64 0, .int .i64 (tk.at_ : Nat)] 42) := Lib.hid (D5.out.blk HT4_9.out (by simp))
        have C10 : Hid (Chg [] w w5) := Lib.hid (C9.out.trans D5.out (by simp))
        go_wp2_with fail
        refine ratio_r (Lib.hid ((HS3'.out.trans HS5.out).to HT.out C10.out)) (fun p6 q6 s6 ao6 cap6 w6 HE6 HS6 D6 => ?_)
        have HX1_11 : Hid (Blk w6 X1 [.slice ao3 s3.l.length cap3, .int .i64 (en : Int), .int .i64 (s3.err : Int), .int .i64 (s3.at_ : Int)] 63) := Lib.hid (D6.out.blk HX1_10.out (by simp))
        have HX2_11 : Hid (Blk w6 X2 [.int .i64 0, .string ⟨#[]⟩, .slice none 0 0, .int .i64 0, .int .i64 0, .int .i64 0, .int .i64 0, .int .i64 0, .int .i64 0] 42) := Lib.hid (D6.out.blk HX2_10.out (by simp))
        have HX3_11 : Hid (Blk w6 X3 [.slice none 0 0, .int .i64 0, .int .i64 0, .int .i64 0] 63) := Lib.hid (D6.out.blk HX3_10.out (by simp))
        have HT4_11 : Hid (Blk w6 T4 [.int .i64 (kd : Nat), .string ⟨tn.text.toArray⟩, .slice none 0 0, .int .i64 0, .int .i64 0, .int .i64 0, .int .i64 0, .int .i64 0, .int .i64 (tk.at_ : Nat)] 42) := Lib.hid (D6.out.blk HT4_10.out (by simp))
        have C11 : Hid (Chg [] w w6) := Lib.hid (C10.out.trans D6.out (by simp))
        go_upto_region 34 with fail
        obtain ⟨W12, hW⟩ : ∃ W, W = ((w6.alloc (.cells #[.int .i64 (p6 : Nat), .int .i64 (q6 : Nat)] 40)).alloc (.cells #[.slice ao6 s6.l.length cap6, .int .i64 (en : Int), .int .i64 (s6.err : Int), .int .i64 (s6.at_ : Int)] 63)) := ⟨_, rfl⟩
        rw [← hW]
        obtain ⟨T17, hT17⟩ : ∃ T, T = w6.heap.size + 1 := ⟨_, rfl⟩
        try rw [← hT17]
        obtain ⟨T16, hT16⟩ : ∃ T, T = w6.heap.size := ⟨_, rfl⟩
        try rw [← hT16]
        have OT16 : Hid (T4 < T16) := Lib.hid (by rw [hT16]; exact HT4_11.out.lt)
        have OT17 : Hid (T16 < T17) := Lib.hid (by rw [hT17, hT16]; omega)
        have HX1_12 : Hid (Blk W12 X1 [.slice ao3 s3.l.length cap3, .int .i64 (en : Int), .int .i64 (s3.err : Int), .int .i64 (s3.at_ : Int)] 63) := Lib.hid (by rw [hW]; exact ((HX1_11.out.alloc _).alloc _))
        have HX2_12 : Hid (Blk W12 X2 [.int .i64 0, .string ⟨#[]⟩, .slice none 0 0, .int .i64 0, .int .i64 0, .int .i64 0, .int .i64 0, .int .i64 0, .int .i64 0] 42) := Lib.hid (by rw [hW]; exact ((HX2_11.out.alloc _).alloc _))
        have HX3_12 : Hid (Blk W12 X3 [.slice none 0 0, .int .i64 0, .int .i64 0, .int .i64 0] 63) := Lib.hid (by rw [hW]; exact ((HX3_11.out.alloc _).alloc _))
        have HT4_12 : Hid (Blk W12 T4 [.int .i64 (kd : Nat), .string ⟨tn.text.toArray⟩, .slice none 0 0, .int .i64 0, .int .i64 0, .int .i64 0, .int .i64 0, .int .i64 0, .int .i64 (tk.at_ : Nat)] 42) := Lib.hid (by rw [hW]; exact ((HT4_11.out.alloc _).alloc _))
        have HT16_12 : Hid (Blk W12 T16 [.int .i64 (p6 : Nat), .int .i64 (q6 : Nat)] 40) := Lib.hid (by
          have h1 := Blk.new w6 [.int .i64 (p6 : Nat), .int .i64 (q6 : Nat)] 40
          have h2 : w6.heap.size = T16 := by simp [hT16]
          rw [h2] at h1
          rw [hW]
          exact (h1.alloc _))
        have HT17_12 : Hid (Blk W12 T17 [.slice ao6 s6.l.length cap6, .int .i64 (en : Int), .int .i64 (s6.err : Int), .int .i64 (s6.at_ : Int)] 63) := Lib.hid (by
          have h1 := Blk.new (w6.alloc (.cells #[.int .i64 (p6 : Nat), .int .i64 (q6 : Nat)] 40)) [.slice ao6 s6.l.length cap6, .int .i64 (en : Int), .int .i64 (s6.err : Int), .int .i64 (s6.at_ : Int)] 63
          have h2 : (w6.alloc (.cells #[.int .i64 (p6 : Nat), .int .i64 (q6 : Nat)] 40)).heap.size = T17 := by simp [hT17]
          rw [h2] at h1
          rw [hW]
          exact h1)
        have C12 : Hid (Chg [] w W12) := Lib.hid (by rw [hW]; exact ((C11.out.alloc _).alloc _))
        clear hW hT16 hT17
        have cT16_0 := HT16_12.out.cell (i := 0) rfl
        have cT16_1 := HT16_12.out.cell (i := 1) rfl
        have cT4_0 := HT4_12.out.cell (i := 0) rfl
        have cT4_1 := HT4_12.out.cell (i := 1) rfl
        have cT4_2 := HT4_12.out.cell (i := 2) rfl
        have cT4_3 := HT4_12.out.cell (i := 3) rfl
        have cT4_4 := HT4_12.out.cell (i := 4) rfl
        have cT4_5 := HT4_12.out.cell (i := 5) rfl
        have cT4_6 := HT4_12.out.cell (i := 6) rfl
        have cT4_7 := HT4_12.out.cell (i := 7) rfl
        have cT4_8 := HT4_12.out.cell (i := 8) rfl
        have cT4_f0 := HT4_12.out.free 0
        have cT4_f1 := HT4_12.out.free 1
        have cT4_f2 := HT4_12.out.free 2
        have cT4_f3 := HT4_12.out.free 3
        have cT4_f4 := HT4_12.out.free 4
        have cT4_f5 := HT4_12.out.free 5
        have cT4_f6 := HT4_12.out.free 6
        have cT4_f7 := HT4_12.out.free 7
        have cT4_f8 := HT4_12.out.free 8
        go_upto_region 35 with fail
        clear cT16_0 cT16_1 cT4_0 cT4_1 cT4_2 cT4_3 cT4_4 cT4_5 cT4_6 cT4_7 cT4_8 cT4_f0 cT4_f1 cT4_f2 cT4_f3 cT4_f4 cT4_f5 cT4_f6 cT4_f7 cT4_f8
        have NT16_T4 : T16 ≠ T4 := by have OT5_ := OT5.out; have OT7_ := OT7.out; have OT16_ := OT16.out; omega
        have NT4_T16 : T4 ≠ T16 := NT16_T4.symm
        have NT17_T4 : T17 ≠ T4 := by have OT5_ := OT5.out; have OT7_ := OT7.out; have OT16_ := OT16.out; have OT17_ := OT17.out; omega
        have NT4_T17 : T4 ≠ T17 := NT17_T4.symm
        obtain ⟨W13, hW⟩ : ∃ W, W = ((W12.setCell ⟨T4, 4, none⟩ (.int .i64 (p6 : Nat))).setCell ⟨T4, 5, none⟩ (.int .i64 (q6 : Nat))) := ⟨_, rfl⟩
        rw [← hW]
        have HX1_13 : Hid (Blk W13 X1 [.slice ao3 s3.l.length cap3, .int .i64 (en : Int), .int .i64 (s3.err : Int), .int .i64 (s3.at_ : Int)] 63) := Lib.hid (by rw [hW]; exact ((HX1_12.out.other _ _ NX1_T4).other _ _ NX1_T4))
        have HX2_13 : Hid (Blk W13 X2 [.int .i64 0, .string ⟨#[]⟩, .slice none 0 0, .int .i64 0, .int .i64 0, .int .i64 0, .int .i64 0, .int .i64 0, .int .i64 0] 42) := Lib.hid (by rw [hW]; exact ((HX2_12.out.other _ _ NX2_T4).other _ _ NX2_T4))
        have HX3_13 : Hid (Blk W13 X3 [.slice none 0 0, .int .i64 0, .int .i64 0, .int .i64 0] 63) := Lib.hid (by rw [hW]; exact ((HX3_12.out.other _ _ NX3_T4).other _ _ NX3_T4))
        have HT4_13 : Hid (Blk W13 T4 [.int .i64 (kd : Nat), .string ⟨tn.text.toArray⟩, .slice none 0 0, .int .i64 0, .int .i64 (p6 : Nat), .int .i64 (q6 : Nat), .int .i64 0, .int .i64 0, .int .i64 (tk.at_ : Nat)] 42) := Lib.hid (by rw [hW]; exact ((HT4_12.out.set 4 (.int .i64 (p6 : Nat))).set 5 (.int .i64 (q6 : Nat))))
        have HT16_13 : Hid (Blk W13 T16 [.int .i64 (p6 : Nat), .int .i64 (q6 : Nat)] 40) := Lib.hid (by rw [hW]; exact ((HT16_12.out.other _ _ NT16_T4).other _ _ NT16_T4))
        have HT17_13 : Hid (Blk W13 T17 [.slice ao6 s6.l.length cap6, .int .i64 (en : Int), .int .i64 (s6.err : Int), .int .i64 (s6.at_ : Int)] 63) := Lib.hid (by rw [hW]; exact ((HT17_12.out.other _ _ NT17_T4).other _ _ NT17_T4))
        have C13 : Hid (Chg [] w W13) := Lib.hid (by rw [hW]; exact ((C12.out.setCell _ _ (.inr (by have OX1_ := OX1.out; have OX2_ := OX2.out; have OX3_ := OX3.out; have OT4_ := OT4.out; show w.heap.size ≤ T4; omega))).setCell _ _ (.inr (by have OX1_ := OX1.out; have OX2_ := OX2.out; have OX3_ := OX3.out; have OT4_ := OT4.out; show w.heap.size ≤ T4; omega))))
        clear hW
        have cT17_0 := HT17_13.out.cell (i := 0) rfl
        have cT17_1 := HT17_13.out.cell (i := 1) rfl
        have cT17_2 := HT17_13.out.cell (i := 2) rfl
        have cT17_3 := HT17_13.out.cell (i := 3) rfl
        go_wp2_with fail
        clear cT17_0 cT17_1 cT17_2 cT17_3
        refine word_r (Lib.hid (((HS3'.out.trans HS5.out).trans HS6.out).to HT.out C13.out)) [115, 104, 97, 114, 101] (fun s7 ao7 cap7 w7 HE7 HS7 D7 => ?_)
        have HX1_14 : Hid (Blk w7 X1 [.slice ao3 s3.l.length cap3, .int .i64 (en : Int), .int .i64 (s3.err : Int), .int .i64 (s3.at_ : Int)] 63) := Lib.hid (D7.out.blk HX1_13.out (by simp))
        have HX2_14 : Hid (Blk w7 X2 [.int .i64 0, .string ⟨#[]⟩, .slice none 0 0, .int .i64 0, .int .i64 0, .int .i64 0, .int .i64 0, .int .i64 0, .int .i64 0] 42) := Lib.hid (D7.out.blk HX2_13.out (by simp))
        have HX3_14 : Hid (Blk w7 X3 [.slice none 0 0, .int .i64 0, .int .i64 0, .int .i64 0] 63) := Lib.hid (D7.out.blk HX3_13.out (by simp))
        have HT4_14 : Hid (Blk w7 T4 [.int .i64 (kd : Nat), .string ⟨tn.text.toArray⟩, .slice none 0 0, .int .i64 0, .int .i64 (p6 : Nat), .int .i64 (q6 : Nat), .int .i64 0, .int .i64 0, .int .i64 (tk.at_ : Nat)] 42) := Lib.hid (D7.out.blk HT4_13.out (by simp))
        have HT16_14 : Hid (Blk w7 T16 [.int .i64 (p6 : Nat), .int .i64 (q6 : Nat)] 40) := Lib.hid (D7.out.blk HT16_13.out (by simp))
        have HT17_14 : Hid (Blk w7 T17 [.slice ao6 s6.l.length cap6, .int .i64 (en : Int), .int .i64 (s6.err : Int), .int .i64 (s6.at_ : Int)] 63) := Lib.hid (D7.out.blk HT17_13.out (by simp))
        have C14 : Hid (Chg [] w w7) := Lib.hid (C13.out.trans D7.out (by simp))
        go_wp2_with fail
        refine ratio_r (Lib.hid ((((HS3'.out.trans HS5.out).trans HS6.out).trans HS7.out).to HT.out C14.out)) (fun p8 q8 s8 ao8 cap8 w8 HE8 HS8 D8 => ?_)
        have HX1_15 : Hid (Blk w8 X1 [.slice ao3 s3.l.length cap3, .int .i64 (en : Int), .int .i64 (s3.err : Int), .int .i64 (s3.at_ : Int)] 63) := Lib.hid (D8.out.blk HX1_14.out (by simp))
        have HX2_15 : Hid (Blk w8 X2 [.int .i64 0, .string ⟨#[]⟩, .slice none 0 0, .int .i64 0, .int .i64 0, .int .i64 0, .int .i64 0, .int .i64 0, .int .i64 0] 42) := Lib.hid (D8.out.blk HX2_14.out (by simp))
        have HX3_15 : Hid (Blk w8 X3 [.slice none 0 0, .int .i64 0, .int .i64 0, .int .i64 0] 63) := Lib.hid (D8.out.blk HX3_14.out (by simp))
        have HT4_15 : Hid (Blk w8 T4 [.int .i64 (kd : Nat), .string ⟨tn.text.toArray⟩, .slice none 0 0, .int .i64 0, .int .i64 (p6 : Nat), .int .i64 (q6 : Nat), .int .i64 0, .int .i64 0, .int .i64 (tk.at_ : Nat)] 42) := Lib.hid (D8.out.blk HT4_14.out (by simp))
        have HT16_15 : Hid (Blk w8 T16 [.int .i64 (p6 : Nat), .int .i64 (q6 : Nat)] 40) := Lib.hid (D8.out.blk HT16_14.out (by simp))
        have HT17_15 : Hid (Blk w8 T17 [.slice ao6 s6.l.length cap6, .int .i64 (en : Int), .int .i64 (s6.err : Int), .int .i64 (s6.at_ : Int)] 63) := Lib.hid (D8.out.blk HT17_14.out (by simp))
        have C15 : Hid (Chg [] w w8) := Lib.hid (C14.out.trans D8.out (by simp))
        have cT16_0 := fun o0 : Obj => (HT16_15.out.alloc o0).cell (i := 0) rfl
        have cT16_1 := fun o0 : Obj => (HT16_15.out.alloc o0).cell (i := 1) rfl
        have cT16_f0 := fun o0 : Obj => (HT16_15.out.alloc o0).free 0
        have cT16_f1 := fun o0 : Obj => (HT16_15.out.alloc o0).free 1
        have hne : w8.heap.size ≠ T16 := by have := HT16_15.out.lt; omega
        have hne' : T16 ≠ w8.heap.size := hne.symm
        go_upto_region 36 with fail
        clear hne hne' cT16_0 cT16_1 cT16_f0 cT16_f1
        obtain ⟨T18, hT18⟩ : ∃ T, T = w8.heap.size := ⟨_, rfl⟩
        rw [← hT18]
        have OT18 : Hid (T17 < T18) := Lib.hid (by rw [hT18]; exact HT17_15.out.lt)
        have NX1_T16 : X1 ≠ T16 := by have OX2_ := OX2.out; have OX3_ := OX3.out; have OT4_ := OT4.out; have OT5_ := OT5.out; have OT7_ := OT7.out; have OT16_ := OT16.out; omega
        have NT16_X1 : T16 ≠ X1 := NX1_T16.symm
        have NX2_T16 : X2 ≠ T16 := by have OX3_ := OX3.out; have OT4_ := OT4.out; have OT5_ := OT5.out; have OT7_ := OT7.out; have OT16_ := OT16.out; omega
        have NT16_X2 : T16 ≠ X2 := NX2_T16.symm
        have NX3_T16 : X3 ≠ T16 := by have OT4_ := OT4.out; have OT5_ := OT5.out; have OT7_ := OT7.out; have OT16_ := OT16.out; omega
        have NT16_X3 : T16 ≠ X3 := NX3_T16.symm
        have NT17_T16 : T17 ≠ T16 := by have OT17_ := OT17.out; omega
        have NT16_T17 : T16 ≠ T17 := NT17_T16.symm
        have NX1_T18 : X1 ≠ T18 := by have OX2_ := OX2.out; have OX3_ := OX3.out; have OT4_ := OT4.out; have OT5_ := OT5.out; have OT7_ := OT7.out; have OT16_ := OT16.out; have OT17_ := OT17.out; have OT18_ := OT18.out; omega
        have NT18_X1 : T18 ≠ X1 := NX1_T18.symm
        have NX2_T18 : X2 ≠ T18 := by have OX3_ := OX3.out; have OT4_ := OT4.out; have OT5_ := OT5.out; have OT7_ := OT7.out; have OT16_ := OT16.out; have OT17_ := OT17.out; have OT18_ := OT18.out; omega
        have NT18_X2 : T18 ≠ X2 := NX2_T18.symm
        have NX3_T18 : X3 ≠ T18 := by have OT4_ := OT4.out; have OT5_ := OT5.out; have OT7_ := OT7.out; have OT16_ := OT16.out; have OT17_ := OT17.out; have OT18_ := OT18.out; omega
        have NT18_X3 : T18 ≠ X3 := NX3_T18.symm
        have NT4_T18 : T4 ≠ T18 := by have OT5_ := OT5.out; have OT7_ := OT7.out; have OT16_ := OT16.out; have OT17_ := OT17.out; have OT18_ := OT18.out; omega
        have NT18_T4 : T18 ≠ T4 := NT4_T18.symm
        have NT16_T18 : T16 ≠ T18 := by have OT17_ := OT17.out; have OT18_ := OT18.out; omega
        have NT18_T16 : T18 ≠ T16 := NT16_T18.symm
        have NT17_T18 : T17 ≠ T18 := by have OT18_ := OT18.out; omega
        have NT18_T17 : T18 ≠ T17 := NT17_T18.symm
        obtain ⟨W16, hW⟩ : ∃ W, W = (((((((w8.alloc (.cells #[.slice none 0 0, .int .i64 0, .int .i64 0, .int .i64 0] 63)).setCell ⟨T16, 0, none⟩ (.int .i64 (p8 : Nat))).setCell ⟨T16, 1, none⟩ (.int .i64 (q8 : Nat))).setCell ⟨T18, 0, none⟩ (.slice ao8 s8.l.length cap8)).setCell ⟨T18, 1, none⟩ (.int .i64 (en : Int))).setCell ⟨T18, 2, none⟩ (.int .i64 (s8.err : Int))).setCell ⟨T18, 3, none⟩ (.int .i64 (s8.at_ : Int))) := ⟨_, rfl⟩
        rw [← hW]
        have HX1_16 : Hid (Blk W16 X1 [.slice ao3 s3.l.length cap3, .int .i64 (en : Int), .int .i64 (s3.err : Int), .int .i64 (s3.at_ : Int)] 63) := Lib.hid (by rw [hW]; exact (((((((HX1_15.out.alloc _).other _ _ NX1_T16).other _ _ NX1_T16).other _ _ NX1_T18).other _ _ NX1_T18).other _ _ NX1_T18).other _ _ NX1_T18))
        have HX2_16 : Hid (Blk W16 X2 [.int .i64 0, .string ⟨#[]⟩, .slice none 0 0, .int .i64 0, .int .i64 0, .int .i64 0, .int .i64 0, .int .i64 0, .int .i64 0] 42) := Lib.hid (by rw [hW]; exact (((((((HX2_15.out.alloc _).other _ _ NX2_T16).other _ _ NX2_T16).other _ _ NX2_T18).other _ _ NX2_T18).other _ _ NX2_T18).other _ _ NX2_T18))
        have HX3_16 : Hid (Blk W16 X3 [.slice none 0 0, .int .i64 0, .int .i64 0, .int .i64 0] 63) := Lib.hid (by rw [hW]; exact (((((((HX3_15.out.alloc _).other _ _ NX3_T16).other _ _ NX3_T16).other _ _ NX3_T18).other _ _ NX3_T18).other _ _ NX3_T18).other _ _ NX3_T18))
        have HT4_16 : Hid (Blk W16 T4 [.int .i64 (kd : Nat), .string ⟨tn.text.toArray⟩, .slice none 0 0, .int .i64 0, .int .i64 (p6 : Nat), .int .i64 (q6 : Nat), .int .i64 0, .int .i64 0, .int .i64 (tk.at_ : Nat)] 42) := Lib.hid (by rw [hW]; exact (((((((HT4_15.out.alloc _).other _ _ NT4_T16).other _ _ NT4_T16).other _ _ NT4_T18).other _ _ NT4_T18).other _ _ NT4_T18).other _ _ NT4_T18))
        have HT16_16 : Hid (Blk W16 T16 [.int .i64 (p8 : Nat), .int .i64 (q8 : Nat)] 40) := Lib.hid (by rw [hW]; exact (((((((HT16_15.out.alloc _).set 0 (.int .i64 (p8 : Nat))).set 1 (.int .i64 (q8 : Nat))).other _ _ NT16_T18).other _ _ NT16_T18).other _ _ NT16_T18).other _ _ NT16_T18))
        have HT18_16 : Hid (Blk W16 T18 [.slice ao8 s8.l.length cap8, .int .i64 (en : Int), .int .i64 (s8.err : Int), .int .i64 (s8.at_ : Int)] 63) := Lib.hid (by
          have h1 := Blk.new w8 [.slice none 0 0, .int .i64 0, .int .i64 0, .int .i64 0] 63
          have h2 : w8.heap.size = T18 := by simp [hT18]
          rw [h2] at h1
          rw [hW]
          exact ((((((h1.other _ _ NT18_T16).other _ _ NT18_T16).set 0 (.slice ao8 s8.l.length cap8)).set 1 (.int .i64 (en : Int))).set 2 (.int .i64 (s8.err : Int))).set 3 (.int .i64 (s8.at_ : Int))))
        have C16 : Hid (Chg [] w W16) := Lib.hid (by rw [hW]; exact (((((((C15.out.alloc _).setCell _ _ (.inr (by have OX1_ := OX1.out; have OX2_ := OX2.out; have OX3_ := OX3.out; have OT4_ := OT4.out; have OT5_ := OT5.out; have OT7_ := OT7.out; have OT16_ := OT16.out; show w.heap.size ≤ T16; omega))).setCell _ _ (.inr (by have OX1_ := OX1.out; have OX2_ := OX2.out; have OX3_ := OX3.out; have OT4_ := OT4.out; have OT5_ := OT5.out; have OT7_ := OT7.out; have OT16_ := OT16.out; show w.heap.size ≤ T16; omega))).setCell _ _ (.inr (by have OX1_ := OX1.out; have OX2_ := OX2.out; have OX3_ := OX3.out; have OT4_ := OT4.out; have OT5_ := OT5.out; have OT7_ := OT7.out; have OT16_ := OT16.out; have OT17_ := OT17.out; have OT18_ := OT18.out; show w.heap.size ≤ T18; omega))).setCell _ _ (.inr (by have OX1_ := OX1.out; have OX2_ := OX2.out; have OX3_ := OX3.out; have OT4_ := OT4.out; have OT5_ := OT5.out; have OT7_ := OT7.out; have OT16_ := OT16.out; have OT17_ := OT17.out; have OT18_ := OT18.out; show w.heap.size ≤ T18; omega))).setCell _ _ (.inr (by have OX1_ := OX1.out; have OX2_ := OX2.out; have OX3_ := OX3.out; have OT4_ := OT4.out; have OT5_ := OT5.out; have OT7_ := OT7.out; have OT16_ := OT16.out; have OT17_ := OT17.out; have OT18_ := OT18.out; show w.heap.size ≤ T18; omega))).setCell _ _ (.inr (by have OX1_ := OX1.out; have OX2_ := OX2.out; have OX3_ := OX3.out; have OT4_ := OT4.out; have OT5_ := OT5.out; have OT7_ := OT7.out; have OT16_ := OT16.out; have OT17_ := OT17.out; have OT18_ := OT18.out; show w.heap.size ≤ T18; omega))))
        clear hW hT18
        have cT16_0 := HT16_16.out.cell (i := 0) rfl
        have cT16_1 := HT16_16.out.cell (i := 1) rfl
        have cT4_0 := HT4_16.out.cell (i := 0) rfl
        have cT4_1 := HT4_16.out.cell (i := 1) rfl
        have cT4_2 := HT4_16.out.cell (i := 2) rfl
        have cT4_3 := HT4_16.out.cell (i := 3) rfl
        have cT4_4 := HT4_16.out.cell (i := 4) rfl
        have cT4_5 := HT4_16.out.cell (i := 5) rfl
        have cT4_6 := HT4_16.out.cell (i := 6) rfl
        have cT4_7 := HT4_16.out.cell (i := 7) rfl
        have cT4_8 := HT4_16.out.cell (i := 8) rfl
        have cT4_f0 := HT4_16.out.free 0
        have cT4_f1 := HT4_16.out.free 1
        have cT4_f2 := HT4_16.out.free 2
        have cT4_f3 := HT4_16.out.free 3
        have cT4_f4 := HT4_16.out.free 4
        have cT4_f5 := HT4_16.out.free 5
        have cT4_f6 := HT4_16.out.free 6
        have cT4_f7 := HT4_16.out.free 7
        have cT4_f8 := HT4_16.out.free 8
        go_upto_region 37 with fail
        clear cT16_0 cT16_1 cT4_0 cT4_1 cT4_2 cT4_3 cT4_4 cT4_5 cT4_6 cT4_7 cT4_8 cT4_f0 cT4_f1 cT4_f2 cT4_f3 cT4_f4 cT4_f5 cT4_f6 cT4_f7 cT4_f8
        obtain ⟨W17, hW⟩ : ∃ W, W = ((W16.setCell ⟨T4, 6, none⟩ (.int .i64 (p8 : Nat))).setCell ⟨T4, 7, none⟩ (.int .i64 (q8 : Nat))) := ⟨_, rfl⟩
        rw [← hW]
        have HX1_17 : Hid (Blk W17 X1 [.slice ao3 s3.l.length cap3, .int .i64 (en : Int), .int .i64 (s3.err : Int), .int .i64 (s3.at_ : Int)] 63) := Lib.hid (by rw [hW]; exact ((HX1_16.out.other _ _ NX1_T4).other _ _ NX1_T4))
        have HX2_17 : Hid (Blk W17 X2 [.int .i64 0, .string ⟨#[]⟩, .slice none 0 0, .int .i64 0, .int .i64 0, .int .i64 0, .int .i64 0, .int .i64 0, .int .i64 0] 42) := Lib.hid (by rw [hW]; exact ((HX2_16.out.other _ _ NX2_T4).other _ _ NX2_T4))
        have HX3_17 : Hid (Blk W17 X3 [.slice none 0 0, .int .i64 0, .int .i64 0, .int .i64 0] 63) := Lib.hid (by rw [hW]; exact ((HX3_16.out.other _ _ NX3_T4).other _ _ NX3_T4))
        have HT4_17 : Hid (Blk W17 T4 [.int .i64 (kd : Nat), .string ⟨tn.text.toArray⟩, .slice none 0 0, .int .i64 0, .int .i64 (p6 : Nat), .int .i64 (q6 : Nat), .int .i64 (p8 : Nat), .int .i64 (q8 : Nat), .int .i64 (tk.at_ : Nat)] 42) := Lib.hid (by rw [hW]; exact ((HT4_16.out.set 6 (.int .i64 (p8 : Nat))).set 7 (.int .i64 (q8 : Nat))))
        have HT18_17 : Hid (Blk W17 T18 [.slice ao8 s8.l.length cap8, .int .i64 (en : Int), .int .i64 (s8.err : Int), .int .i64 (s8.at_ : Int)] 63) := Lib.hid (by rw [hW]; exact ((HT18_16.out.other _ _ NT18_T4).other _ _ NT18_T4))
        have C17 : Hid (Chg [] w W17) := Lib.hid (by rw [hW]; exact ((C16.out.setCell _ _ (.inr (by have OX1_ := OX1.out; have OX2_ := OX2.out; have OX3_ := OX3.out; have OT4_ := OT4.out; show w.heap.size ≤ T4; omega))).setCell _ _ (.inr (by have OX1_ := OX1.out; have OX2_ := OX2.out; have OX3_ := OX3.out; have OT4_ := OT4.out; show w.heap.size ≤ T4; omega))))
        clear hW
        have cT18_0 := HT18_17.out.cell (i := 0) rfl
        have cT18_1 := HT18_17.out.cell (i := 1) rfl
        have cT18_2 := HT18_17.out.cell (i := 2) rfl
        have cT18_3 := HT18_17.out.cell (i := 3) rfl
        have cX1_0 := HX1_17.out.cell (i := 0) rfl
        have cX1_1 := HX1_17.out.cell (i := 1) rfl
        have cX1_2 := HX1_17.out.cell (i := 2) rfl
        have cX1_3 := HX1_17.out.cell (i := 3) rfl
        have cX1_f0 := HX1_17.out.free 0
        have cX1_f1 := HX1_17.out.free 1
        have cX1_f2 := HX1_17.out.free 2
        have cX1_f3 := HX1_17.out.free 3
        go_upto_region 38 with fail
        clear cT18_0 cT18_1 cT18_2 cT18_3 cX1_0 cX1_1 cX1_2 cX1_3 cX1_f0 cX1_f1 cX1_f2 cX1_f3
        have NT17_X1 : T17 ≠ X1 := by have OX2_ := OX2.out; have OX3_ := OX3.out; have OT4_ := OT4.out; have OT5_ := OT5.out; have OT7_ := OT7.out; have OT16_ := OT16.out; have OT17_ := OT17.out; omega
        have NX1_T17 : X1 ≠ T17 := NT17_X1.symm
        obtain ⟨W18, hW⟩ : ∃ W, W = ((((W17.setCell ⟨X1, 0, none⟩ (.slice ao8 s8.l.length cap8)).setCell ⟨X1, 1, none⟩ (.int .i64 (en : Int))).setCell ⟨X1, 2, none⟩ (.int .i64 (s8.err : Int))).setCell ⟨X1, 3, none⟩ (.int .i64 (s8.at_ : Int))) := ⟨_, rfl⟩
        rw [← hW]
        have HX1_18 : Hid (Blk W18 X1 [.slice ao8 s8.l.length cap8, .int .i64 (en : Int), .int .i64 (s8.err : Int), .int .i64 (s8.at_ : Int)] 63) := Lib.hid (by rw [hW]; exact ((((HX1_17.out.set 0 (.slice ao8 s8.l.length cap8)).set 1 (.int .i64 (en : Int))).set 2 (.int .i64 (s8.err : Int))).set 3 (.int .i64 (s8.at_ : Int))))
        have HX2_18 : Hid (Blk W18 X2 [.int .i64 0, .string ⟨#[]⟩, .slice none 0 0, .int .i64 0, .int .i64 0, .int .i64 0, .int .i64 0, .int .i64 0, .int .i64 0] 42) := Lib.hid (by rw [hW]; exact ((((HX2_17.out.other _ _ NX2_X1).other _ _ NX2_X1).other _ _ NX2_X1).other _ _ NX2_X1))
        have HX3_18 : Hid (Blk W18 X3 [.slice none 0 0, .int .i64 0, .int .i64 0, .int .i64 0] 63) := Lib.hid (by rw [hW]; exact ((((HX3_17.out.other _ _ NX3_X1).other _ _ NX3_X1).other _ _ NX3_X1).other _ _ NX3_X1))
        have HT4_18 : Hid (Blk W18 T4 [.int .i64 (kd : Nat), .string ⟨tn.text.toArray⟩, .slice none 0 0, .int .i64 0, .int .i64 (p6 : Nat), .int .i64 (q6 : Nat), .int .i64 (p8 : Nat), .int .i64 (q8 : Nat), .int .i64 (tk.at_ : Nat)] 42) := Lib.hid (by rw [hW]; exact ((((HT4_17.out.other _ _ NT4_X1).other _ _ NT4_X1).other _ _ NT4_X1).other _ _ NT4_X1))
        have HT18_18 : Hid (Blk W18 T18 [.slice ao8 s8.l.length cap8, .int .i64 (en : Int), .int .i64 (s8.err : Int), .int .i64 (s8.at_ : Int)] 63) := Lib.hid (by rw [hW]; exact ((((HT18_17.out.other _ _ NT18_X1).other _ _ NT18_X1).other _ _ NT18_X1).other _ _ NT18_X1))
        have C18 : Hid (Chg [] w W18) := Lib.hid (by rw [hW]; exact ((((C17.out.setCell _ _ (.inr (by have OX1_ := OX1.out; show w.heap.size ≤ X1; omega))).setCell _ _ (.inr (by have OX1_ := OX1.out; show w.heap.size ≤ X1; omega))).setCell _ _ (.inr (by have OX1_ := OX1.out; show w.heap.size ≤ X1; omega))).setCell _ _ (.inr (by have OX1_ := OX1.out; show w.heap.size ≤ X1; omega))))
        clear hW
        have cX1_0 := HX1_18.out.cell (i := 0) rfl
        have cX1_1 := HX1_18.out.cell (i := 1) rfl
        have cX1_2 := HX1_18.out.cell (i := 2) rfl
        have cX1_3 := HX1_18.out.cell (i := 3) rfl
        have cT4_0 := HT4_18.out.cell (i := 0) rfl
        have cT4_1 := HT4_18.out.cell (i := 1) rfl
        have cT4_2 := HT4_18.out.cell (i := 2) rfl
        have cT4_3 := HT4_18.out.cell (i := 3) rfl
        have cT4_4 := HT4_18.out.cell (i := 4) rfl
        have cT4_5 := HT4_18.out.cell (i := 5) rfl
        have cT4_6 := HT4_18.out.cell (i := 6) rfl
        have cT4_7 := HT4_18.out.cell (i := 7) rfl
        have cT4_8 := HT4_18.out.cell (i := 8) rfl
        go_wp2_with fail
        clear cX1_0 cX1_1 cX1_2 cX1_3 cT4_0 cT4_1 cT4_2 cT4_3 cT4_4 cT4_5 cT4_6 cT4_7 cT4_8
        have HRS : Hid (s3.rest en kd = (((0, (p6, q6), (p8, q8)) : Rl.Rest), s8)) := Lib.hid (by unfold RSt.rest; rw [if_neg (by rw [HKK.out]; decide), if_neg (by rw [HKK.out]; decide), if_pos HKK.out, show s3.word en Rl.wCap = s5 from HE5.out, HE6.out]; simp only; rw [show s6.word en Rl.wShare = s7 from HE7.out, HE8.out])
        have HSR : Hid (Suf ao cap s.l ao8 cap8 s8.l) := Lib.hid ((((HS3'.out.trans HS5.out).trans HS6.out).trans HS7.out).trans HS8.out)
        have HLR : Hid (s8.l <:+ s.l) := Lib.hid (by have h1 := rrest_suf en s3 kd; rw [HRS.out] at h1; exact h1.trans HL3.out)
        refine is_r (Lib.hid (HSR.out.to HT.out C18.out)) 1 [119, 104, 101, 110] (fun bW wW HBW DW => ?_)
        have HX1_19 : Hid (Blk wW X1 [.slice ao8 s8.l.length cap8, .int .i64 (en : Int), .int .i64 (s8.err : Int), .int .i64 (s8.at_ : Int)] 63) := Lib.hid (DW.out.blk HX1_18.out (by simp))
        have HX2_19 : Hid (Blk wW X2 [.int .i64 0, .string ⟨#[]⟩, .slice none 0 0, .int .i64 0, .int .i64 0, .int .i64 0, .int .i64 0, .int .i64 0, .int .i64 0] 42) := Lib.hid (DW.out.blk HX2_18.out (by simp))
        have HX3_19 : Hid (Blk wW X3 [.slice none 0 0, .int .i64 0, .int .i64 0, .int .i64 0] 63) := Lib.hid (DW.out.blk HX3_18.out (by simp))
        have HT4_19 : Hid (Blk wW T4 [.int .i64 (kd : Nat), .string ⟨tn.text.toArray⟩, .slice none 0 0, .int .i64 0, .int .i64 (p6 : Nat), .int .i64 (q6 : Nat), .int .i64 (p8 : Nat), .int .i64 (q8 : Nat), .int .i64 (tk.at_ : Nat)] 42) := Lib.hid (DW.out.blk HT4_18.out (by simp))
        have HT18_19 : Hid (Blk wW T18 [.slice ao8 s8.l.length cap8, .int .i64 (en : Int), .int .i64 (s8.err : Int), .int .i64 (s8.at_ : Int)] 63) := Lib.hid (DW.out.blk HT18_18.out (by simp))
        have C19 : Hid (Chg [] w wW) := Lib.hid (C18.out.trans DW.out (by simp))
        go_upto_if 150 with fail
        go_cut [] (fun wc => ∃ (c : List (List Rl.Tst)) (uo : Option Addr) (uc : Nat) (sC : RSt) (aoC : Option Addr) (capC : Nat), Hid (s8.whn en = (c, sC)) ∧ Hid (Suf ao cap s.l aoC capC sC.l) ∧ Hid (Blk wc X1 [.slice aoC sC.l.length capC, .int .i64 (en : Int), .int .i64 (sC.err : Int), .int .i64 (sC.at_ : Int)] 63) ∧ Hid (Blk wc T4 [.int .i64 (kd : Nat), .string ⟨tn.text.toArray⟩, .slice uo c.length uc, .int .i64 0, .int .i64 (p6 : Nat), .int .i64 (q6 : Nat), .int .i64 (p8 : Nat), .int .i64 (q8 : Nat), .int .i64 (tk.at_ : Nat)] 42) ∧ Hid (ListS w.heap.size 46 1 (Cr w.heap.size) c (.slice uo c.length uc) wc) ∧ Hid (Chg [X1, T4] wW wc))
        case first =>
          cases bW with
          | false =>
            go_wp2_with fail
            go_meet
            case rel => exact ⟨[], none, 0, s8, ao8, cap8, Lib.hid (by unfold RSt.whn; rw [if_neg (fun h => by rw [show s8.is 1 Rl.wWhen = false from HBW.out] at h; simp at h)]), HSR, HX1_19, HT4_19, Lib.hid (ListS.nil _ _ _ _ _), Lib.hid (Chg.refl _ _)⟩
          | true =>
            have cX1_0 := HX1_19.out.cell (i := 0) rfl
            have cX1_1 := HX1_19.out.cell (i := 1) rfl
            have cX1_2 := HX1_19.out.cell (i := 2) rfl
            have cX1_3 := HX1_19.out.cell (i := 3) rfl
            go_wp2_with fail
            clear cX1_0 cX1_1 cX1_2 cX1_3
            refine word_r (Lib.hid (HSR.out.to HT.out C19.out)) [119, 104, 101, 110] (fun sA aoA capA wA HEA HSA DA => ?_)
            have HX1_20 : Hid (Blk wA X1 [.slice ao8 s8.l.length cap8, .int .i64 (en : Int), .int .i64 (s8.err : Int), .int .i64 (s8.at_ : Int)] 63) := Lib.hid (DA.out.blk HX1_19.out (by simp))
            have HT4_20 : Hid (Blk wA T4 [.int .i64 (kd : Nat), .string ⟨tn.text.toArray⟩, .slice none 0 0, .int .i64 0, .int .i64 (p6 : Nat), .int .i64 (q6 : Nat), .int .i64 (p8 : Nat), .int .i64 (q8 : Nat), .int .i64 (tk.at_ : Nat)] 42) := Lib.hid (DA.out.blk HT4_19.out (by simp))
            have HT18_20 : Hid (Blk wA T18 [.slice ao8 s8.l.length cap8, .int .i64 (en : Int), .int .i64 (s8.err : Int), .int .i64 (s8.at_ : Int)] 63) := Lib.hid (DA.out.blk HT18_19.out (by simp))
            have C20 : Hid (Chg [] w wA) := Lib.hid (C19.out.trans DA.out (by simp))
            have Kc_20 : Hid (Chg [X1, T4] wW wA) := Lib.hid (by exact ((Chg.refl [X1, T4] wW).trans DA.out (by simp)))
            have HLA : Hid (sA.l <:+ s.l) := Lib.hid (by have h1 := rword_suf en s8 [119, 104, 101, 110]; rw [HEA.out] at h1; exact h1.trans HLR.out)
            go_wp2_with fail
            refine when_r (Lib.hid ((HSR.out.trans HSA.out).to HT.out C20.out)) (Lib.hid (HSM.out.sfx HLA.out)) (Lib.hid (Nat.le_trans HLA.out.length_le HN.out)) (fun lW uo uc sB aoB capB wB HEB HSB HLB DB => ?_)
            have HX1A : Hid (X1 < wA.heap.size) := Lib.hid HX1_20.out.lt
            have HT4A : Hid (T4 < wA.heap.size) := Lib.hid HT4_20.out.lt
            have HWA : Hid (w.heap.size ≤ wA.heap.size) := Lib.hid C20.out.size
            have HX1_21 : Hid (Blk wB X1 [.slice ao8 s8.l.length cap8, .int .i64 (en : Int), .int .i64 (s8.err : Int), .int .i64 (s8.at_ : Int)] 63) := Lib.hid (DB.out.blk HX1_20.out (by simp))
            have HT4_21 : Hid (Blk wB T4 [.int .i64 (kd : Nat), .string ⟨tn.text.toArray⟩, .slice none 0 0, .int .i64 0, .int .i64 (p6 : Nat), .int .i64 (q6 : Nat), .int .i64 (p8 : Nat), .int .i64 (q8 : Nat), .int .i64 (tk.at_ : Nat)] 42) := Lib.hid (DB.out.blk HT4_20.out (by simp))
            have HT18_21 : Hid (Blk wB T18 [.slice ao8 s8.l.length cap8, .int .i64 (en : Int), .int .i64 (s8.err : Int), .int .i64 (s8.at_ : Int)] 63) := Lib.hid (DB.out.blk HT18_20.out (by simp))
            have Kc_21 : Hid (Chg [X1, T4] wW wB) := Lib.hid (by exact (Kc_20.out.trans DB.out (by simp)))
            go_upto_region 44 with fail
            obtain ⟨W22, hW⟩ : ∃ W, W = (wB.alloc (.cells #[.slice aoB sB.l.length capB, .int .i64 (en : Int), .int .i64 (sB.err : Int), .int .i64 (sB.at_ : Int)] 63)) := ⟨_, rfl⟩
            rw [← hW]
            obtain ⟨T22, hT22⟩ : ∃ T, T = wB.heap.size := ⟨_, rfl⟩
            try rw [← hT22]
            have OT22 : Hid (T18 < T22) := Lib.hid (by rw [hT22]; exact HT18_21.out.lt)
            have HX1_22 : Hid (Blk W22 X1 [.slice ao8 s8.l.length cap8, .int .i64 (en : Int), .int .i64 (s8.err : Int), .int .i64 (s8.at_ : Int)] 63) := Lib.hid (by rw [hW]; exact (HX1_21.out.alloc _))
            have HT4_22 : Hid (Blk W22 T4 [.int .i64 (kd : Nat), .string ⟨tn.text.toArray⟩, .slice none 0 0, .int .i64 0, .int .i64 (p6 : Nat), .int .i64 (q6 : Nat), .int .i64 (p8 : Nat), .int .i64 (q8 : Nat), .int .i64 (tk.at_ : Nat)] 42) := Lib.hid (by rw [hW]; exact (HT4_21.out.alloc _))
            have HT22_22 : Hid (Blk W22 T22 [.slice aoB sB.l.length capB, .int .i64 (en : Int), .int .i64 (sB.err : Int), .int .i64 (sB.at_ : Int)] 63) := Lib.hid (by
              have h1 := Blk.new wB [.slice aoB sB.l.length capB, .int .i64 (en : Int), .int .i64 (sB.err : Int), .int .i64 (sB.at_ : Int)] 63
              have h2 : wB.heap.size = T22 := by simp [hT22]
              rw [h2] at h1
              rw [hW]
              exact h1)
            have Kc_22 : Hid (Chg [X1, T4] wW W22) := Lib.hid (by rw [hW]; exact (Kc_21.out.alloc _))
            have Kd_22 : Hid (Chg [X1, T4] wB W22) := Lib.hid (by rw [hW]; exact ((Chg.refl [X1, T4] wB).alloc _))
            clear hW hT22
            have cT4_0 := HT4_22.out.cell (i := 0) rfl
            have cT4_1 := HT4_22.out.cell (i := 1) rfl
            have cT4_2 := HT4_22.out.cell (i := 2) rfl
            have cT4_3 := HT4_22.out.cell (i := 3) rfl
            have cT4_4 := HT4_22.out.cell (i := 4) rfl
            have cT4_5 := HT4_22.out.cell (i := 5) rfl
            have cT4_6 := HT4_22.out.cell (i := 6) rfl
            have cT4_7 := HT4_22.out.cell (i := 7) rfl
            have cT4_8 := HT4_22.out.cell (i := 8) rfl
            have cT4_f0 := HT4_22.out.free 0
            have cT4_f1 := HT4_22.out.free 1
            have cT4_f2 := HT4_22.out.free 2
            have cT4_f3 := HT4_22.out.free 3
            have cT4_f4 := HT4_22.out.free 4
            have cT4_f5 := HT4_22.out.free 5
            have cT4_f6 := HT4_22.out.free 6
            have cT4_f7 := HT4_22.out.free 7
            have cT4_f8 := HT4_22.out.free 8
            go_upto_region 45 with fail
            clear cT4_0 cT4_1 cT4_2 cT4_3 cT4_4 cT4_5 cT4_6 cT4_7 cT4_8 cT4_f0 cT4_f1 cT4_f2 cT4_f3 cT4_f4 cT4_f5 cT4_f6 cT4_f7 cT4_f8
            have NT22_T4 : T22 ≠ T4 := by have OT5_ := OT5.out; have OT7_ := OT7.out; have OT16_ := OT16.out; have OT17_ := OT17.out; have OT18_ := OT18.out; have OT22_ := OT22.out; omega
            have NT4_T22 : T4 ≠ T22 := NT22_T4.symm
            obtain ⟨W23, hW⟩ : ∃ W, W = (W22.setCell ⟨T4, 2, none⟩ (.slice uo lW.length uc)) := ⟨_, rfl⟩
            rw [← hW]
            have HX1_23 : Hid (Blk W23 X1 [.slice ao8 s8.l.length cap8, .int .i64 (en : Int), .int .i64 (s8.err : Int), .int .i64 (s8.at_ : Int)] 63) := Lib.hid (by rw [hW]; exact (HX1_22.out.other _ _ NX1_T4))
            have HT4_23 : Hid (Blk W23 T4 [.int .i64 (kd : Nat), .string ⟨tn.text.toArray⟩, .slice uo lW.length uc, .int .i64 0, .int .i64 (p6 : Nat), .int .i64 (q6 : Nat), .int .i64 (p8 : Nat), .int .i64 (q8 : Nat), .int .i64 (tk.at_ : Nat)] 42) := Lib.hid (by rw [hW]; exact (HT4_22.out.set 2 (.slice uo lW.length uc)))
            have HT22_23 : Hid (Blk W23 T22 [.slice aoB sB.l.length capB, .int .i64 (en : Int), .int .i64 (sB.err : Int), .int .i64 (sB.at_ : Int)] 63) := Lib.hid (by rw [hW]; exact (HT22_22.out.other _ _ NT22_T4))
            have Kc_23 : Hid (Chg [X1, T4] wW W23) := Lib.hid (by rw [hW]; exact (Kc_22.out.setCell _ _ (.inl (by simp))))
            have Kd_23 : Hid (Chg [X1, T4] wB W23) := Lib.hid (by rw [hW]; exact (Kd_22.out.setCell _ _ (.inl (by simp))))
            clear hW
            have cT22_0 := HT22_23.out.cell (i := 0) rfl
            have cT22_1 := HT22_23.out.cell (i := 1) rfl
            have cT22_2 := HT22_23.out.cell (i := 2) rfl
            have cT22_3 := HT22_23.out.cell (i := 3) rfl
            have cX1_0 := HX1_23.out.cell (i := 0) rfl
            have cX1_1 := HX1_23.out.cell (i := 1) rfl
            have cX1_2 := HX1_23.out.cell (i := 2) rfl
            have cX1_3 := HX1_23.out.cell (i := 3) rfl
            have cX1_f0 := HX1_23.out.free 0
            have cX1_f1 := HX1_23.out.free 1
            have cX1_f2 := HX1_23.out.free 2
            have cX1_f3 := HX1_23.out.free 3
            go_wp2_with fail
            clear cT22_0 cT22_1 cT22_2 cT22_3 cX1_0 cX1_1 cX1_2 cX1_3 cX1_f0 cX1_f1 cX1_f2 cX1_f3
            have NT22_X1 : T22 ≠ X1 := by have OX2_ := OX2.out; have OX3_ := OX3.out; have OT4_ := OT4.out; have OT5_ := OT5.out; have OT7_ := OT7.out; have OT16_ := OT16.out; have OT17_ := OT17.out; have OT18_ := OT18.out; have OT22_ := OT22.out; omega
            have NX1_T22 : X1 ≠ T22 := NT22_X1.symm
            obtain ⟨W24, hW⟩ : ∃ W, W = ((((W23.setCell ⟨X1, 0, none⟩ (.slice aoB sB.l.length capB)).setCell ⟨X1, 1, none⟩ (.int .i64 (en : Int))).setCell ⟨X1, 2, none⟩ (.int .i64 (sB.err : Int))).setCell ⟨X1, 3, none⟩ (.int .i64 (sB.at_ : Int))) := ⟨_, rfl⟩
            rw [← hW]
            have HX1_24 : Hid (Blk W24 X1 [.slice aoB sB.l.length capB, .int .i64 (en : Int), .int .i64 (sB.err : Int), .int .i64 (sB.at_ : Int)] 63) := Lib.hid (by rw [hW]; exact ((((HX1_23.out.set 0 (.slice aoB sB.l.length capB)).set 1 (.int .i64 (en : Int))).set 2 (.int .i64 (sB.err : Int))).set 3 (.int .i64 (sB.at_ : Int))))
            have HT4_24 : Hid (Blk W24 T4 [.int .i64 (kd : Nat), .string ⟨tn.text.toArray⟩, .slice uo lW.length uc, .int .i64 0, .int .i64 (p6 : Nat), .int .i64 (q6 : Nat), .int .i64 (p8 : Nat), .int .i64 (q8 : Nat), .int .i64 (tk.at_ : Nat)] 42) := Lib.hid (by rw [hW]; exact ((((HT4_23.out.other _ _ NT4_X1).other _ _ NT4_X1).other _ _ NT4_X1).other _ _ NT4_X1))
            have Kc_24 : Hid (Chg [X1, T4] wW W24) := Lib.hid (by rw [hW]; exact ((((Kc_23.out.setCell _ _ (.inl (by simp))).setCell _ _ (.inl (by simp))).setCell _ _ (.inl (by simp))).setCell _ _ (.inl (by simp))))
            have Kd_24 : Hid (Chg [X1, T4] wB W24) := Lib.hid (by rw [hW]; exact ((((Kd_23.out.setCell _ _ (.inl (by simp))).setCell _ _ (.inl (by simp))).setCell _ _ (.inl (by simp))).setCell _ _ (.inl (by simp))))
            clear hW
            go_meet
            case rel => exact ⟨lW, uo, uc, sB, aoB, capB, Lib.hid (by unfold RSt.whn; rw [if_pos (show s8.is 1 Rl.wWhen = true from HBW.out), show s8.word en Rl.wWhen = sA from HEA.out]; exact HEB.out), Lib.hid ((HSR.out.trans HSA.out).trans HSB.out), HX1_24, HT4_24, Lib.hid ((HLB.out.keep (kp_r _) Kd_24.out (TyB.lower (by intro b hb; simp only [List.mem_cons, List.not_mem_nil, or_false] at hb; rcases hb with rfl | rfl <;> first | exact HX1A.out | exact HT4A.out) _)).mono HWA.out (mono_r HWA.out)), Kc_24⟩
        case rest =>
          obtain ⟨cW, uo, uc, sC, aoC, capC, HEC, HSC, HXC1, HTC, HLC, HCC⟩ := hcut
          have HX2_20 : Hid (Blk wc X2 [.int .i64 0, .string ⟨#[]⟩, .slice none 0 0, .int .i64 0, .int .i64 0, .int .i64 0, .int .i64 0, .int .i64 0, .int .i64 0] 42) := Lib.hid (HCC.out.blk HX2_19.out (by simp [NX2_X1, NX2_T4]))
          have HX3_20 : Hid (Blk wc X3 [.slice none 0 0, .int .i64 0, .int .i64 0, .int .i64 0] 63) := Lib.hid (HCC.out.blk HX3_19.out (by simp [NX3_X1, NX3_T4]))
          have C20 : Hid (Chg [] w wc) := Lib.hid (C19.out.trans HCC.out (fun k hk => .inr (by have OX1_ := OX1.out; have OX2_ := OX2.out; have OX3_ := OX3.out; have OT4_ := OT4.out; simp only [List.mem_cons, List.not_mem_nil, or_false] at hk; omega)))
          go_upto_region 46 with fail
          have NX2_X3 : X2 ≠ X3 := by have OX3_ := OX3.out; omega
          have NX3_X2 : X3 ≠ X2 := NX2_X3.symm
          have NT17_X2 : T17 ≠ X2 := by have OX3_ := OX3.out; have OT4_ := OT4.out; have OT5_ := OT5.out; have OT7_ := OT7.out; have OT16_ := OT16.out; have OT17_ := OT17.out; omega
          have NX2_T17 : X2 ≠ T17 := NT17_X2.symm
          have NT17_X3 : T17 ≠ X3 := by have OT4_ := OT4.out; have OT5_ := OT5.out; have OT7_ := OT7.out; have OT16_ := OT16.out; have OT17_ := OT17.out; omega
          have NX3_T17 : X3 ≠ T17 := NT17_X3.symm
          have Mr1T4_0 : T4 ∉ [X2, X3] := by simp [NT4_X2, NT4_X3]
          have Mr1X1_1 : X1 ∉ [X2, X3] := by simp [NX1_X2, NX1_X3]
          refine wp_region_held_drew (S := fun W' => Chg [X2, X3] wc W') (by kernel_rfl) (Chg.refl _ _).drew (fun hHeld => ?_)
          refine wpAnyH_take (i := 0) (v := ?vr10) rfl (by kernel_rfl) (by kernel_rfl) (by kernel_rfl) (fun _ _ _ h => h) (Or.inl ⟨by kernel_rfl, ?hyr10⟩) (by assumption) ?rsr10
          case hyr10 => (intro w9 hSw; have e0 := cell_quiet hSw (HTC.out.cell (i := 0) rfl) Mr1T4_0; have e1 := cell_quiet hSw (HTC.out.cell (i := 1) rfl) Mr1T4_0; have e2 := cell_quiet hSw (HTC.out.cell (i := 2) rfl) Mr1T4_0; have e3 := cell_quiet hSw (HTC.out.cell (i := 3) rfl) Mr1T4_0; have e4 := cell_quiet hSw (HTC.out.cell (i := 4) rfl) Mr1T4_0; have e5 := cell_quiet hSw (HTC.out.cell (i := 5) rfl) Mr1T4_0; have e6 := cell_quiet hSw (HTC.out.cell (i := 6) rfl) Mr1T4_0; have e7 := cell_quiet hSw (HTC.out.cell (i := 7) rfl) Mr1T4_0; have e8 := cell_quiet hSw (HTC.out.cell (i := 8) rfl) Mr1T4_0; go_simp; try with_reducible rfl)
          try simp only [Act.put, List.setIfInBounds_toArray, List.set_cons_zero, List.set_cons_succ, List.getElem_toArray, List.getElem_cons_succ, List.getElem_cons_zero]
          refine wpAnyH_take (i := 1) (v := ?vr11) rfl (by kernel_rfl) (by kernel_rfl) (by kernel_rfl) (fun _ _ _ h => h) (Or.inl ⟨by kernel_rfl, ?hyr11⟩) (by assumption) ?rsr11
          case hyr11 => (intro w9 hSw; have e0 := cell_quiet hSw (HXC1.out.cell (i := 0) rfl) Mr1X1_1; have e1 := cell_quiet hSw (HXC1.out.cell (i := 1) rfl) Mr1X1_1; have e2 := cell_quiet hSw (HXC1.out.cell (i := 2) rfl) Mr1X1_1; have e3 := cell_quiet hSw (HXC1.out.cell (i := 3) rfl) Mr1X1_1; go_simp; try with_reducible rfl)
          try simp only [Act.put, List.setIfInBounds_toArray, List.set_cons_zero, List.set_cons_succ, List.getElem_toArray, List.getElem_cons_succ, List.getElem_cons_zero]
          obtain ⟨Zr10, hZ⟩ : ∃ Z, Z = wc.drew := ⟨_, rfl⟩
          rw [← hZ] at hHeld ⊢
          have Qr1X2_0 : Hid (Blk Zr10 X2 [.int .i64 0, .string ⟨#[]⟩, .slice none 0 0, .int .i64 0, .int .i64 0, .int .i64 0, .int .i64 0, .int .i64 0, .int .i64 0] 42) := Lib.hid (by rw [hZ]; exact HX2_20.out.drew)
          have Qr1X3_0 : Hid (Blk Zr10 X3 [.slice none 0 0, .int .i64 0, .int .i64 0, .int .i64 0] 63) := Lib.hid (by rw [hZ]; exact HX3_20.out.drew)
          have CZ : Hid (Chg [] w Zr10) := Lib.hid (by rw [hZ]; exact (C20.out).drew)
          clear hZ
          refine wpAnyH_ready (rs := [2]) (by kernel_rfl) (by simp) (AllReadyH.cons rfl (fun K hK => ?_) AllReadyH.nil)
          go_simp
          refine word_r (Lib.hid (HSC.out.to HT.out CZ.out)) [59] (fun sE aoE capE wE HEE HSE DE => ?_)
          refine hK.out _ _ (hHeld.trans DE.out (by simp)) (fun hHeld => ?_)
          clear hK K
          try simp only [Act.put, List.setIfInBounds_toArray, List.set_cons_zero, List.set_cons_succ, List.getElem_toArray, List.getElem_cons_succ, List.getElem_cons_zero]
          have Qr1X2_m : Hid (Blk wE X2 [.int .i64 0, .string ⟨#[]⟩, .slice none 0 0, .int .i64 0, .int .i64 0, .int .i64 0, .int .i64 0, .int .i64 0, .int .i64 0] 42) := Lib.hid (DE.out.blk Qr1X2_0.out (by simp))
          have Qr1X3_m : Hid (Blk wE X3 [.slice none 0 0, .int .i64 0, .int .i64 0, .int .i64 0] 63) := Lib.hid (DE.out.blk Qr1X3_0.out (by simp))
          refine wpAnyH_ready (rs := [3]) (by kernel_rfl) (by simp) (AllReadyH.cons rfl (fun K hK => ?_) AllReadyH.nil)
          have x0 := Qr1X2_m.out.cell (i := 0) rfl
          have xf0 := Qr1X2_m.out.free 0
          have x1 := Qr1X2_m.out.cell (i := 1) rfl
          have xf1 := Qr1X2_m.out.free 1
          have x2 := Qr1X2_m.out.cell (i := 2) rfl
          have xf2 := Qr1X2_m.out.free 2
          have x3 := Qr1X2_m.out.cell (i := 3) rfl
          have xf3 := Qr1X2_m.out.free 3
          have x4 := Qr1X2_m.out.cell (i := 4) rfl
          have xf4 := Qr1X2_m.out.free 4
          have x5 := Qr1X2_m.out.cell (i := 5) rfl
          have xf5 := Qr1X2_m.out.free 5
          have x6 := Qr1X2_m.out.cell (i := 6) rfl
          have xf6 := Qr1X2_m.out.free 6
          have x7 := Qr1X2_m.out.cell (i := 7) rfl
          have xf7 := Qr1X2_m.out.free 7
          have x8 := Qr1X2_m.out.cell (i := 8) rfl
          have xf8 := Qr1X2_m.out.free 8
          go_simp
          refine hK.out _ _ (((((((((hHeld.setCell _ _ (.inl (by simp))).setCell _ _ (.inl (by simp))).setCell _ _ (.inl (by simp))).setCell _ _ (.inl (by simp))).setCell _ _ (.inl (by simp))).setCell _ _ (.inl (by simp))).setCell _ _ (.inl (by simp))).setCell _ _ (.inl (by simp))).setCell _ _ (.inl (by simp))) (fun hHeld => ?_)
          clear hK K x0 xf0 x1 xf1 x2 xf2 x3 xf3 x4 xf4 x5 xf5 x6 xf6 x7 xf7 x8 xf8
          try simp only [Act.put, List.setIfInBounds_toArray, List.set_cons_zero, List.set_cons_succ, List.getElem_toArray, List.getElem_cons_succ, List.getElem_cons_zero]
          obtain ⟨Zr11, hZ⟩ : ∃ Z, Z = (((((((((wE.setCell ⟨X2, 0, none⟩ (.int .i64 (kd : Nat))).setCell ⟨X2, 1, none⟩ (.string ⟨tn.text.toArray⟩)).setCell ⟨X2, 2, none⟩ (.slice uo cW.length uc)).setCell ⟨X2, 3, none⟩ (.int .i64 0)).setCell ⟨X2, 4, none⟩ (.int .i64 (p6 : Nat))).setCell ⟨X2, 5, none⟩ (.int .i64 (q6 : Nat))).setCell ⟨X2, 6, none⟩ (.int .i64 (p8 : Nat))).setCell ⟨X2, 7, none⟩ (.int .i64 (q8 : Nat))).setCell ⟨X2, 8, none⟩ (.int .i64 (tk.at_ : Nat))) := ⟨_, rfl⟩
          rw [← hZ] at hHeld ⊢
          have Qr1X2_1 : Hid (Blk Zr11 X2 [.int .i64 (kd : Nat), .string ⟨tn.text.toArray⟩, .slice uo cW.length uc, .int .i64 0, .int .i64 (p6 : Nat), .int .i64 (q6 : Nat), .int .i64 (p8 : Nat), .int .i64 (q8 : Nat), .int .i64 (tk.at_ : Nat)] 42) := Lib.hid (by rw [hZ]; exact (((((((((Qr1X2_m.out.set 0 (.int .i64 (kd : Nat))).set 1 (.string ⟨tn.text.toArray⟩)).set 2 (.slice uo cW.length uc)).set 3 (.int .i64 0)).set 4 (.int .i64 (p6 : Nat))).set 5 (.int .i64 (q6 : Nat))).set 6 (.int .i64 (p8 : Nat))).set 7 (.int .i64 (q8 : Nat))).set 8 (.int .i64 (tk.at_ : Nat))))
          have Qr1X3_1 : Hid (Blk Zr11 X3 [.slice none 0 0, .int .i64 0, .int .i64 0, .int .i64 0] 63) := Lib.hid (by rw [hZ]; exact (((((((((Qr1X3_m.out.other _ _ NX3_X2).other _ _ NX3_X2).other _ _ NX3_X2).other _ _ NX3_X2).other _ _ NX3_X2).other _ _ NX3_X2).other _ _ NX3_X2).other _ _ NX3_X2).other _ _ NX3_X2))
          clear hZ
          refine wpAnyH_ready (rs := [4]) (by kernel_rfl) (by simp) (AllReadyH.cons rfl (fun K hK => ?_) AllReadyH.nil)
          have x0 := Qr1X3_1.out.cell (i := 0) rfl
          have xf0 := Qr1X3_1.out.free 0
          have x1 := Qr1X3_1.out.cell (i := 1) rfl
          have xf1 := Qr1X3_1.out.free 1
          have x2 := Qr1X3_1.out.cell (i := 2) rfl
          have xf2 := Qr1X3_1.out.free 2
          have x3 := Qr1X3_1.out.cell (i := 3) rfl
          have xf3 := Qr1X3_1.out.free 3
          go_simp
          refine hK.out _ _ ((((hHeld.setCell _ _ (.inl (by simp))).setCell _ _ (.inl (by simp))).setCell _ _ (.inl (by simp))).setCell _ _ (.inl (by simp))) (fun hHeld => ?_)
          clear hK K x0 xf0 x1 xf1 x2 xf2 x3 xf3
          try simp only [Act.put, List.setIfInBounds_toArray, List.set_cons_zero, List.set_cons_succ, List.getElem_toArray, List.getElem_cons_succ, List.getElem_cons_zero]
          obtain ⟨Zr12, hZ⟩ : ∃ Z, Z = ((((Zr11.setCell ⟨X3, 0, none⟩ (.slice aoE sE.l.length capE)).setCell ⟨X3, 1, none⟩ (.int .i64 (en : Int))).setCell ⟨X3, 2, none⟩ (.int .i64 (sE.err : Int))).setCell ⟨X3, 3, none⟩ (.int .i64 (sE.at_ : Int))) := ⟨_, rfl⟩
          rw [← hZ] at hHeld ⊢
          have Qr1X2_2 : Hid (Blk Zr12 X2 [.int .i64 (kd : Nat), .string ⟨tn.text.toArray⟩, .slice uo cW.length uc, .int .i64 0, .int .i64 (p6 : Nat), .int .i64 (q6 : Nat), .int .i64 (p8 : Nat), .int .i64 (q8 : Nat), .int .i64 (tk.at_ : Nat)] 42) := Lib.hid (by rw [hZ]; exact ((((Qr1X2_1.out.other _ _ NX2_X3).other _ _ NX2_X3).other _ _ NX2_X3).other _ _ NX2_X3))
          have Qr1X3_2 : Hid (Blk Zr12 X3 [.slice aoE sE.l.length capE, .int .i64 (en : Int), .int .i64 (sE.err : Int), .int .i64 (sE.at_ : Int)] 63) := Lib.hid (by rw [hZ]; exact ((((Qr1X3_1.out.set 0 (.slice aoE sE.l.length capE)).set 1 (.int .i64 (en : Int))).set 2 (.int .i64 (sE.err : Int))).set 3 (.int .i64 (sE.at_ : Int))))
          clear hZ
          refine wpAnyH_done (by kernel_rfl) ?_ _
          try simp only [Act.put, List.setIfInBounds_toArray, List.set_cons_zero, List.set_cons_succ, List.getElem_toArray, List.getElem_cons_succ, List.getElem_cons_zero]
          have HH := Lib.hid hHeld
          clear hHeld
          go_wp2_with fail
          (try simp only [Exit.inBlock, Exit.then])
          refine bodyPost_ret (results_cell_row2 rfl _ _ X2 X3 42 63 #[.int .i64 (kd : Nat), .string ⟨tn.text.toArray⟩, .slice uo cW.length uc, .int .i64 0, .int .i64 (p6 : Nat), .int .i64 (q6 : Nat), .int .i64 (p8 : Nat), .int .i64 (q8 : Nat), .int .i64 (tk.at_ : Nat)] #[.slice aoE sE.l.length capE, .int .i64 (en : Int), .int .i64 (sE.err : Int), .int .i64 (sE.at_ : Int)] (0, 0) (0, 0) _ _ rfl Qr1X2_2.out rfl Qr1X3_2.out Tryd.underlying42 rfl (by kernel_rfl) Tryd.underlying63 rfl (by kernel_rfl)) rfl ?_
          have CF : Hid (Chg [] w Zr12) := Lib.hid (C20.out.trans HH.out (fun k hk => .inr (by have OX1_ := OX1.out; have OX2_ := OX2.out; have OX3_ := OX3.out; simp only [List.mem_cons, List.not_mem_nil, or_false] at hk; omega)))
          have HLZ : Hid (ListS w.heap.size 46 1 (Cr w.heap.size) cW (.slice uo cW.length uc) Zr12) := Lib.hid (HLC.out.keep (kp_r _) HH.out (TyB.blk2 HX2_20.out HX3_20.out (by decide) (by decide)))
          have hs := item_eq HKD.out HKN.out HE3'.out HRS.out HEC.out HEE.out
          rw [HHD.out] at hs
          exact ⟨_, uo, uc, sE, aoE, capE, Lib.hid hs, Lib.hid (HSC.out.trans HSE.out), HLZ, CF, rfl⟩
set_option maxHeartbeats 8000000 in
set_option maxRecDepth 100000 in
theorem item_5 {w : World} {en : Nat} {s : RSt} {ao : Option Addr} {cap : Nat} (HT : Hid (TokS w (.slice ao s.l.length cap) s.l)) (HSM : Hid (Sm s.l)) (HN : Hid (s.l.length ≤ 100000)) (HKQ : Hid (RSt.lastIs s 1 Rl.kindsL 1 0 = 5)) {R : Ending → World → Prop}
    (h : ∀ (x : Rl.Itm) (uo : Option Addr) (uc : Nat) (s' : RSt) (ao' : Option Addr) (cap' : Nat) (w' : World), Hid (s.item en = (x, s')) → Hid (Suf ao cap s.l ao' cap' s'.l) → Hid (ListS w.heap.size 46 1 (Cr w.heap.size) x.whn (.slice uo x.whn.length uc) w') → Hid (Chg [] w w') → R (.returned (.tuple #[.agg #[.int .i64 (x.kind : Nat), .string ⟨x.name.toArray⟩, .slice uo x.whn.length uc, .int .i64 (x.n : Nat), .int .i64 (x.r.1 : Nat), .int .i64 (x.r.2 : Nat), .int .i64 (x.s.1 : Nat), .int .i64 (x.s.2 : Nat), .int .i64 (x.at_ : Nat)], .agg #[.slice ao' s'.l.length cap', .int .i64 (en : Int), .int .i64 (s'.err : Int), .int .i64 (s'.at_ : Int)]])) w') :
    Calls Tryd.prog 26 #[.agg #[.slice ao s.l.length cap, .int .i64 (en : Int), .int .i64 (s.err : Int), .int .i64 (s.at_ : Int)]] w R := by
  refine (show Calls Tryd.prog 26 #[.agg #[.slice ao s.l.length cap, .int .i64 (en : Int), .int .i64 (s.err : Int), .int .i64 (s.at_ : Int)]] w (fun e w' => ∃ x uo uc s' ao' cap', Hid (s.item en = (x, s')) ∧ Hid (Suf ao cap s.l ao' cap' s'.l) ∧ Hid (ListS w.heap.size 46 1 (Cr w.heap.size) x.whn (.slice uo x.whn.length uc) w') ∧ Hid (Chg [] w w') ∧ e = .returned (.tuple #[.agg #[.int .i64 (x.kind : Nat), .string ⟨x.name.toArray⟩, .slice uo x.whn.length uc, .int .i64 (x.n : Nat), .int .i64 (x.r.1 : Nat), .int .i64 (x.r.2 : Nat), .int .i64 (x.s.1 : Nat), .int .i64 (x.s.2 : Nat), .int .i64 (x.at_ : Nat)], .agg #[.slice ao' s'.l.length cap', .int .i64 (en : Int), .int .i64 (s'.err : Int), .int .i64 (s'.at_ : Int)]])) from ?_).mono (fun e w' hx => by obtain ⟨x, uo, uc, s', ao', cap', h1, h2, h3, h4, h5⟩ := hx; subst h5; exact h x uo uc s' ao' cap' w' h1 h2 h3 h4)
  clear h
  go_enter Tryd.func26, Tryd.ntmps26
  go_upto_region 1 with fail
  obtain ⟨W1, hW⟩ : ∃ W, W = (((w.alloc (.cells #[.slice ao s.l.length cap, .int .i64 (en : Int), .int .i64 (s.err : Int), .int .i64 (s.at_ : Int)] 63)).alloc (.cells #[.int .i64 0, .string ⟨#[]⟩, .slice none 0 0, .int .i64 0, .int .i64 0, .int .i64 0, .int .i64 0, .int .i64 0, .int .i64 0] 42)).alloc (.cells #[.slice none 0 0, .int .i64 0, .int .i64 0, .int .i64 0] 63)) := ⟨_, rfl⟩
  rw [← hW]
  obtain ⟨X3, hX3⟩ : ∃ T, T = w.heap.size + 1 + 1 := ⟨_, rfl⟩
  try rw [← hX3]
  obtain ⟨X2, hX2⟩ : ∃ T, T = w.heap.size + 1 := ⟨_, rfl⟩
  try rw [← hX2]
  obtain ⟨X1, hX1⟩ : ∃ T, T = w.heap.size := ⟨_, rfl⟩
  try rw [← hX1]
  have OX1 : Hid (w.heap.size ≤ X1) := Lib.hid (by rw [hX1]; exact Nat.le_refl _)
  have OX2 : Hid (X1 < X2) := Lib.hid (by rw [hX2, hX1]; omega)
  have OX3 : Hid (X2 < X3) := Lib.hid (by rw [hX3, hX2]; omega)
  have HX1_1 : Hid (Blk W1 X1 [.slice ao s.l.length cap, .int .i64 (en : Int), .int .i64 (s.err : Int), .int .i64 (s.at_ : Int)] 63) := Lib.hid (by
    have h1 := Blk.new w [.slice ao s.l.length cap, .int .i64 (en : Int), .int .i64 (s.err : Int), .int .i64 (s.at_ : Int)] 63
    have h2 : w.heap.size = X1 := by simp [hX1]
    rw [h2] at h1
    rw [hW]
    exact ((h1.alloc _).alloc _))
  have HX2_1 : Hid (Blk W1 X2 [.int .i64 0, .string ⟨#[]⟩, .slice none 0 0, .int .i64 0, .int .i64 0, .int .i64 0, .int .i64 0, .int .i64 0, .int .i64 0] 42) := Lib.hid (by
    have h1 := Blk.new (w.alloc (.cells #[.slice ao s.l.length cap, .int .i64 (en : Int), .int .i64 (s.err : Int), .int .i64 (s.at_ : Int)] 63)) [.int .i64 0, .string ⟨#[]⟩, .slice none 0 0, .int .i64 0, .int .i64 0, .int .i64 0, .int .i64 0, .int .i64 0, .int .i64 0] 42
    have h2 : (w.alloc (.cells #[.slice ao s.l.length cap, .int .i64 (en : Int), .int .i64 (s.err : Int), .int .i64 (s.at_ : Int)] 63)).heap.size = X2 := by simp [hX2]
    rw [h2] at h1
    rw [hW]
    exact (h1.alloc _))
  have HX3_1 : Hid (Blk W1 X3 [.slice none 0 0, .int .i64 0, .int .i64 0, .int .i64 0] 63) := Lib.hid (by
    have h1 := Blk.new ((w.alloc (.cells #[.slice ao s.l.length cap, .int .i64 (en : Int), .int .i64 (s.err : Int), .int .i64 (s.at_ : Int)] 63)).alloc (.cells #[.int .i64 0, .string ⟨#[]⟩, .slice none 0 0, .int .i64 0, .int .i64 0, .int .i64 0, .int .i64 0, .int .i64 0, .int .i64 0] 42)) [.slice none 0 0, .int .i64 0, .int .i64 0, .int .i64 0] 63
    have h2 : ((w.alloc (.cells #[.slice ao s.l.length cap, .int .i64 (en : Int), .int .i64 (s.err : Int), .int .i64 (s.at_ : Int)] 63)).alloc (.cells #[.int .i64 0, .string ⟨#[]⟩, .slice none 0 0, .int .i64 0, .int .i64 0, .int .i64 0, .int .i64 0, .int .i64 0, .int .i64 0] 42)).heap.size = X3 := by simp [hX3]
    rw [h2] at h1
    rw [hW]
    exact h1)
  have C1 : Hid (Chg [] w W1) := Lib.hid (by rw [hW]; exact ((((Chg.refl [] w).alloc _).alloc _).alloc _))
  clear hW hX1 hX2 hX3
  go_upto_region 2 with fail
  obtain ⟨W2, hW⟩ : ∃ W, W = (W1.alloc (.cells #[.int .i64 0, .string ⟨#[]⟩, .slice none 0 0, .int .i64 0, .int .i64 0, .int .i64 0, .int .i64 0, .int .i64 0, .int .i64 0] 42)) := ⟨_, rfl⟩
  rw [← hW]
  obtain ⟨T4, hT4⟩ : ∃ T, T = W1.heap.size := ⟨_, rfl⟩
  try rw [← hT4]
  have OT4 : Hid (X3 < T4) := Lib.hid (by rw [hT4]; exact HX3_1.out.lt)
  have HX1_2 : Hid (Blk W2 X1 [.slice ao s.l.length cap, .int .i64 (en : Int), .int .i64 (s.err : Int), .int .i64 (s.at_ : Int)] 63) := Lib.hid (by rw [hW]; exact (HX1_1.out.alloc _))
  have HX2_2 : Hid (Blk W2 X2 [.int .i64 0, .string ⟨#[]⟩, .slice none 0 0, .int .i64 0, .int .i64 0, .int .i64 0, .int .i64 0, .int .i64 0, .int .i64 0] 42) := Lib.hid (by rw [hW]; exact (HX2_1.out.alloc _))
  have HX3_2 : Hid (Blk W2 X3 [.slice none 0 0, .int .i64 0, .int .i64 0, .int .i64 0] 63) := Lib.hid (by rw [hW]; exact (HX3_1.out.alloc _))
  have HT4_2 : Hid (Blk W2 T4 [.int .i64 0, .string ⟨#[]⟩, .slice none 0 0, .int .i64 0, .int .i64 0, .int .i64 0, .int .i64 0, .int .i64 0, .int .i64 0] 42) := Lib.hid (by
    have h1 := Blk.new W1 [.int .i64 0, .string ⟨#[]⟩, .slice none 0 0, .int .i64 0, .int .i64 0, .int .i64 0, .int .i64 0, .int .i64 0, .int .i64 0] 42
    have h2 : W1.heap.size = T4 := by simp [hT4]
    rw [h2] at h1
    rw [hW]
    exact h1)
  have C2 : Hid (Chg [] w W2) := Lib.hid (by rw [hW]; exact (C1.out.alloc _))
  clear hW hT4
  go_upto_region 3 with fail
  obtain ⟨W3, hW⟩ : ∃ W, W = (W2.alloc (.cells #[.string ⟨#[97, 108, 108, 111, 119]⟩, .string ⟨#[100, 101, 110, 121]⟩, .string ⟨#[112, 114, 105, 99, 101]⟩, .string ⟨#[114, 101, 115, 97, 108, 101]⟩, .string ⟨#[114, 101, 102, 117, 110, 100]⟩, .string ⟨#[116, 111, 103, 101, 116, 104, 101, 114]⟩, .string ⟨#[115, 105, 110, 103, 108, 101]⟩] 9)) := ⟨_, rfl⟩
  rw [← hW]
  obtain ⟨T5, hT5⟩ : ∃ T, T = W2.heap.size := ⟨_, rfl⟩
  try rw [← hT5]
  have OT5 : Hid (T4 < T5) := Lib.hid (by rw [hT5]; exact HT4_2.out.lt)
  have HX1_3 : Hid (Blk W3 X1 [.slice ao s.l.length cap, .int .i64 (en : Int), .int .i64 (s.err : Int), .int .i64 (s.at_ : Int)] 63) := Lib.hid (by rw [hW]; exact (HX1_2.out.alloc _))
  have HX2_3 : Hid (Blk W3 X2 [.int .i64 0, .string ⟨#[]⟩, .slice none 0 0, .int .i64 0, .int .i64 0, .int .i64 0, .int .i64 0, .int .i64 0, .int .i64 0] 42) := Lib.hid (by rw [hW]; exact (HX2_2.out.alloc _))
  have HX3_3 : Hid (Blk W3 X3 [.slice none 0 0, .int .i64 0, .int .i64 0, .int .i64 0] 63) := Lib.hid (by rw [hW]; exact (HX3_2.out.alloc _))
  have HT4_3 : Hid (Blk W3 T4 [.int .i64 0, .string ⟨#[]⟩, .slice none 0 0, .int .i64 0, .int .i64 0, .int .i64 0, .int .i64 0, .int .i64 0, .int .i64 0] 42) := Lib.hid (by rw [hW]; exact (HT4_2.out.alloc _))
  have HT5_3 : Hid (Blk W3 T5 [.string ⟨#[97, 108, 108, 111, 119]⟩, .string ⟨#[100, 101, 110, 121]⟩, .string ⟨#[112, 114, 105, 99, 101]⟩, .string ⟨#[114, 101, 115, 97, 108, 101]⟩, .string ⟨#[114, 101, 102, 117, 110, 100]⟩, .string ⟨#[116, 111, 103, 101, 116, 104, 101, 114]⟩, .string ⟨#[115, 105, 110, 103, 108, 101]⟩] 9) := Lib.hid (by
    have h1 := Blk.new W2 [.string ⟨#[97, 108, 108, 111, 119]⟩, .string ⟨#[100, 101, 110, 121]⟩, .string ⟨#[112, 114, 105, 99, 101]⟩, .string ⟨#[114, 101, 115, 97, 108, 101]⟩, .string ⟨#[114, 101, 102, 117, 110, 100]⟩, .string ⟨#[116, 111, 103, 101, 116, 104, 101, 114]⟩, .string ⟨#[115, 105, 110, 103, 108, 101]⟩] 9
    have h2 : W2.heap.size = T5 := by simp [hT5]
    rw [h2] at h1
    rw [hW]
    exact h1)
  have C3 : Hid (Chg [] w W3) := Lib.hid (by rw [hW]; exact (C2.out.alloc _))
  clear hW hT5
  go_wp2_with fail
  go_loopw [6] (fun i wr => ∃ (j op : Nat), i = .int .i64 (j : Int) ∧ j ≤ 7 ∧ Hid (op = RSt.lastIs s 1 (Rl.kindsL.take j) 1 0) ∧ Hid (Blk wr T4 [.int .i64 (op : Nat), .string ⟨#[]⟩, .slice none 0 0, .int .i64 0, .int .i64 0, .int .i64 0, .int .i64 0, .int .i64 0, .int .i64 0] 42) ∧ Hid (Chg [T4] W3 wr)) (fun i _ => 7 - (intOf i).toNat)
  case atStart => exact ⟨0, 0, rfl, Nat.zero_le _, Lib.hid rfl, HT4_3, Lib.hid (Chg.refl _ _)⟩
  case round =>
    obtain ⟨j, op, rfl, hj, HOP, HT4, HCL⟩ := hrel
    have NX1_T4 : X1 ≠ T4 := by have OX2_ := OX2.out; have OX3_ := OX3.out; have OT4_ := OT4.out; omega
    have NT4_X1 : T4 ≠ X1 := NX1_T4.symm
    have NX2_T4 : X2 ≠ T4 := by have OX3_ := OX3.out; have OT4_ := OT4.out; omega
    have NT4_X2 : T4 ≠ X2 := NX2_T4.symm
    have NX3_T4 : X3 ≠ T4 := by have OT4_ := OT4.out; omega
    have NT4_X3 : T4 ≠ X3 := NX3_T4.symm
    have NT5_T4 : T5 ≠ T4 := by have OT5_ := OT5.out; omega
    have NT4_T5 : T4 ≠ T5 := NT5_T4.symm
    have HX1_4 : Hid (Blk wr X1 [.slice ao s.l.length cap, .int .i64 (en : Int), .int .i64 (s.err : Int), .int .i64 (s.at_ : Int)] 63) := Lib.hid (HCL.out.blk HX1_3.out (by simp [NX1_T4]))
    have HX2_4 : Hid (Blk wr X2 [.int .i64 0, .string ⟨#[]⟩, .slice none 0 0, .int .i64 0, .int .i64 0, .int .i64 0, .int .i64 0, .int .i64 0, .int .i64 0] 42) := Lib.hid (HCL.out.blk HX2_3.out (by simp [NX2_T4]))
    have HX3_4 : Hid (Blk wr X3 [.slice none 0 0, .int .i64 0, .int .i64 0, .int .i64 0] 63) := Lib.hid (HCL.out.blk HX3_3.out (by simp [NX3_T4]))
    have HT5_4 : Hid (Blk wr T5 [.string ⟨#[97, 108, 108, 111, 119]⟩, .string ⟨#[100, 101, 110, 121]⟩, .string ⟨#[112, 114, 105, 99, 101]⟩, .string ⟨#[114, 101, 115, 97, 108, 101]⟩, .string ⟨#[114, 101, 102, 117, 110, 100]⟩, .string ⟨#[116, 111, 103, 101, 116, 104, 101, 114]⟩, .string ⟨#[115, 105, 110, 103, 108, 101]⟩] 9) := Lib.hid (HCL.out.blk HT5_3.out (by simp [NT5_T4]))
    have C4 : Hid (Chg [] w wr) := Lib.hid (C3.out.trans HCL.out (fun k hk => .inr (by have OX1_ := OX1.out; have OX2_ := OX2.out; have OX3_ := OX3.out; have OT4_ := OT4.out; simp only [List.mem_cons, List.not_mem_nil, or_false] at hk; omega)))
    by_cases hlt : j < 7
    · skip
      obtain ⟨x, hx⟩ : ∃ x, Rl.kindsL[j]? = some x := ⟨Rl.kindsL[j]'(by show j < 7; omega), List.getElem?_eq_getElem _⟩
      have hxc : wr.cell? ⟨T5, j, none⟩ = some (.string ⟨x.toArray⟩) := HT5_4.out.cell (i := j) (by
        show (Rl.kindsL.map (fun x => Value.string ⟨x.toArray⟩))[j]? = _
        rw [List.getElem?_map, hx]
        rfl)
      have HXC := Lib.hid hxc
      have HXX := Lib.hid hx
      clear hxc hx
      have q0 : (0 : Int) ≤ (j : Int) := by omega
      have q1 : (j : Int) < 7 := by omega
      have qj : ((j : Int)).toNat = j := by omega
      obtain ⟨j1, hj1⟩ : ∃ j1, j1 = j + 1 := ⟨_, rfl⟩
      have HJ1 : Hid (((j : Int) + 1) = (j1 : Int)) := Lib.hid (by omega)
      go_upto_region 6 with fail
      refine wp_region_held_drew (S := fun W' => Chg [] wr W') (by kernel_rfl) (Chg.refl _ _).drew (fun hHeld => ?_)
      refine wpAnyH_take (i := 0) (v := ?vu0) rfl (by kernel_rfl) (by kernel_rfl) (by kernel_rfl) (fun _ _ _ h => h) (Or.inl ⟨by kernel_rfl, ?hyu0⟩) (by assumption) ?rsu0
      case hyu0 => (intro w9 hSw; have e0 := cell_quiet hSw (HX1_4.out.cell (i := 0) rfl) (by simp); have e1 := cell_quiet hSw (HX1_4.out.cell (i := 1) rfl) (by simp); have e2 := cell_quiet hSw (HX1_4.out.cell (i := 2) rfl) (by simp); have e3 := cell_quiet hSw (HX1_4.out.cell (i := 3) rfl) (by simp); go_simp; try with_reducible rfl)
      try simp only [Act.put, List.setIfInBounds_toArray, List.set_cons_zero, List.set_cons_succ, List.getElem_toArray, List.getElem_cons_succ, List.getElem_cons_zero]
      refine wpAnyH_take (i := 1) (v := ?vu1) rfl (by kernel_rfl) (by kernel_rfl) (by kernel_rfl) (fun _ _ _ h => h) (Or.inl ⟨by kernel_rfl, ?hyu1⟩) (by assumption) ?rsu1
      case hyu1 => (intro w9 hSw; skip; go_simp; try with_reducible rfl)
      try simp only [Act.put, List.setIfInBounds_toArray, List.set_cons_zero, List.set_cons_succ, List.getElem_toArray, List.getElem_cons_succ, List.getElem_cons_zero]
      refine wpAnyH_take (i := 2) (v := ?vu2) rfl (by kernel_rfl) (by kernel_rfl) (by kernel_rfl) (fun _ _ _ h => h) (Or.inl ⟨by kernel_rfl, ?hyu2⟩) (by assumption) ?rsu2
      case hyu2 => (intro w9 hSw; skip; go_simp; try with_reducible rfl)
      try simp only [Act.put, List.setIfInBounds_toArray, List.set_cons_zero, List.set_cons_succ, List.getElem_toArray, List.getElem_cons_succ, List.getElem_cons_zero]
      refine wpAnyH_take (i := 3) (v := ?vu3) rfl (by kernel_rfl) (by kernel_rfl) (by kernel_rfl) (fun _ _ _ h => h) (Or.inl ⟨by kernel_rfl, ?hyu3⟩) (by assumption) ?rsu3
      case hyu3 => (intro w9 hSw; skip; go_simp; try with_reducible rfl)
      try simp only [Act.put, List.setIfInBounds_toArray, List.set_cons_zero, List.set_cons_succ, List.getElem_toArray, List.getElem_cons_succ, List.getElem_cons_zero]
      refine wpAnyH_take (i := 4) (v := ?vu4) rfl (by kernel_rfl) (by kernel_rfl) (by kernel_rfl) (fun _ _ _ h => h) (Or.inl ⟨by kernel_rfl, ?hyu4⟩) (by assumption) ?rsu4
      case hyu4 => (intro w9 hSw; have e := cell_quiet hSw HXC.out (by simp); go_simp; try with_reducible rfl)
      try simp only [Act.put, List.setIfInBounds_toArray, List.set_cons_zero, List.set_cons_succ, List.getElem_toArray, List.getElem_cons_succ, List.getElem_cons_zero]
      refine wpAnyH_ready (rs := [5]) (by kernel_rfl) (by simp) (AllReadyH.cons rfl (fun K hK => ?_) AllReadyH.nil)
      go_simp
      refine is_r (Lib.hid (HT.out.quiet (C4.out.drew))) 1 x (fun b w9 HB9 D9 => ?_)
      refine hK.out _ _ (hHeld.trans D9.out (by simp)) (fun hHeld => ?_)
      clear hK K
      try simp only [Act.put, List.setIfInBounds_toArray, List.set_cons_zero, List.set_cons_succ, List.getElem_toArray, List.getElem_cons_succ, List.getElem_cons_zero]
      refine wpAnyH_done (by kernel_rfl) ?_ _
      try simp only [Act.put, List.setIfInBounds_toArray, List.set_cons_zero, List.set_cons_succ, List.getElem_toArray, List.getElem_cons_succ, List.getElem_cons_zero]
      have HHu := Lib.hid hHeld
      clear hHeld
      have HT4_5 : Hid (Blk w9 T4 [.int .i64 (op : Nat), .string ⟨#[]⟩, .slice none 0 0, .int .i64 0, .int .i64 0, .int .i64 0, .int .i64 0, .int .i64 0, .int .i64 0] 42) := Lib.hid (HHu.out.blk HT4.out (by simp))
      have HNX : Hid (RSt.lastIs s 1 (Rl.kindsL.take j1) 1 0 = if b = true then j1 else op) := Lib.hid (by
        rw [hj1, take_snoc HXX.out, lastIs_snoc, HB9.out, ← HOP.out, List.length_take]
        have : 1 + min j Rl.kindsL.length = j + 1 := by show 1 + min j 7 = j + 1; omega
        rw [this])
      have HCL9 : Hid (Chg [T4] W3 w9) := Lib.hid (HCL.out.trans HHu.out (by simp))
      cases b with
      | true =>
        have cT4_0 := HT4_5.out.cell (i := 0) rfl
        have cT4_1 := HT4_5.out.cell (i := 1) rfl
        have cT4_2 := HT4_5.out.cell (i := 2) rfl
        have cT4_3 := HT4_5.out.cell (i := 3) rfl
        have cT4_4 := HT4_5.out.cell (i := 4) rfl
        have cT4_5 := HT4_5.out.cell (i := 5) rfl
        have cT4_6 := HT4_5.out.cell (i := 6) rfl
        have cT4_7 := HT4_5.out.cell (i := 7) rfl
        have cT4_8 := HT4_5.out.cell (i := 8) rfl
        have cT4_f0 := HT4_5.out.free 0
        have cT4_f1 := HT4_5.out.free 1
        have cT4_f2 := HT4_5.out.free 2
        have cT4_f3 := HT4_5.out.free 3
        have cT4_f4 := HT4_5.out.free 4
        have cT4_f5 := HT4_5.out.free 5
        have cT4_f6 := HT4_5.out.free 6
        have cT4_f7 := HT4_5.out.free 7
        have cT4_f8 := HT4_5.out.free 8
        go_wp2_with fail
        clear cT4_0 cT4_1 cT4_2 cT4_3 cT4_4 cT4_5 cT4_6 cT4_7 cT4_8 cT4_f0 cT4_f1 cT4_f2 cT4_f3 cT4_f4 cT4_f5 cT4_f6 cT4_f7 cT4_f8
        rw [HJ1.out]
        refine ⟨?_, by simp [intOf]; omega⟩
        have HX9 : Hid (Blk (w9.setCell ⟨T4, 0, none⟩ (.int .i64 (j1 : Nat))) T4 [.int .i64 (j1 : Nat), .string ⟨#[]⟩, .slice none 0 0, .int .i64 0, .int .i64 0, .int .i64 0, .int .i64 0, .int .i64 0, .int .i64 0] 42) := Lib.hid (HT4_5.out.set 0 _)
        have HC9 : Hid (Chg [T4] W3 (w9.setCell ⟨T4, 0, none⟩ (.int .i64 (j1 : Nat)))) := Lib.hid (HCL9.out.setCell _ _ (.inl (by simp)))
        have HNY : Hid (j1 = RSt.lastIs s 1 (Rl.kindsL.take j1) 1 0) := Lib.hid (by rw [HNX.out]; rfl)
        first | exact ⟨j1, j1, rfl, by omega, HNY, HX9, HC9⟩ | ((repeat apply Exists.intro); exact ⟨⟨j1, j1, rfl, by omega, HNY, HX9, HC9⟩, rfl⟩)
      | false =>
        go_wp2_with fail
        rw [HJ1.out]
        refine ⟨?_, by simp [intOf]; omega⟩
        have HNY : Hid (op = RSt.lastIs s 1 (Rl.kindsL.take j1) 1 0) := Lib.hid (by rw [HNX.out]; rfl)
        first | exact ⟨j1, op, rfl, by omega, HNY, HT4_5, HCL9⟩ | ((repeat apply Exists.intro); exact ⟨⟨j1, op, rfl, by omega, HNY, HT4_5, HCL9⟩, rfl⟩)
    · obtain rfl : j = 7 := by omega
      obtain ⟨kd, hkd⟩ : ∃ kd, kd = op := ⟨_, rfl⟩
      subst hkd
      have HKD : Hid (RSt.lastIs s 1 Rl.kindsL 1 0 = kd) := Lib.hid HOP.out.symm
      clear hlt hj
      clear HT5_4
      have cT4_0 := HT4.out.cell (i := 0) rfl
      have cT4_1 := HT4.out.cell (i := 1) rfl
      have cT4_2 := HT4.out.cell (i := 2) rfl
      have cT4_3 := HT4.out.cell (i := 3) rfl
      have cT4_4 := HT4.out.cell (i := 4) rfl
      have cT4_5 := HT4.out.cell (i := 5) rfl
      have cT4_6 := HT4.out.cell (i := 6) rfl
      have cT4_7 := HT4.out.cell (i := 7) rfl
      have cT4_8 := HT4.out.cell (i := 8) rfl
      go_upto_if 41 with fail
      clear cT4_0 cT4_1 cT4_2 cT4_3 cT4_4 cT4_5 cT4_6 cT4_7 cT4_8
      have h0 : ¬ kd = 0 := by rw [← HKD.out, HKQ.out]; decide
      have q2 : ((kd : Int) == 0) = false := beq_eq_false_iff_ne.2 (by omega)
      obtain ⟨her, tk, rr, hl⟩ := lastIs_cons (s := s) (k := 1) (l := Rl.kindsL) (i := 1) (o := 0) (by rw [HKD.out]; exact h0)
      have HKN := Lib.hid h0
      have HHD : Hid (s.hd.at_ = tk.at_) := Lib.hid (by unfold RSt.hd; rw [hl]; rfl)
      obtain ⟨s2, hs2⟩ : ∃ s2, s2 = s.tl := ⟨_, rfl⟩
      have HS2E := Lib.hid hs2
      have hl2 : s2.l = rr := by rw [hs2]; unfold RSt.tl; rw [hl]; rfl
      obtain ⟨rn, hrn⟩ : ∃ n, rr.length = n := ⟨_, rfl⟩
      have hn1 : s.l.length = rn + 1 := by rw [hl, ← hrn]; rfl
      have hn2 : s2.l.length = rn := by rw [hl2, hrn]
      have he2 : s2.err = s.err ∧ s2.at_ = s.at_ := by rw [hs2]; exact ⟨rfl, rfl⟩
      have hsuf : ∀ g off, ao = some ⟨g, off, none⟩ → rn + 1 ≤ cap → ∀ off' cap', (rr ≠ [] → off' = off + 4) → rn ≤ cap' → Suf ao cap s.l (some ⟨g, off', none⟩) cap' s2.l := by
        intro g off e1 _ off' cap' h1 h2 v hv
        rw [hl2]
        rw [hl, e1] at hv
        exact TokS.tl hv h1 (by rw [hrn]; exact h2)
      have hhd := HT.out
      rw [hl] at hhd
      obtain ⟨g, off, hao, -, hcap, -, -, -, k3⟩ := hhd.hd
      rw [hrn] at hcap
      have HK3 := Lib.hid k3
      have HSUF := Lib.hid (hsuf g off hao hcap)
      have HCAP := Lib.hid hcap
      have HRN := Lib.hid hrn
      have HN2 := Lib.hid hn2
      have HE2 := Lib.hid he2
      have HN1 := Lib.hid hn1
      have HAO := Lib.hid hao
      clear hsuf hcap hs2 hl2 hn2 he2 hhd hl hrn h0 k3
      have z0 := HX1_4.out.cell (i := 0) rfl
      have z1 := HX1_4.out.cell (i := 1) rfl
      have z2 := HX1_4.out.cell (i := 2) rfl
      have z3 := HX1_4.out.cell (i := 3) rfl
      have cT4_0 := HT4.out.cell (i := 0) rfl
      have cT4_1 := HT4.out.cell (i := 1) rfl
      have cT4_2 := HT4.out.cell (i := 2) rfl
      have cT4_3 := HT4.out.cell (i := 3) rfl
      have cT4_4 := HT4.out.cell (i := 4) rfl
      have cT4_5 := HT4.out.cell (i := 5) rfl
      have cT4_6 := HT4.out.cell (i := 6) rfl
      have cT4_7 := HT4.out.cell (i := 7) rfl
      have cT4_8 := HT4.out.cell (i := 8) rfl
      have cT4_f0 := HT4.out.free 0
      have cT4_f1 := HT4.out.free 1
      have cT4_f2 := HT4.out.free 2
      have cT4_f3 := HT4.out.free 3
      have cT4_f4 := HT4.out.free 4
      have cT4_f5 := HT4.out.free 5
      have cT4_f6 := HT4.out.free 6
      have cT4_f7 := HT4.out.free 7
      have cT4_f8 := HT4.out.free 8
      rw [HAO.out, HN1.out] at z0
      have k3 := cell_quiet C4.out HK3.out (by simp)
      have n1 : (0 : Int) < (rn : Int) + 1 := by omega
      clear hao hn1
      go_upto_region 11 with fail
      clear k3 n1 z0 z1 z2 z3 cT4_0 cT4_1 cT4_2 cT4_3 cT4_4 cT4_5 cT4_6 cT4_7 cT4_8 cT4_f0 cT4_f1 cT4_f2 cT4_f3 cT4_f4 cT4_f5 cT4_f6 cT4_f7 cT4_f8
      obtain ⟨W5, hW⟩ : ∃ W, W = (wr.setCell ⟨T4, 8, none⟩ (.int .i64 (tk.at_ : Nat))) := ⟨_, rfl⟩
      rw [← hW]
      have HX1_5 : Hid (Blk W5 X1 [.slice ao s.l.length cap, .int .i64 (en : Int), .int .i64 (s.err : Int), .int .i64 (s.at_ : Int)] 63) := Lib.hid (by rw [hW]; exact (HX1_4.out.other _ _ NX1_T4))
      have HX2_5 : Hid (Blk W5 X2 [.int .i64 0, .string ⟨#[]⟩, .slice none 0 0, .int .i64 0, .int .i64 0, .int .i64 0, .int .i64 0, .int .i64 0, .int .i64 0] 42) := Lib.hid (by rw [hW]; exact (HX2_4.out.other _ _ NX2_T4))
      have HX3_5 : Hid (Blk W5 X3 [.slice none 0 0, .int .i64 0, .int .i64 0, .int .i64 0] 63) := Lib.hid (by rw [hW]; exact (HX3_4.out.other _ _ NX3_T4))
      have HT4_5 : Hid (Blk W5 T4 [.int .i64 (kd : Nat), .string ⟨#[]⟩, .slice none 0 0, .int .i64 0, .int .i64 0, .int .i64 0, .int .i64 0, .int .i64 0, .int .i64 (tk.at_ : Nat)] 42) := Lib.hid (by rw [hW]; exact (HT4.out.set 8 (.int .i64 (tk.at_ : Nat))))
      have C5 : Hid (Chg [] w W5) := Lib.hid (by rw [hW]; exact (C4.out.setCell _ _ (.inr (by have OX1_ := OX1.out; have OX2_ := OX2.out; have OX3_ := OX3.out; have OT4_ := OT4.out; show w.heap.size ≤ T4; omega))))
      clear hW
      have z0 := HX1_5.out.cell (i := 0) rfl
      have z1 := HX1_5.out.cell (i := 1) rfl
      have z2 := HX1_5.out.cell (i := 2) rfl
      have z3 := HX1_5.out.cell (i := 3) rfl
      have zf0 := HX1_5.out.free 0
      have zf1 := HX1_5.out.free 1
      have zf2 := HX1_5.out.free 2
      have zf3 := HX1_5.out.free 3
      rw [HAO.out, HN1.out] at z0
      go_cut [53] from 51 (fun v wc => ∃ off' cap', v = .slice (some ⟨g, off', none⟩) s2.l.length cap' ∧ (rr ≠ [] → off' = off + 4) ∧ rn ≤ cap' ∧ wc = W5.setCell ⟨X1, 0, none⟩ (.slice (some ⟨g, off', none⟩) s2.l.length cap'))
      case first =>
        have hcap := HCAP.out
        by_cases hc1 : cap = 1
        · subst hc1
          obtain rfl : rn = 0 := by omega
          go_wp2_with fail
          go_meet
          case rel => exact ⟨off, 0, by rw [HN2.out], fun h => absurd (List.eq_nil_of_length_eq_zero HRN.out) h, Nat.le_refl _, by rw [HN2.out]⟩
        · obtain ⟨c, rfl⟩ : ∃ c, cap = c + 2 := ⟨cap - 2, by omega⟩
          go_wp2_with fail
          go_meet
          case rel => exact ⟨off + 4, c + 1, by rw [HN2.out], fun _ => rfl, by omega, by rw [HN2.out]⟩
      case rest =>
        obtain ⟨off', cap2, rfl, hof, hcp, hwc⟩ := hcut
        have HS2 := Lib.hid (HSUF.out off' cap2 hof hcp)
        clear hof hcp z0 z1 z2 z3 zf0 zf1 zf2 zf3
        subst hwc
        obtain ⟨ao2, hao2⟩ : ∃ a : Option Addr, a = some ⟨g, off', none⟩ := ⟨_, rfl⟩
        rw [← hao2] at HS2 ⊢
        clear hao2
        have NX2_X1 : X2 ≠ X1 := by have OX2_ := OX2.out; omega
        have NX1_X2 : X1 ≠ X2 := NX2_X1.symm
        have NX3_X1 : X3 ≠ X1 := by have OX2_ := OX2.out; have OX3_ := OX3.out; omega
        have NX1_X3 : X1 ≠ X3 := NX3_X1.symm
        obtain ⟨W6, hW⟩ : ∃ W, W = (W5.setCell ⟨X1, 0, none⟩ (.slice ao2 s2.l.length cap2)) := ⟨_, rfl⟩
        rw [← hW]
        have HX1_6 : Hid (Blk W6 X1 [.slice ao2 s2.l.length cap2, .int .i64 (en : Int), .int .i64 (s.err : Int), .int .i64 (s.at_ : Int)] 63) := Lib.hid (by rw [hW]; exact (HX1_5.out.set 0 (.slice ao2 s2.l.length cap2)))
        have HX2_6 : Hid (Blk W6 X2 [.int .i64 0, .string ⟨#[]⟩, .slice none 0 0, .int .i64 0, .int .i64 0, .int .i64 0, .int .i64 0, .int .i64 0, .int .i64 0] 42) := Lib.hid (by rw [hW]; exact (HX2_5.out.other _ _ NX2_X1))
        have HX3_6 : Hid (Blk W6 X3 [.slice none 0 0, .int .i64 0, .int .i64 0, .int .i64 0] 63) := Lib.hid (by rw [hW]; exact (HX3_5.out.other _ _ NX3_X1))
        have HT4_6 : Hid (Blk W6 T4 [.int .i64 (kd : Nat), .string ⟨#[]⟩, .slice none 0 0, .int .i64 0, .int .i64 0, .int .i64 0, .int .i64 0, .int .i64 0, .int .i64 (tk.at_ : Nat)] 42) := Lib.hid (by rw [hW]; exact (HT4_5.out.other _ _ NT4_X1))
        have C6 : Hid (Chg [] w W6) := Lib.hid (by rw [hW]; exact (C5.out.setCell _ _ (.inr (by have OX1_ := OX1.out; show w.heap.size ≤ X1; omega))))
        clear hW
        have HX1s : Hid (Blk W6 X1 [.slice ao2 s2.l.length cap2, .int .i64 (en : Int), .int .i64 (s2.err : Int), .int .i64 (s2.at_ : Int)] 63) := Lib.hid (by have := HX1_6.out; rw [← HE2.out.1, ← HE2.out.2] at this; exact this)
        have cX1_0 := HX1s.out.cell (i := 0) rfl
        have cX1_1 := HX1s.out.cell (i := 1) rfl
        have cX1_2 := HX1s.out.cell (i := 2) rfl
        have cX1_3 := HX1s.out.cell (i := 3) rfl
        go_wp2_with fail
        clear cX1_0 cX1_1 cX1_2 cX1_3
        refine take_r (Lib.hid (HS2.out.to HT.out C6.out)) 1 (fun tn s3 ao3 cap3 w3 HE3 HS3 D3 => ?_)
        have HX1_7 : Hid (Blk w3 X1 [.slice ao2 s2.l.length cap2, .int .i64 (en : Int), .int .i64 (s2.err : Int), .int .i64 (s2.at_ : Int)] 63) := Lib.hid (D3.out.blk HX1s.out (by simp))
        have HX2_7 : Hid (Blk w3 X2 [.int .i64 0, .string ⟨#[]⟩, .slice none 0 0, .int .i64 0, .int .i64 0, .int .i64 0, .int .i64 0, .int .i64 0, .int .i64 0] 42) := Lib.hid (D3.out.blk HX2_6.out (by simp))
        have HX3_7 : Hid (Blk w3 X3 [.slice none 0 0, .int .i64 0, .int .i64 0, .int .i64 0] 63) := Lib.hid (D3.out.blk HX3_6.out (by simp))
        have HT4_7 : Hid (Blk w3 T4 [.int .i64 (kd : Nat), .string ⟨#[]⟩, .slice none 0 0, .int .i64 0, .int .i64 0, .int .i64 0, .int .i64 0, .int .i64 0, .int .i64 (tk.at_ : Nat)] 42) := Lib.hid (D3.out.blk HT4_6.out (by simp))
        have C7 : Hid (Chg [] w w3) := Lib.hid (C6.out.trans D3.out (by simp))
        have cX1_0 := fun o0 : Obj => (HX1_7.out.alloc o0).cell (i := 0) rfl
        have cX1_1 := fun o0 : Obj => (HX1_7.out.alloc o0).cell (i := 1) rfl
        have cX1_2 := fun o0 : Obj => (HX1_7.out.alloc o0).cell (i := 2) rfl
        have cX1_3 := fun o0 : Obj => (HX1_7.out.alloc o0).cell (i := 3) rfl
        have cX1_f0 := fun o0 : Obj => (HX1_7.out.alloc o0).free 0
        have cX1_f1 := fun o0 : Obj => (HX1_7.out.alloc o0).free 1
        have cX1_f2 := fun o0 : Obj => (HX1_7.out.alloc o0).free 2
        have cX1_f3 := fun o0 : Obj => (HX1_7.out.alloc o0).free 3
        go_upto_region 13 with fail
        clear cX1_0 cX1_1 cX1_2 cX1_3 cX1_f0 cX1_f1 cX1_f2 cX1_f3
        obtain ⟨W8, hW⟩ : ∃ W, W = (((((w3.alloc (.cells #[.int .i64 (tn.kind : Nat), .string ⟨tn.text.toArray⟩, .int .i64 (tn.n : Nat), .int .i64 (tn.at_ : Nat)] 44)).setCell ⟨X1, 0, none⟩ (.slice ao3 s3.l.length cap3)).setCell ⟨X1, 1, none⟩ (.int .i64 (en : Int))).setCell ⟨X1, 2, none⟩ (.int .i64 (s3.err : Int))).setCell ⟨X1, 3, none⟩ (.int .i64 (s3.at_ : Int))) := ⟨_, rfl⟩
        rw [← hW]
        obtain ⟨T7, hT7⟩ : ∃ T, T = w3.heap.size := ⟨_, rfl⟩
        try rw [← hT7]
        have OT7 : Hid (T4 < T7) := Lib.hid (by rw [hT7]; exact HT4_7.out.lt)
        have NT7_X1 : T7 ≠ X1 := by have OX2_ := OX2.out; have OX3_ := OX3.out; have OT4_ := OT4.out; have OT5_ := OT5.out; have OT7_ := OT7.out; omega
        have NX1_T7 : X1 ≠ T7 := NT7_X1.symm
        have HX1_8 : Hid (Blk W8 X1 [.slice ao3 s3.l.length cap3, .int .i64 (en : Int), .int .i64 (s3.err : Int), .int .i64 (s3.at_ : Int)] 63) := Lib.hid (by rw [hW]; exact (((((HX1_7.out.alloc _).set 0 (.slice ao3 s3.l.length cap3)).set 1 (.int .i64 (en : Int))).set 2 (.int .i64 (s3.err : Int))).set 3 (.int .i64 (s3.at_ : Int))))
        have HX2_8 : Hid (Blk W8 X2 [.int .i64 0, .string ⟨#[]⟩, .slice none 0 0, .int .i64 0, .int .i64 0, .int .i64 0, .int .i64 0, .int .i64 0, .int .i64 0] 42) := Lib.hid (by rw [hW]; exact (((((HX2_7.out.alloc _).other _ _ NX2_X1).other _ _ NX2_X1).other _ _ NX2_X1).other _ _ NX2_X1))
        have HX3_8 : Hid (Blk W8 X3 [.slice none 0 0, .int .i64 0, .int .i64 0, .int .i64 0] 63) := Lib.hid (by rw [hW]; exact (((((HX3_7.out.alloc _).other _ _ NX3_X1).other _ _ NX3_X1).other _ _ NX3_X1).other _ _ NX3_X1))
        have HT4_8 : Hid (Blk W8 T4 [.int .i64 (kd : Nat), .string ⟨#[]⟩, .slice none 0 0, .int .i64 0, .int .i64 0, .int .i64 0, .int .i64 0, .int .i64 0, .int .i64 (tk.at_ : Nat)] 42) := Lib.hid (by rw [hW]; exact (((((HT4_7.out.alloc _).other _ _ NT4_X1).other _ _ NT4_X1).other _ _ NT4_X1).other _ _ NT4_X1))
        have HT7_8 : Hid (Blk W8 T7 [.int .i64 (tn.kind : Nat), .string ⟨tn.text.toArray⟩, .int .i64 (tn.n : Nat), .int .i64 (tn.at_ : Nat)] 44) := Lib.hid (by
          have h1 := Blk.new w3 [.int .i64 (tn.kind : Nat), .string ⟨tn.text.toArray⟩, .int .i64 (tn.n : Nat), .int .i64 (tn.at_ : Nat)] 44
          have h2 : w3.heap.size = T7 := by simp [hT7]
          rw [h2] at h1
          rw [hW]
          exact ((((h1.other _ _ NT7_X1).other _ _ NT7_X1).other _ _ NT7_X1).other _ _ NT7_X1))
        have C8 : Hid (Chg [] w W8) := Lib.hid (by rw [hW]; exact (((((C7.out.alloc _).setCell _ _ (.inr (by have OX1_ := OX1.out; show w.heap.size ≤ X1; omega))).setCell _ _ (.inr (by have OX1_ := OX1.out; show w.heap.size ≤ X1; omega))).setCell _ _ (.inr (by have OX1_ := OX1.out; show w.heap.size ≤ X1; omega))).setCell _ _ (.inr (by have OX1_ := OX1.out; show w.heap.size ≤ X1; omega))))
        clear hW hT7
        have cT7_0 := HT7_8.out.cell (i := 0) rfl
        have cT7_1 := HT7_8.out.cell (i := 1) rfl
        have cT7_2 := HT7_8.out.cell (i := 2) rfl
        have cT7_3 := HT7_8.out.cell (i := 3) rfl
        have cT4_0 := HT4_8.out.cell (i := 0) rfl
        have cT4_1 := HT4_8.out.cell (i := 1) rfl
        have cT4_2 := HT4_8.out.cell (i := 2) rfl
        have cT4_3 := HT4_8.out.cell (i := 3) rfl
        have cT4_4 := HT4_8.out.cell (i := 4) rfl
        have cT4_5 := HT4_8.out.cell (i := 5) rfl
        have cT4_6 := HT4_8.out.cell (i := 6) rfl
        have cT4_7 := HT4_8.out.cell (i := 7) rfl
        have cT4_8 := HT4_8.out.cell (i := 8) rfl
        have cT4_f0 := HT4_8.out.free 0
        have cT4_f1 := HT4_8.out.free 1
        have cT4_f2 := HT4_8.out.free 2
        have cT4_f3 := HT4_8.out.free 3
        have cT4_f4 := HT4_8.out.free 4
        have cT4_f5 := HT4_8.out.free 5
        have cT4_f6 := HT4_8.out.free 6
        have cT4_f7 := HT4_8.out.free 7
        have cT4_f8 := HT4_8.out.free 8
        go_upto_region 14 with fail
        clear cT7_0 cT7_1 cT7_2 cT7_3 cT4_0 cT4_1 cT4_2 cT4_3 cT4_4 cT4_5 cT4_6 cT4_7 cT4_8 cT4_f0 cT4_f1 cT4_f2 cT4_f3 cT4_f4 cT4_f5 cT4_f6 cT4_f7 cT4_f8
        have NT7_T4 : T7 ≠ T4 := by have OT5_ := OT5.out; have OT7_ := OT7.out; omega
        have NT4_T7 : T4 ≠ T7 := NT7_T4.symm
        obtain ⟨W9, hW⟩ : ∃ W, W = (W8.setCell ⟨T4, 1, none⟩ (.string ⟨tn.text.toArray⟩)) := ⟨_, rfl⟩
        rw [← hW]
        have HX1_9 : Hid (Blk W9 X1 [.slice ao3 s3.l.length cap3, .int .i64 (en : Int), .int .i64 (s3.err : Int), .int .i64 (s3.at_ : Int)] 63) := Lib.hid (by rw [hW]; exact (HX1_8.out.other _ _ NX1_T4))
        have HX2_9 : Hid (Blk W9 X2 [.int .i64 0, .string ⟨#[]⟩, .slice none 0 0, .int .i64 0, .int .i64 0, .int .i64 0, .int .i64 0, .int .i64 0, .int .i64 0] 42) := Lib.hid (by rw [hW]; exact (HX2_8.out.other _ _ NX2_T4))
        have HX3_9 : Hid (Blk W9 X3 [.slice none 0 0, .int .i64 0, .int .i64 0, .int .i64 0] 63) := Lib.hid (by rw [hW]; exact (HX3_8.out.other _ _ NX3_T4))
        have HT4_9 : Hid (Blk W9 T4 [.int .i64 (kd : Nat), .string ⟨tn.text.toArray⟩, .slice none 0 0, .int .i64 0, .int .i64 0, .int .i64 0, .int .i64 0, .int .i64 0, .int .i64 (tk.at_ : Nat)] 42) := Lib.hid (by rw [hW]; exact (HT4_8.out.set 1 (.string ⟨tn.text.toArray⟩)))
        have HT7_9 : Hid (Blk W9 T7 [.int .i64 (tn.kind : Nat), .string ⟨tn.text.toArray⟩, .int .i64 (tn.n : Nat), .int .i64 (tn.at_ : Nat)] 44) := Lib.hid (by rw [hW]; exact (HT7_8.out.other _ _ NT7_T4))
        have C9 : Hid (Chg [] w W9) := Lib.hid (by rw [hW]; exact (C8.out.setCell _ _ (.inr (by have OX1_ := OX1.out; have OX2_ := OX2.out; have OX3_ := OX3.out; have OT4_ := OT4.out; show w.heap.size ≤ T4; omega))))
        clear hW
        clear HT7_9
        have HS3' : Hid (Suf ao cap s.l ao3 cap3 s3.l) := Lib.hid (HS2.out.trans HS3.out)
        have HE3' : Hid (s.tl.take en 1 = (tn, s3)) := Lib.hid (by rw [← HS2E.out]; exact HE3.out)
        have HL3 : Hid (s3.l <:+ s.l) := Lib.hid (by have h1 := rtake_suf en s2 1; rw [HE3.out, HS2E.out] at h1; exact h1.trans (List.tail_suffix _))
        clear q2
        have hk : kd = 5 := by rw [← HKD.out]; exact HKQ.out
        have qk1 : ((kd : Int) == 1) = false := by rw [hk]; rfl
        have qk3 : ((kd : Int) == 3) = false := by rw [hk]; rfl
        have qk4 : ((kd : Int) == 4) = false := by rw [hk]; rfl
        have qk5 : ((kd : Int) == 5) = true := by rw [hk]; rfl
        have HKK := Lib.hid hk
        clear hk
        have cX1_0 := HX1_9.out.cell (i := 0) rfl
        have cX1_1 := HX1_9.out.cell (i := 1) rfl
        have cX1_2 := HX1_9.out.cell (i := 2) rfl
        have cX1_3 := HX1_9.out.cell (i := 3) rfl
        have cT4_0 := HT4_9.out.cell (i := 0) rfl
        have cT4_1 := HT4_9.out.cell (i := 1) rfl
        have cT4_2 := HT4_9.out.cell (i := 2) rfl
        have cT4_3 := HT4_9.out.cell (i := 3) rfl
        have cT4_4 := HT4_9.out.cell (i := 4) rfl
        have cT4_5 := HT4_9.out.cell (i := 5) rfl
        have cT4_6 := HT4_9.out.cell (i := 6) rfl
        have cT4_7 := HT4_9.out.cell (i := 7) rfl
        have cT4_8 := HT4_9.out.cell (i := 8) rfl
        go_wp2_with fail
        clear cX1_0 cX1_1 cX1_2 cX1_3 cT4_0 cT4_1 cT4_2 cT4_3 cT4_4 cT4_5 cT4_6 cT4_7 cT4_8
        refine ratio_r (Lib.hid (HS3'.out.to HT.out C9.out)) (fun p6 q6 s6 ao6 cap6 w6 HE6 HS6 D6 => ?_)
        have HX1_10 : Hid (Blk w6 X1 [.slice ao3 s3.l.length cap3, .int .i64 (en : Int), .int .i64 (s3.err : Int), .int .i64 (s3.at_ : Int)] 63) := Lib.hid (D6.out.blk HX1_9.out (by simp))
        have HX2_10 : Hid (Blk w6 X2 [.int .i64 0, .string ⟨#[]⟩, .slice none 0 0, .int .i64 0, .int .i64 0, .int .i64 0, .int .i64 0, .int .i64 0, .int .i64 0] 42) := Lib.hid (D6.out.blk HX2_9.out (by simp))
        have HX3_10 : Hid (Blk w6 X3 [.slice none 0 0, .int .i64 0, .int .i64 0, .int .i64 0] 63) := Lib.hid (D6.out.blk HX3_9.out (by simp))
        have HT4_10 : Hid (Blk w6 T4 [.int .i64 (kd : Nat), .string ⟨tn.text.toArray⟩, .slice none 0 0, .int .i64 0, .int .i64 0, .int .i64 0, .int .i64 0, .int .i64 0, .int .i64 (tk.at_ : Nat)] 42) := Lib.hid (D6.out.blk HT4_9.out (by simp))
        have C10 : Hid (Chg [] w w6) := Lib.hid (C9.out.trans D6.out (by simp))
        go_upto_region 40 with fail
        obtain ⟨W11, hW⟩ : ∃ W, W = ((w6.alloc (.cells #[.int .i64 (p6 : Nat), .int .i64 (q6 : Nat)] 40)).alloc (.cells #[.slice ao6 s6.l.length cap6, .int .i64 (en : Int), .int .i64 (s6.err : Int), .int .i64 (s6.at_ : Int)] 63)) := ⟨_, rfl⟩
        rw [← hW]
        obtain ⟨T20, hT20⟩ : ∃ T, T = w6.heap.size + 1 := ⟨_, rfl⟩
        try rw [← hT20]
        obtain ⟨T19, hT19⟩ : ∃ T, T = w6.heap.size := ⟨_, rfl⟩
        try rw [← hT19]
        have OT19 : Hid (T4 < T19) := Lib.hid (by rw [hT19]; exact HT4_10.out.lt)
        have OT20 : Hid (T19 < T20) := Lib.hid (by rw [hT20, hT19]; omega)
        have HX1_11 : Hid (Blk W11 X1 [.slice ao3 s3.l.length cap3, .int .i64 (en : Int), .int .i64 (s3.err : Int), .int .i64 (s3.at_ : Int)] 63) := Lib.hid (by rw [hW]; exact ((HX1_10.out.alloc _).alloc _))
        have HX2_11 : Hid (Blk W11 X2 [.int .i64 0, .string ⟨#[]⟩, .slice none 0 0, .int .i64 0, .int .i64 0, .int .i64 0, .int .i64 0, .int .i64 0, .int .i64 0] 42) := Lib.hid (by rw [hW]; exact ((HX2_10.out.alloc _).alloc _))
        have HX3_11 : Hid (Blk W11 X3 [.slice none 0 0, .int .i64 0, .int .i64 0, .int .i64 0] 63) := Lib.hid (by rw [hW]; exact ((HX3_10.out.alloc _).alloc _))
        have HT4_11 : Hid (Blk W11 T4 [.int .i64 (kd : Nat), .string ⟨tn.text.toArray⟩, .slice none 0 0, .int .i64 0, .int .i64 0, .int .i64 0, .int .i64 0, .int .i64 0, .int .i64 (tk.at_ : Nat)] 42) := Lib.hid (by rw [hW]; exact ((HT4_10.out.alloc _).alloc _))
        have HT19_11 : Hid (Blk W11 T19 [.int .i64 (p6 : Nat), .int .i64 (q6 : Nat)] 40) := Lib.hid (by
          have h1 := Blk.new w6 [.int .i64 (p6 : Nat), .int .i64 (q6 : Nat)] 40
          have h2 : w6.heap.size = T19 := by simp [hT19]
          rw [h2] at h1
          rw [hW]
          exact (h1.alloc _))
        have HT20_11 : Hid (Blk W11 T20 [.slice ao6 s6.l.length cap6, .int .i64 (en : Int), .int .i64 (s6.err : Int), .int .i64 (s6.at_ : Int)] 63) := Lib.hid (by
          have h1 := Blk.new (w6.alloc (.cells #[.int .i64 (p6 : Nat), .int .i64 (q6 : Nat)] 40)) [.slice ao6 s6.l.length cap6, .int .i64 (en : Int), .int .i64 (s6.err : Int), .int .i64 (s6.at_ : Int)] 63
          have h2 : (w6.alloc (.cells #[.int .i64 (p6 : Nat), .int .i64 (q6 : Nat)] 40)).heap.size = T20 := by simp [hT20]
          rw [h2] at h1
          rw [hW]
          exact h1)
        have C11 : Hid (Chg [] w W11) := Lib.hid (by rw [hW]; exact ((C10.out.alloc _).alloc _))
        clear hW hT19 hT20
        have cT19_0 := HT19_11.out.cell (i := 0) rfl
        have cT19_1 := HT19_11.out.cell (i := 1) rfl
        have cT4_0 := HT4_11.out.cell (i := 0) rfl
        have cT4_1 := HT4_11.out.cell (i := 1) rfl
        have cT4_2 := HT4_11.out.cell (i := 2) rfl
        have cT4_3 := HT4_11.out.cell (i := 3) rfl
        have cT4_4 := HT4_11.out.cell (i := 4) rfl
        have cT4_5 := HT4_11.out.cell (i := 5) rfl
        have cT4_6 := HT4_11.out.cell (i := 6) rfl
        have cT4_7 := HT4_11.out.cell (i := 7) rfl
        have cT4_8 := HT4_11.out.cell (i := 8) rfl
        have cT4_f0 := HT4_11.out.free 0
        have cT4_f1 := HT4_11.out.free 1
        have cT4_f2 := HT4_11.out.free 2
        have cT4_f3 := HT4_11.out.free 3
        have cT4_f4 := HT4_11.out.free 4
        have cT4_f5 := HT4_11.out.free 5
        have cT4_f6 := HT4_11.out.free 6
        have cT4_f7 := HT4_11.out.free 7
        have cT4_f8 := HT4_11.out.free 8
        go_upto_region 41 with fail
        clear cT19_0 cT19_1 cT4_0 cT4_1 cT4_2 cT4_3 cT4_4 cT4_5 cT4_6 cT4_7 cT4_8 cT4_f0 cT4_f1 cT4_f2 cT4_f3 cT4_f4 cT4_f5 cT4_f6 cT4_f7 cT4_f8
        have NT19_T4 : T19 ≠ T4 := by have OT5_ := OT5.out; have OT7_ := OT7.out; have OT19_ := OT19.out; omega
        have NT4_T19 : T4 ≠ T19 := NT19_T4.symm
        have NT20_T4 : T20 ≠ T4 := by have OT5_ := OT5.out; have OT7_ := OT7.out; have OT19_ := OT19.out; have OT20_ := OT20.out; omega
        have NT4_T20 : T4 ≠ T20 := NT20_T4.symm
        obtain ⟨W12, hW⟩ : ∃ W, W = ((W11.setCell ⟨T4, 4, none⟩ (.int .i64 (p6 : Nat))).setCell ⟨T4, 5, none⟩ (.int .i64 (q6 : Nat))) := ⟨_, rfl⟩
        rw [← hW]
        have HX1_12 : Hid (Blk W12 X1 [.slice ao3 s3.l.length cap3, .int .i64 (en : Int), .int .i64 (s3.err : Int), .int .i64 (s3.at_ : Int)] 63) := Lib.hid (by rw [hW]; exact ((HX1_11.out.other _ _ NX1_T4).other _ _ NX1_T4))
        have HX2_12 : Hid (Blk W12 X2 [.int .i64 0, .string ⟨#[]⟩, .slice none 0 0, .int .i64 0, .int .i64 0, .int .i64 0, .int .i64 0, .int .i64 0, .int .i64 0] 42) := Lib.hid (by rw [hW]; exact ((HX2_11.out.other _ _ NX2_T4).other _ _ NX2_T4))
        have HX3_12 : Hid (Blk W12 X3 [.slice none 0 0, .int .i64 0, .int .i64 0, .int .i64 0] 63) := Lib.hid (by rw [hW]; exact ((HX3_11.out.other _ _ NX3_T4).other _ _ NX3_T4))
        have HT4_12 : Hid (Blk W12 T4 [.int .i64 (kd : Nat), .string ⟨tn.text.toArray⟩, .slice none 0 0, .int .i64 0, .int .i64 (p6 : Nat), .int .i64 (q6 : Nat), .int .i64 0, .int .i64 0, .int .i64 (tk.at_ : Nat)] 42) := Lib.hid (by rw [hW]; exact ((HT4_11.out.set 4 (.int .i64 (p6 : Nat))).set 5 (.int .i64 (q6 : Nat))))
        have HT20_12 : Hid (Blk W12 T20 [.slice ao6 s6.l.length cap6, .int .i64 (en : Int), .int .i64 (s6.err : Int), .int .i64 (s6.at_ : Int)] 63) := Lib.hid (by rw [hW]; exact ((HT20_11.out.other _ _ NT20_T4).other _ _ NT20_T4))
        have C12 : Hid (Chg [] w W12) := Lib.hid (by rw [hW]; exact ((C11.out.setCell _ _ (.inr (by have OX1_ := OX1.out; have OX2_ := OX2.out; have OX3_ := OX3.out; have OT4_ := OT4.out; show w.heap.size ≤ T4; omega))).setCell _ _ (.inr (by have OX1_ := OX1.out; have OX2_ := OX2.out; have OX3_ := OX3.out; have OT4_ := OT4.out; show w.heap.size ≤ T4; omega))))
        clear hW
        have cT20_0 := HT20_12.out.cell (i := 0) rfl
        have cT20_1 := HT20_12.out.cell (i := 1) rfl
        have cT20_2 := HT20_12.out.cell (i := 2) rfl
        have cT20_3 := HT20_12.out.cell (i := 3) rfl
        have cX1_0 := HX1_12.out.cell (i := 0) rfl
        have cX1_1 := HX1_12.out.cell (i := 1) rfl
        have cX1_2 := HX1_12.out.cell (i := 2) rfl
        have cX1_3 := HX1_12.out.cell (i := 3) rfl
        have cX1_f0 := HX1_12.out.free 0
        have cX1_f1 := HX1_12.out.free 1
        have cX1_f2 := HX1_12.out.free 2
        have cX1_f3 := HX1_12.out.free 3
        go_upto_region 42 with fail
        clear cT20_0 cT20_1 cT20_2 cT20_3 cX1_0 cX1_1 cX1_2 cX1_3 cX1_f0 cX1_f1 cX1_f2 cX1_f3
        have NT19_X1 : T19 ≠ X1 := by have OX2_ := OX2.out; have OX3_ := OX3.out; have OT4_ := OT4.out; have OT5_ := OT5.out; have OT7_ := OT7.out; have OT19_ := OT19.out; omega
        have NX1_T19 : X1 ≠ T19 := NT19_X1.symm
        have NT20_X1 : T20 ≠ X1 := by have OX2_ := OX2.out; have OX3_ := OX3.out; have OT4_ := OT4.out; have OT5_ := OT5.out; have OT7_ := OT7.out; have OT19_ := OT19.out; have OT20_ := OT20.out; omega
        have NX1_T20 : X1 ≠ T20 := NT20_X1.symm
        obtain ⟨W13, hW⟩ : ∃ W, W = ((((W12.setCell ⟨X1, 0, none⟩ (.slice ao6 s6.l.length cap6)).setCell ⟨X1, 1, none⟩ (.int .i64 (en : Int))).setCell ⟨X1, 2, none⟩ (.int .i64 (s6.err : Int))).setCell ⟨X1, 3, none⟩ (.int .i64 (s6.at_ : Int))) := ⟨_, rfl⟩
        rw [← hW]
        have HX1_13 : Hid (Blk W13 X1 [.slice ao6 s6.l.length cap6, .int .i64 (en : Int), .int .i64 (s6.err : Int), .int .i64 (s6.at_ : Int)] 63) := Lib.hid (by rw [hW]; exact ((((HX1_12.out.set 0 (.slice ao6 s6.l.length cap6)).set 1 (.int .i64 (en : Int))).set 2 (.int .i64 (s6.err : Int))).set 3 (.int .i64 (s6.at_ : Int))))
        have HX2_13 : Hid (Blk W13 X2 [.int .i64 0, .string ⟨#[]⟩, .slice none 0 0, .int .i64 0, .int .i64 0, .int .i64 0, .int .i64 0, .int .i64 0, .int .i64 0] 42) := Lib.hid (by rw [hW]; exact ((((HX2_12.out.other _ _ NX2_X1).other _ _ NX2_X1).other _ _ NX2_X1).other _ _ NX2_X1))
        have HX3_13 : Hid (Blk W13 X3 [.slice none 0 0, .int .i64 0, .int .i64 0, .int .i64 0] 63) := Lib.hid (by rw [hW]; exact ((((HX3_12.out.other _ _ NX3_X1).other _ _ NX3_X1).other _ _ NX3_X1).other _ _ NX3_X1))
        have HT4_13 : Hid (Blk W13 T4 [.int .i64 (kd : Nat), .string ⟨tn.text.toArray⟩, .slice none 0 0, .int .i64 0, .int .i64 (p6 : Nat), .int .i64 (q6 : Nat), .int .i64 0, .int .i64 0, .int .i64 (tk.at_ : Nat)] 42) := Lib.hid (by rw [hW]; exact ((((HT4_12.out.other _ _ NT4_X1).other _ _ NT4_X1).other _ _ NT4_X1).other _ _ NT4_X1))
        have HT20_13 : Hid (Blk W13 T20 [.slice ao6 s6.l.length cap6, .int .i64 (en : Int), .int .i64 (s6.err : Int), .int .i64 (s6.at_ : Int)] 63) := Lib.hid (by rw [hW]; exact ((((HT20_12.out.other _ _ NT20_X1).other _ _ NT20_X1).other _ _ NT20_X1).other _ _ NT20_X1))
        have C13 : Hid (Chg [] w W13) := Lib.hid (by rw [hW]; exact ((((C12.out.setCell _ _ (.inr (by have OX1_ := OX1.out; show w.heap.size ≤ X1; omega))).setCell _ _ (.inr (by have OX1_ := OX1.out; show w.heap.size ≤ X1; omega))).setCell _ _ (.inr (by have OX1_ := OX1.out; show w.heap.size ≤ X1; omega))).setCell _ _ (.inr (by have OX1_ := OX1.out; show w.heap.size ≤ X1; omega))))
        clear hW
        have cX1_0 := HX1_13.out.cell (i := 0) rfl
        have cX1_1 := HX1_13.out.cell (i := 1) rfl
        have cX1_2 := HX1_13.out.cell (i := 2) rfl
        have cX1_3 := HX1_13.out.cell (i := 3) rfl
        go_wp2_with fail
        clear cX1_0 cX1_1 cX1_2 cX1_3
        have HRS : Hid (s3.rest en kd = (((0, (p6, q6), (0, 0)) : Rl.Rest), s6)) := Lib.hid (by unfold RSt.rest; rw [if_neg (by rw [HKK.out]; decide), if_neg (by rw [HKK.out]; decide), if_neg (by rw [HKK.out]; decide), if_pos HKK.out, HE6.out])
        have HSR : Hid (Suf ao cap s.l ao6 cap6 s6.l) := Lib.hid (HS3'.out.trans HS6.out)
        have HLR : Hid (s6.l <:+ s.l) := Lib.hid (by have h1 := rrest_suf en s3 kd; rw [HRS.out] at h1; exact h1.trans HL3.out)
        refine is_r (Lib.hid (HSR.out.to HT.out C13.out)) 1 [119, 104, 101, 110] (fun bW wW HBW DW => ?_)
        have HX1_14 : Hid (Blk wW X1 [.slice ao6 s6.l.length cap6, .int .i64 (en : Int), .int .i64 (s6.err : Int), .int .i64 (s6.at_ : Int)] 63) := Lib.hid (DW.out.blk HX1_13.out (by simp))
        have HX2_14 : Hid (Blk wW X2 [.int .i64 0, .string ⟨#[]⟩, .slice none 0 0, .int .i64 0, .int .i64 0, .int .i64 0, .int .i64 0, .int .i64 0, .int .i64 0] 42) := Lib.hid (DW.out.blk HX2_13.out (by simp))
        have HX3_14 : Hid (Blk wW X3 [.slice none 0 0, .int .i64 0, .int .i64 0, .int .i64 0] 63) := Lib.hid (DW.out.blk HX3_13.out (by simp))
        have HT4_14 : Hid (Blk wW T4 [.int .i64 (kd : Nat), .string ⟨tn.text.toArray⟩, .slice none 0 0, .int .i64 0, .int .i64 (p6 : Nat), .int .i64 (q6 : Nat), .int .i64 0, .int .i64 0, .int .i64 (tk.at_ : Nat)] 42) := Lib.hid (DW.out.blk HT4_13.out (by simp))
        have HT20_14 : Hid (Blk wW T20 [.slice ao6 s6.l.length cap6, .int .i64 (en : Int), .int .i64 (s6.err : Int), .int .i64 (s6.at_ : Int)] 63) := Lib.hid (DW.out.blk HT20_13.out (by simp))
        have C14 : Hid (Chg [] w wW) := Lib.hid (C13.out.trans DW.out (by simp))
        go_upto_if 150 with fail
        go_cut [] (fun wc => ∃ (c : List (List Rl.Tst)) (uo : Option Addr) (uc : Nat) (sC : RSt) (aoC : Option Addr) (capC : Nat), Hid (s6.whn en = (c, sC)) ∧ Hid (Suf ao cap s.l aoC capC sC.l) ∧ Hid (Blk wc X1 [.slice aoC sC.l.length capC, .int .i64 (en : Int), .int .i64 (sC.err : Int), .int .i64 (sC.at_ : Int)] 63) ∧ Hid (Blk wc T4 [.int .i64 (kd : Nat), .string ⟨tn.text.toArray⟩, .slice uo c.length uc, .int .i64 0, .int .i64 (p6 : Nat), .int .i64 (q6 : Nat), .int .i64 0, .int .i64 0, .int .i64 (tk.at_ : Nat)] 42) ∧ Hid (ListS w.heap.size 46 1 (Cr w.heap.size) c (.slice uo c.length uc) wc) ∧ Hid (Chg [X1, T4] wW wc))
        case first =>
          cases bW with
          | false =>
            go_wp2_with fail
            go_meet
            case rel => exact ⟨[], none, 0, s6, ao6, cap6, Lib.hid (by unfold RSt.whn; rw [if_neg (fun h => by rw [show s6.is 1 Rl.wWhen = false from HBW.out] at h; simp at h)]), HSR, HX1_14, HT4_14, Lib.hid (ListS.nil _ _ _ _ _), Lib.hid (Chg.refl _ _)⟩
          | true =>
            have cX1_0 := HX1_14.out.cell (i := 0) rfl
            have cX1_1 := HX1_14.out.cell (i := 1) rfl
            have cX1_2 := HX1_14.out.cell (i := 2) rfl
            have cX1_3 := HX1_14.out.cell (i := 3) rfl
            go_wp2_with fail
            clear cX1_0 cX1_1 cX1_2 cX1_3
            refine word_r (Lib.hid (HSR.out.to HT.out C14.out)) [119, 104, 101, 110] (fun sA aoA capA wA HEA HSA DA => ?_)
            have HX1_15 : Hid (Blk wA X1 [.slice ao6 s6.l.length cap6, .int .i64 (en : Int), .int .i64 (s6.err : Int), .int .i64 (s6.at_ : Int)] 63) := Lib.hid (DA.out.blk HX1_14.out (by simp))
            have HT4_15 : Hid (Blk wA T4 [.int .i64 (kd : Nat), .string ⟨tn.text.toArray⟩, .slice none 0 0, .int .i64 0, .int .i64 (p6 : Nat), .int .i64 (q6 : Nat), .int .i64 0, .int .i64 0, .int .i64 (tk.at_ : Nat)] 42) := Lib.hid (DA.out.blk HT4_14.out (by simp))
            have HT20_15 : Hid (Blk wA T20 [.slice ao6 s6.l.length cap6, .int .i64 (en : Int), .int .i64 (s6.err : Int), .int .i64 (s6.at_ : Int)] 63) := Lib.hid (DA.out.blk HT20_14.out (by simp))
            have C15 : Hid (Chg [] w wA) := Lib.hid (C14.out.trans DA.out (by simp))
            have Kc_15 : Hid (Chg [X1, T4] wW wA) := Lib.hid (by exact ((Chg.refl [X1, T4] wW).trans DA.out (by simp)))
            have HLA : Hid (sA.l <:+ s.l) := Lib.hid (by have h1 := rword_suf en s6 [119, 104, 101, 110]; rw [HEA.out] at h1; exact h1.trans HLR.out)
            go_wp2_with fail
            refine when_r (Lib.hid ((HSR.out.trans HSA.out).to HT.out C15.out)) (Lib.hid (HSM.out.sfx HLA.out)) (Lib.hid (Nat.le_trans HLA.out.length_le HN.out)) (fun lW uo uc sB aoB capB wB HEB HSB HLB DB => ?_)
            have HX1A : Hid (X1 < wA.heap.size) := Lib.hid HX1_15.out.lt
            have HT4A : Hid (T4 < wA.heap.size) := Lib.hid HT4_15.out.lt
            have HWA : Hid (w.heap.size ≤ wA.heap.size) := Lib.hid C15.out.size
            have HX1_16 : Hid (Blk wB X1 [.slice ao6 s6.l.length cap6, .int .i64 (en : Int), .int .i64 (s6.err : Int), .int .i64 (s6.at_ : Int)] 63) := Lib.hid (DB.out.blk HX1_15.out (by simp))
            have HT4_16 : Hid (Blk wB T4 [.int .i64 (kd : Nat), .string ⟨tn.text.toArray⟩, .slice none 0 0, .int .i64 0, .int .i64 (p6 : Nat), .int .i64 (q6 : Nat), .int .i64 0, .int .i64 0, .int .i64 (tk.at_ : Nat)] 42) := Lib.hid (DB.out.blk HT4_15.out (by simp))
            have HT20_16 : Hid (Blk wB T20 [.slice ao6 s6.l.length cap6, .int .i64 (en : Int), .int .i64 (s6.err : Int), .int .i64 (s6.at_ : Int)] 63) := Lib.hid (DB.out.blk HT20_15.out (by simp))
            have Kc_16 : Hid (Chg [X1, T4] wW wB) := Lib.hid (by exact (Kc_15.out.trans DB.out (by simp)))
            go_upto_region 44 with fail
            obtain ⟨W17, hW⟩ : ∃ W, W = (wB.alloc (.cells #[.slice aoB sB.l.length capB, .int .i64 (en : Int), .int .i64 (sB.err : Int), .int .i64 (sB.at_ : Int)] 63)) := ⟨_, rfl⟩
            rw [← hW]
            obtain ⟨T22, hT22⟩ : ∃ T, T = wB.heap.size := ⟨_, rfl⟩
            try rw [← hT22]
            have OT22 : Hid (T20 < T22) := Lib.hid (by rw [hT22]; exact HT20_16.out.lt)
            have HX1_17 : Hid (Blk W17 X1 [.slice ao6 s6.l.length cap6, .int .i64 (en : Int), .int .i64 (s6.err : Int), .int .i64 (s6.at_ : Int)] 63) := Lib.hid (by rw [hW]; exact (HX1_16.out.alloc _))
            have HT4_17 : Hid (Blk W17 T4 [.int .i64 (kd : Nat), .string ⟨tn.text.toArray⟩, .slice none 0 0, .int .i64 0, .int .i64 (p6 : Nat), .int .i64 (q6 : Nat), .int .i64 0, .int .i64 0, .int .i64 (tk.at_ : Nat)] 42) := Lib.hid (by rw [hW]; exact (HT4_16.out.alloc _))
            have HT22_17 : Hid (Blk W17 T22 [.slice aoB sB.l.length capB, .int .i64 (en : Int), .int .i64 (sB.err : Int), .int .i64 (sB.at_ : Int)] 63) := Lib.hid (by
              have h1 := Blk.new wB [.slice aoB sB.l.length capB, .int .i64 (en : Int), .int .i64 (sB.err : Int), .int .i64 (sB.at_ : Int)] 63
              have h2 : wB.heap.size = T22 := by simp [hT22]
              rw [h2] at h1
              rw [hW]
              exact h1)
            have Kc_17 : Hid (Chg [X1, T4] wW W17) := Lib.hid (by rw [hW]; exact (Kc_16.out.alloc _))
            have Kd_17 : Hid (Chg [X1, T4] wB W17) := Lib.hid (by rw [hW]; exact ((Chg.refl [X1, T4] wB).alloc _))
            clear hW hT22
            have cT4_0 := HT4_17.out.cell (i := 0) rfl
            have cT4_1 := HT4_17.out.cell (i := 1) rfl
            have cT4_2 := HT4_17.out.cell (i := 2) rfl
            have cT4_3 := HT4_17.out.cell (i := 3) rfl
            have cT4_4 := HT4_17.out.cell (i := 4) rfl
            have cT4_5 := HT4_17.out.cell (i := 5) rfl
            have cT4_6 := HT4_17.out.cell (i := 6) rfl
            have cT4_7 := HT4_17.out.cell (i := 7) rfl
            have cT4_8 := HT4_17.out.cell (i := 8) rfl
            have cT4_f0 := HT4_17.out.free 0
            have cT4_f1 := HT4_17.out.free 1
            have cT4_f2 := HT4_17.out.free 2
            have cT4_f3 := HT4_17.out.free 3
            have cT4_f4 := HT4_17.out.free 4
            have cT4_f5 := HT4_17.out.free 5
            have cT4_f6 := HT4_17.out.free 6
            have cT4_f7 := HT4_17.out.free 7
            have cT4_f8 := HT4_17.out.free 8
            go_upto_region 45 with fail
            clear cT4_0 cT4_1 cT4_2 cT4_3 cT4_4 cT4_5 cT4_6 cT4_7 cT4_8 cT4_f0 cT4_f1 cT4_f2 cT4_f3 cT4_f4 cT4_f5 cT4_f6 cT4_f7 cT4_f8
            have NT22_T4 : T22 ≠ T4 := by have OT5_ := OT5.out; have OT7_ := OT7.out; have OT19_ := OT19.out; have OT20_ := OT20.out; have OT22_ := OT22.out; omega
            have NT4_T22 : T4 ≠ T22 := NT22_T4.symm
            obtain ⟨W18, hW⟩ : ∃ W, W = (W17.setCell ⟨T4, 2, none⟩ (.slice uo lW.length uc)) := ⟨_, rfl⟩
            rw [← hW]
            have HX1_18 : Hid (Blk W18 X1 [.slice ao6 s6.l.length cap6, .int .i64 (en : Int), .int .i64 (s6.err : Int), .int .i64 (s6.at_ : Int)] 63) := Lib.hid (by rw [hW]; exact (HX1_17.out.other _ _ NX1_T4))
            have HT4_18 : Hid (Blk W18 T4 [.int .i64 (kd : Nat), .string ⟨tn.text.toArray⟩, .slice uo lW.length uc, .int .i64 0, .int .i64 (p6 : Nat), .int .i64 (q6 : Nat), .int .i64 0, .int .i64 0, .int .i64 (tk.at_ : Nat)] 42) := Lib.hid (by rw [hW]; exact (HT4_17.out.set 2 (.slice uo lW.length uc)))
            have HT22_18 : Hid (Blk W18 T22 [.slice aoB sB.l.length capB, .int .i64 (en : Int), .int .i64 (sB.err : Int), .int .i64 (sB.at_ : Int)] 63) := Lib.hid (by rw [hW]; exact (HT22_17.out.other _ _ NT22_T4))
            have Kc_18 : Hid (Chg [X1, T4] wW W18) := Lib.hid (by rw [hW]; exact (Kc_17.out.setCell _ _ (.inl (by simp))))
            have Kd_18 : Hid (Chg [X1, T4] wB W18) := Lib.hid (by rw [hW]; exact (Kd_17.out.setCell _ _ (.inl (by simp))))
            clear hW
            have cT22_0 := HT22_18.out.cell (i := 0) rfl
            have cT22_1 := HT22_18.out.cell (i := 1) rfl
            have cT22_2 := HT22_18.out.cell (i := 2) rfl
            have cT22_3 := HT22_18.out.cell (i := 3) rfl
            have cX1_0 := HX1_18.out.cell (i := 0) rfl
            have cX1_1 := HX1_18.out.cell (i := 1) rfl
            have cX1_2 := HX1_18.out.cell (i := 2) rfl
            have cX1_3 := HX1_18.out.cell (i := 3) rfl
            have cX1_f0 := HX1_18.out.free 0
            have cX1_f1 := HX1_18.out.free 1
            have cX1_f2 := HX1_18.out.free 2
            have cX1_f3 := HX1_18.out.free 3
            go_wp2_with fail
            clear cT22_0 cT22_1 cT22_2 cT22_3 cX1_0 cX1_1 cX1_2 cX1_3 cX1_f0 cX1_f1 cX1_f2 cX1_f3
            have NT22_X1 : T22 ≠ X1 := by have OX2_ := OX2.out; have OX3_ := OX3.out; have OT4_ := OT4.out; have OT5_ := OT5.out; have OT7_ := OT7.out; have OT19_ := OT19.out; have OT20_ := OT20.out; have OT22_ := OT22.out; omega
            have NX1_T22 : X1 ≠ T22 := NT22_X1.symm
            obtain ⟨W19, hW⟩ : ∃ W, W = ((((W18.setCell ⟨X1, 0, none⟩ (.slice aoB sB.l.length capB)).setCell ⟨X1, 1, none⟩ (.int .i64 (en : Int))).setCell ⟨X1, 2, none⟩ (.int .i64 (sB.err : Int))).setCell ⟨X1, 3, none⟩ (.int .i64 (sB.at_ : Int))) := ⟨_, rfl⟩
            rw [← hW]
            have HX1_19 : Hid (Blk W19 X1 [.slice aoB sB.l.length capB, .int .i64 (en : Int), .int .i64 (sB.err : Int), .int .i64 (sB.at_ : Int)] 63) := Lib.hid (by rw [hW]; exact ((((HX1_18.out.set 0 (.slice aoB sB.l.length capB)).set 1 (.int .i64 (en : Int))).set 2 (.int .i64 (sB.err : Int))).set 3 (.int .i64 (sB.at_ : Int))))
            have HT4_19 : Hid (Blk W19 T4 [.int .i64 (kd : Nat), .string ⟨tn.text.toArray⟩, .slice uo lW.length uc, .int .i64 0, .int .i64 (p6 : Nat), .int .i64 (q6 : Nat), .int .i64 0, .int .i64 0, .int .i64 (tk.at_ : Nat)] 42) := Lib.hid (by rw [hW]; exact ((((HT4_18.out.other _ _ NT4_X1).other _ _ NT4_X1).other _ _ NT4_X1).other _ _ NT4_X1))
            have Kc_19 : Hid (Chg [X1, T4] wW W19) := Lib.hid (by rw [hW]; exact ((((Kc_18.out.setCell _ _ (.inl (by simp))).setCell _ _ (.inl (by simp))).setCell _ _ (.inl (by simp))).setCell _ _ (.inl (by simp))))
            have Kd_19 : Hid (Chg [X1, T4] wB W19) := Lib.hid (by rw [hW]; exact ((((Kd_18.out.setCell _ _ (.inl (by simp))).setCell _ _ (.inl (by simp))).setCell _ _ (.inl (by simp))).setCell _ _ (.inl (by simp))))
            clear hW
            go_meet
            case rel => exact ⟨lW, uo, uc, sB, aoB, capB, Lib.hid (by unfold RSt.whn; rw [if_pos (show s6.is 1 Rl.wWhen = true from HBW.out), show s6.word en Rl.wWhen = sA from HEA.out]; exact HEB.out), Lib.hid ((HSR.out.trans HSA.out).trans HSB.out), HX1_19, HT4_19, Lib.hid ((HLB.out.keep (kp_r _) Kd_19.out (TyB.lower (by intro b hb; simp only [List.mem_cons, List.not_mem_nil, or_false] at hb; rcases hb with rfl | rfl <;> first | exact HX1A.out | exact HT4A.out) _)).mono HWA.out (mono_r HWA.out)), Kc_19⟩
        case rest =>
          obtain ⟨cW, uo, uc, sC, aoC, capC, HEC, HSC, HXC1, HTC, HLC, HCC⟩ := hcut
          have HX2_15 : Hid (Blk wc X2 [.int .i64 0, .string ⟨#[]⟩, .slice none 0 0, .int .i64 0, .int .i64 0, .int .i64 0, .int .i64 0, .int .i64 0, .int .i64 0] 42) := Lib.hid (HCC.out.blk HX2_14.out (by simp [NX2_X1, NX2_T4]))
          have HX3_15 : Hid (Blk wc X3 [.slice none 0 0, .int .i64 0, .int .i64 0, .int .i64 0] 63) := Lib.hid (HCC.out.blk HX3_14.out (by simp [NX3_X1, NX3_T4]))
          have C15 : Hid (Chg [] w wc) := Lib.hid (C14.out.trans HCC.out (fun k hk => .inr (by have OX1_ := OX1.out; have OX2_ := OX2.out; have OX3_ := OX3.out; have OT4_ := OT4.out; simp only [List.mem_cons, List.not_mem_nil, or_false] at hk; omega)))
          go_upto_region 46 with fail
          have NX2_X3 : X2 ≠ X3 := by have OX3_ := OX3.out; omega
          have NX3_X2 : X3 ≠ X2 := NX2_X3.symm
          have NT19_X2 : T19 ≠ X2 := by have OX3_ := OX3.out; have OT4_ := OT4.out; have OT5_ := OT5.out; have OT7_ := OT7.out; have OT19_ := OT19.out; omega
          have NX2_T19 : X2 ≠ T19 := NT19_X2.symm
          have NT19_X3 : T19 ≠ X3 := by have OT4_ := OT4.out; have OT5_ := OT5.out; have OT7_ := OT7.out; have OT19_ := OT19.out; omega
          have NX3_T19 : X3 ≠ T19 := NT19_X3.symm
          have NT20_X2 : T20 ≠ X2 := by have OX3_ := OX3.out; have OT4_ := OT4.out; have OT5_ := OT5.out; have OT7_ := OT7.out; have OT19_ := OT19.out; have OT20_ := OT20.out; omega
          have NX2_T20 : X2 ≠ T20 := NT20_X2.symm
          have NT20_X3 : T20 ≠ X3 := by have OT4_ := OT4.out; have OT5_ := OT5.out; have OT7_ := OT7.out; have OT19_ := OT19.out; have OT20_ := OT20.out; omega
          have NX3_T20 : X3 ≠ T20 := NT20_X3.symm
          have Mr2T4_0 : T4 ∉ [X2, X3] := by simp [NT4_X2, NT4_X3]
          have Mr2X1_1 : X1 ∉ [X2, X3] := by simp [NX1_X2, NX1_X3]
          refine wp_region_held_drew (S := fun W' => Chg [X2, X3] wc W') (by kernel_rfl) (Chg.refl _ _).drew (fun hHeld => ?_)
          refine wpAnyH_take (i := 0) (v := ?vr20) rfl (by kernel_rfl) (by kernel_rfl) (by kernel_rfl) (fun _ _ _ h => h) (Or.inl ⟨by kernel_rfl, ?hyr20⟩) (by assumption) ?rsr20
          case hyr20 => (intro w9 hSw; have e0 := cell_quiet hSw (HTC.out.cell (i := 0) rfl) Mr2T4_0; have e1 := cell_quiet hSw (HTC.out.cell (i := 1) rfl) Mr2T4_0; have e2 := cell_quiet hSw (HTC.out.cell (i := 2) rfl) Mr2T4_0; have e3 := cell_quiet hSw (HTC.out.cell (i := 3) rfl) Mr2T4_0; have e4 := cell_quiet hSw (HTC.out.cell (i := 4) rfl) Mr2T4_0; have e5 := cell_quiet hSw (HTC.out.cell (i := 5) rfl) Mr2T4_0; have e6 := cell_quiet hSw (HTC.out.cell (i := 6) rfl) Mr2T4_0; have e7 := cell_quiet hSw (HTC.out.cell (i := 7) rfl) Mr2T4_0; have e8 := cell_quiet hSw (HTC.out.cell (i := 8) rfl) Mr2T4_0; go_simp; try with_reducible rfl)
          try simp only [Act.put, List.setIfInBounds_toArray, List.set_cons_zero, List.set_cons_succ, List.getElem_toArray, List.getElem_cons_succ, List.getElem_cons_zero]
          refine wpAnyH_take (i := 1) (v := ?vr21) rfl (by kernel_rfl) (by kernel_rfl) (by kernel_rfl) (fun _ _ _ h => h) (Or.inl ⟨by kernel_rfl, ?hyr21⟩) (by assumption) ?rsr21
          case hyr21 => (intro w9 hSw; have e0 := cell_quiet hSw (HXC1.out.cell (i := 0) rfl) Mr2X1_1; have e1 := cell_quiet hSw (HXC1.out.cell (i := 1) rfl) Mr2X1_1; have e2 := cell_quiet hSw (HXC1.out.cell (i := 2) rfl) Mr2X1_1; have e3 := cell_quiet hSw (HXC1.out.cell (i := 3) rfl) Mr2X1_1; go_simp; try with_reducible rfl)
          try simp only [Act.put, List.setIfInBounds_toArray, List.set_cons_zero, List.set_cons_succ, List.getElem_toArray, List.getElem_cons_succ, List.getElem_cons_zero]
          obtain ⟨Zr20, hZ⟩ : ∃ Z, Z = wc.drew := ⟨_, rfl⟩
          rw [← hZ] at hHeld ⊢
          have Qr2X2_0 : Hid (Blk Zr20 X2 [.int .i64 0, .string ⟨#[]⟩, .slice none 0 0, .int .i64 0, .int .i64 0, .int .i64 0, .int .i64 0, .int .i64 0, .int .i64 0] 42) := Lib.hid (by rw [hZ]; exact HX2_15.out.drew)
          have Qr2X3_0 : Hid (Blk Zr20 X3 [.slice none 0 0, .int .i64 0, .int .i64 0, .int .i64 0] 63) := Lib.hid (by rw [hZ]; exact HX3_15.out.drew)
          have CZ : Hid (Chg [] w Zr20) := Lib.hid (by rw [hZ]; exact (C15.out).drew)
          clear hZ
          refine wpAnyH_ready (rs := [2]) (by kernel_rfl) (by simp) (AllReadyH.cons rfl (fun K hK => ?_) AllReadyH.nil)
          go_simp
          refine word_r (Lib.hid (HSC.out.to HT.out CZ.out)) [59] (fun sE aoE capE wE HEE HSE DE => ?_)
          refine hK.out _ _ (hHeld.trans DE.out (by simp)) (fun hHeld => ?_)
          clear hK K
          try simp only [Act.put, List.setIfInBounds_toArray, List.set_cons_zero, List.set_cons_succ, List.getElem_toArray, List.getElem_cons_succ, List.getElem_cons_zero]
          have Qr2X2_m : Hid (Blk wE X2 [.int .i64 0, .string ⟨#[]⟩, .slice none 0 0, .int .i64 0, .int .i64 0, .int .i64 0, .int .i64 0, .int .i64 0, .int .i64 0] 42) := Lib.hid (DE.out.blk Qr2X2_0.out (by simp))
          have Qr2X3_m : Hid (Blk wE X3 [.slice none 0 0, .int .i64 0, .int .i64 0, .int .i64 0] 63) := Lib.hid (DE.out.blk Qr2X3_0.out (by simp))
          refine wpAnyH_ready (rs := [3]) (by kernel_rfl) (by simp) (AllReadyH.cons rfl (fun K hK => ?_) AllReadyH.nil)
          have x0 := Qr2X2_m.out.cell (i := 0) rfl
          have xf0 := Qr2X2_m.out.free 0
          have x1 := Qr2X2_m.out.cell (i := 1) rfl
          have xf1 := Qr2X2_m.out.free 1
          have x2 := Qr2X2_m.out.cell (i := 2) rfl
          have xf2 := Qr2X2_m.out.free 2
          have x3 := Qr2X2_m.out.cell (i := 3) rfl
          have xf3 := Qr2X2_m.out.free 3
          have x4 := Qr2X2_m.out.cell (i := 4) rfl
          have xf4 := Qr2X2_m.out.free 4
          have x5 := Qr2X2_m.out.cell (i := 5) rfl
          have xf5 := Qr2X2_m.out.free 5
          have x6 := Qr2X2_m.out.cell (i := 6) rfl
          have xf6 := Qr2X2_m.out.free 6
          have x7 := Qr2X2_m.out.cell (i := 7) rfl
          have xf7 := Qr2X2_m.out.free 7
          have x8 := Qr2X2_m.out.cell (i := 8) rfl
          have xf8 := Qr2X2_m.out.free 8
          go_simp
          refine hK.out _ _ (((((((((hHeld.setCell _ _ (.inl (by simp))).setCell _ _ (.inl (by simp))).setCell _ _ (.inl (by simp))).setCell _ _ (.inl (by simp))).setCell _ _ (.inl (by simp))).setCell _ _ (.inl (by simp))).setCell _ _ (.inl (by simp))).setCell _ _ (.inl (by simp))).setCell _ _ (.inl (by simp))) (fun hHeld => ?_)
          clear hK K x0 xf0 x1 xf1 x2 xf2 x3 xf3 x4 xf4 x5 xf5 x6 xf6 x7 xf7 x8 xf8
          try simp only [Act.put, List.setIfInBounds_toArray, List.set_cons_zero, List.set_cons_succ, List.getElem_toArray, List.getElem_cons_succ, List.getElem_cons_zero]
          obtain ⟨Zr21, hZ⟩ : ∃ Z, Z = (((((((((wE.setCell ⟨X2, 0, none⟩ (.int .i64 (kd : Nat))).setCell ⟨X2, 1, none⟩ (.string ⟨tn.text.toArray⟩)).setCell ⟨X2, 2, none⟩ (.slice uo cW.length uc)).setCell ⟨X2, 3, none⟩ (.int .i64 0)).setCell ⟨X2, 4, none⟩ (.int .i64 (p6 : Nat))).setCell ⟨X2, 5, none⟩ (.int .i64 (q6 : Nat))).setCell ⟨X2, 6, none⟩ (.int .i64 0)).setCell ⟨X2, 7, none⟩ (.int .i64 0)).setCell ⟨X2, 8, none⟩ (.int .i64 (tk.at_ : Nat))) := ⟨_, rfl⟩
          rw [← hZ] at hHeld ⊢
          have Qr2X2_1 : Hid (Blk Zr21 X2 [.int .i64 (kd : Nat), .string ⟨tn.text.toArray⟩, .slice uo cW.length uc, .int .i64 0, .int .i64 (p6 : Nat), .int .i64 (q6 : Nat), .int .i64 0, .int .i64 0, .int .i64 (tk.at_ : Nat)] 42) := Lib.hid (by rw [hZ]; exact (((((((((Qr2X2_m.out.set 0 (.int .i64 (kd : Nat))).set 1 (.string ⟨tn.text.toArray⟩)).set 2 (.slice uo cW.length uc)).set 3 (.int .i64 0)).set 4 (.int .i64 (p6 : Nat))).set 5 (.int .i64 (q6 : Nat))).set 6 (.int .i64 0)).set 7 (.int .i64 0)).set 8 (.int .i64 (tk.at_ : Nat))))
          have Qr2X3_1 : Hid (Blk Zr21 X3 [.slice none 0 0, .int .i64 0, .int .i64 0, .int .i64 0] 63) := Lib.hid (by rw [hZ]; exact (((((((((Qr2X3_m.out.other _ _ NX3_X2).other _ _ NX3_X2).other _ _ NX3_X2).other _ _ NX3_X2).other _ _ NX3_X2).other _ _ NX3_X2).other _ _ NX3_X2).other _ _ NX3_X2).other _ _ NX3_X2))
          clear hZ
          refine wpAnyH_ready (rs := [4]) (by kernel_rfl) (by simp) (AllReadyH.cons rfl (fun K hK => ?_) AllReadyH.nil)
          have x0 := Qr2X3_1.out.cell (i := 0) rfl
          have xf0 := Qr2X3_1.out.free 0
          have x1 := Qr2X3_1.out.cell (i := 1) rfl
          have xf1 := Qr2X3_1.out.free 1
          have x2 := Qr2X3_1.out.cell (i := 2) rfl
          have xf2 := Qr2X3_1.out.free 2
          have x3 := Qr2X3_1.out.cell (i := 3) rfl
          have xf3 := Qr2X3_1.out.free 3
          go_simp
          refine hK.out _ _ ((((hHeld.setCell _ _ (.inl (by simp))).setCell _ _ (.inl (by simp))).setCell _ _ (.inl (by simp))).setCell _ _ (.inl (by simp))) (fun hHeld => ?_)
          clear hK K x0 xf0 x1 xf1 x2 xf2 x3 xf3
          try simp only [Act.put, List.setIfInBounds_toArray, List.set_cons_zero, List.set_cons_succ, List.getElem_toArray, List.getElem_cons_succ, List.getElem_cons_zero]
          obtain ⟨Zr22, hZ⟩ : ∃ Z, Z = ((((Zr21.setCell ⟨X3, 0, none⟩ (.slice aoE sE.l.length capE)).setCell ⟨X3, 1, none⟩ (.int .i64 (en : Int))).setCell ⟨X3, 2, none⟩ (.int .i64 (sE.err : Int))).setCell ⟨X3, 3, none⟩ (.int .i64 (sE.at_ : Int))) := ⟨_, rfl⟩
          rw [← hZ] at hHeld ⊢
          have Qr2X2_2 : Hid (Blk Zr22 X2 [.int .i64 (kd : Nat), .string ⟨tn.text.toArray⟩, .slice uo cW.length uc, .int .i64 0, .int .i64 (p6 : Nat), .int .i64 (q6 : Nat), .int .i64 0, .int .i64 0, .int .i64 (tk.at_ : Nat)] 42) := Lib.hid (by rw [hZ]; exact ((((Qr2X2_1.out.other _ _ NX2_X3).other _ _ NX2_X3).other _ _ NX2_X3).other _ _ NX2_X3))
          have Qr2X3_2 : Hid (Blk Zr22 X3 [.slice aoE sE.l.length capE, .int .i64 (en : Int), .int .i64 (sE.err : Int), .int .i64 (sE.at_ : Int)] 63) := Lib.hid (by rw [hZ]; exact ((((Qr2X3_1.out.set 0 (.slice aoE sE.l.length capE)).set 1 (.int .i64 (en : Int))).set 2 (.int .i64 (sE.err : Int))).set 3 (.int .i64 (sE.at_ : Int))))
          clear hZ
          refine wpAnyH_done (by kernel_rfl) ?_ _
          try simp only [Act.put, List.setIfInBounds_toArray, List.set_cons_zero, List.set_cons_succ, List.getElem_toArray, List.getElem_cons_succ, List.getElem_cons_zero]
          have HH := Lib.hid hHeld
          clear hHeld
          go_wp2_with fail
          (try simp only [Exit.inBlock, Exit.then])
          refine bodyPost_ret (results_cell_row2 rfl _ _ X2 X3 42 63 #[.int .i64 (kd : Nat), .string ⟨tn.text.toArray⟩, .slice uo cW.length uc, .int .i64 0, .int .i64 (p6 : Nat), .int .i64 (q6 : Nat), .int .i64 0, .int .i64 0, .int .i64 (tk.at_ : Nat)] #[.slice aoE sE.l.length capE, .int .i64 (en : Int), .int .i64 (sE.err : Int), .int .i64 (sE.at_ : Int)] (0, 0) (0, 0) _ _ rfl Qr2X2_2.out rfl Qr2X3_2.out Tryd.underlying42 rfl (by kernel_rfl) Tryd.underlying63 rfl (by kernel_rfl)) rfl ?_
          have CF : Hid (Chg [] w Zr22) := Lib.hid (C15.out.trans HH.out (fun k hk => .inr (by have OX1_ := OX1.out; have OX2_ := OX2.out; have OX3_ := OX3.out; simp only [List.mem_cons, List.not_mem_nil, or_false] at hk; omega)))
          have HLZ : Hid (ListS w.heap.size 46 1 (Cr w.heap.size) cW (.slice uo cW.length uc) Zr22) := Lib.hid (HLC.out.keep (kp_r _) HH.out (TyB.blk2 HX2_15.out HX3_15.out (by decide) (by decide)))
          have hs := item_eq HKD.out HKN.out HE3'.out HRS.out HEC.out HEE.out
          rw [HHD.out] at hs
          exact ⟨_, uo, uc, sE, aoE, capE, Lib.hid hs, Lib.hid (HSC.out.trans HSE.out), HLZ, CF, rfl⟩
end Go.Proofs.YtmfjebpefneboaaDoor

