/-
  RnG, RnH in one text.
-/
import Derived.Test.YtmfjebpefneboaaDoorRnF
import Derived.Test.YtmfjebpefneboaaDoorRoA
import Derived.Deep.DeepCutAuto
namespace Go.Proofs.YtmfjebpefneboaaDoor
set_option linter.unusedVariables false
set_option linter.unusedSimpArgs false
open Go Go.RowKit Go.Shelf
open Lx (Tk)
open Rl (RSt)
theorem results_tmp_row {P : Program} {fn : Func} {p q : Tmp} {ty2 : TypeId} (h : fn.results = #[.tmp p, .cell q ty2]) (tmps : Array Value) (v : Value) (hv : tmps.getD p undef = v) (w : World) (g2 : Nat) (t2 : TypeId) (cs2 : Array Value) (fr2 : Nat × Nat) (d2 : TypeDesc)
    (hq : tmps.getD q undef = .pointer (some ⟨g2, 0, none⟩)) (hg2 : w.heap[g2]? = some (.cells cs2 t2 fr2))
    (hu2 : P.underlying ty2 = some d2) (hd2 : (match d2 with | .struct _ | .array _ _ => true | _ => false) = true) (hi2 : (P.info? ty2).map (·.size) = some cs2.size) :
    (results fn tmps).run P w = .ok (.tuple #[v, .agg cs2]) w := by
  have hv' : tmps[p]?.getD undef = v := by simpa using hv
  have hq' : tmps[q]?.getD undef = .pointer (some ⟨g2, 0, none⟩) := by simpa using hq
  simp [results, h, hv', hq', asAddr, Sem.run_bind, Result.andThen, run_loadVar_row w g2 t2 ty2 cs2 fr2 d2 hg2 hu2 hd2 hi2]
theorem Sm.sfx {l r : List Tk} (h : Sm l) (hs : r <:+ l) : Sm r := fun t ht => h t (hs.subset ht)
theorem rtake_suf (en : Nat) (s : RSt) (k : Nat) : (s.take en k).2.l <:+ s.l := by
  unfold RSt.take
  split
  · exact List.tail_suffix _
  · rw [fail_l]
    exact List.suffix_refl _
theorem rword_suf (en : Nat) (s : RSt) (x : Bytes) : (s.word en x).l <:+ s.l := by
  unfold RSt.word
  split
  · exact List.tail_suffix _
  · rw [fail_l]
    exact List.suffix_refl _
theorem lim_l (en : Nat) (s : RSt) (n m : Nat) : (s.lim en n m).l = s.l := by
  unfold RSt.lim
  split
  · exact fail_l _ _ _
  · rfl
theorem rrhs_suf (en : Nat) (s : RSt) : (s.rhs en).2.l <:+ s.l := by
  unfold RSt.rhs
  split
  · exact rtake_suf _ _ _
  · split
    · exact (rtake_suf _ _ _).trans ((rword_suf _ _ _).trans (rtake_suf _ _ _))
    · exact rtake_suf _ _ _
theorem rtest_suf (en : Nat) (s : RSt) : (s.test en).2.l <:+ s.l := by
  unfold RSt.test
  split
  · rw [fail_l]
    exact rtake_suf _ _ _
  · exact (rrhs_suf _ _).trans ((List.tail_suffix _).trans (rtake_suf _ _ _))
theorem rlst_suf {α : Type} (en : Nat) (f : RSt → α × RSt) (x : Bytes) (hf : ∀ s, (f s).2.l <:+ s.l) : ∀ (k : Nat) (s : RSt) (l : List α), (RSt.lst en f x k s l).2.l <:+ s.l
  | 0, s, l => List.suffix_refl _
  | k + 1, s, l => by
    have h1 : (f (s.lim en l.length 12)).2.l <:+ s.l := by
      have := hf (s.lim en l.length 12)
      rw [lim_l] at this
      exact this
    unfold RSt.lst
    split
    · split
      · exact (rlst_suf en f x hf k _ _).trans ((rword_suf _ _ _).trans h1)
      · exact h1
    · exact List.suffix_refl _
theorem rtests_suf (en : Nat) (s : RSt) : (s.tests en).2.l <:+ s.l := rlst_suf en _ _ (rtest_suf en) _ _ _
theorem rwhen_suf (en : Nat) (s : RSt) : (s.when en).2.l <:+ s.l := rlst_suf en _ _ (rtests_suf en) _ _ _
theorem lst_go {α : Type} {en : Nat} {f : RSt → α × RSt} {x : Bytes} {k : Nat} {s sL sT : RSt} {l : List α} {a : α} {y : List α × RSt} (h : RSt.lst en f x k s l = y) (hk : s.l.length < k) (he : s.err = 0) (hL : s.lim en l.length 12 = sL) (hT : f sL = (a, sT)) :
    ∃ k', k = k' + 1 ∧ ((sT.key x = true → RSt.lst en f x k' (sT.word en x) (l ++ [a]) = y) ∧ (sT.key x = false → (l ++ [a], sT) = y)) := by
  obtain ⟨k', rfl⟩ : ∃ k', k = k' + 1 := ⟨k - 1, by omega⟩
  refine ⟨k', rfl, ?_, ?_⟩
  · intro hx
    unfold RSt.lst at h
    rw [if_pos he, hL, hT] at h
    simp only [hx, if_true] at h
    exact h
  · intro hx
    unfold RSt.lst at h
    rw [if_pos he, hL, hT] at h
    simp only [hx] at h
    exact h
theorem word_less {en : Nat} {s s' : RSt} {x : Bytes} (h : s.key x = true) (hw : s.word en x = s') : s'.l.length + 1 ≤ s.l.length := by
  obtain ⟨_, t, r, hl⟩ := key_cons h
  unfold RSt.word at hw
  rw [if_pos h] at hw
  rw [← hw]
  unfold RSt.tl
  simp [hl]
set_option maxHeartbeats 4000000 in
set_option maxRecDepth 100000 in
theorem when_r {w : World} {en : Nat} {s : RSt} {ao : Option Addr} {cap : Nat} (HT : Hid (TokS w (.slice ao s.l.length cap) s.l)) (HSM : Hid (Sm s.l)) (HN : Hid (s.l.length ≤ 100000)) {R : Ending → World → Prop}
    (h : ∀ (l : List (List Rl.Tst)) (vo : Option Addr) (vc : Nat) (s' : RSt) (ao' : Option Addr) (cap' : Nat) (w' : World), Hid (s.when en = (l, s')) → Hid (Suf ao cap s.l ao' cap' s'.l) → Hid (ListS w.heap.size 46 1 (Cr w.heap.size) l (.slice vo l.length vc) w') → Hid (Chg [] w w') → R (.returned (.tuple #[.slice vo l.length vc, .agg #[.slice ao' s'.l.length cap', .int .i64 (en : Int), .int .i64 (s'.err : Int), .int .i64 (s'.at_ : Int)]])) w') :
    Calls Tryd.prog 46 #[.agg #[.slice ao s.l.length cap, .int .i64 (en : Int), .int .i64 (s.err : Int), .int .i64 (s.at_ : Int)]] w R := by
  refine (show Calls Tryd.prog 46 #[.agg #[.slice ao s.l.length cap, .int .i64 (en : Int), .int .i64 (s.err : Int), .int .i64 (s.at_ : Int)]] w (fun e w' => ∃ l vo vc s' ao' cap', Hid (s.when en = (l, s')) ∧ Hid (Suf ao cap s.l ao' cap' s'.l) ∧ Hid (ListS w.heap.size 46 1 (Cr w.heap.size) l (.slice vo l.length vc) w') ∧ Hid (Chg [] w w') ∧ e = .returned (.tuple #[.slice vo l.length vc, .agg #[.slice ao' s'.l.length cap', .int .i64 (en : Int), .int .i64 (s'.err : Int), .int .i64 (s'.at_ : Int)]])) from ?_).mono (fun e w' hx => by obtain ⟨l, vo, vc, s', ao', cap', h1, h2, h3, h4, h5⟩ := hx; subst h5; exact h l vo vc s' ao' cap' w' h1 h2 h3 h4)
  clear h
  obtain ⟨ir, hir, rz0, rz1, rz2⟩ := info_parts info_sevr
  obtain ⟨it, hit, tz0, tz1, tz2⟩ := info_parts info_sevt
  go_enter Tryd.func46, Tryd.ntmps46
  go_upto_region 1 with fail
  obtain ⟨W1, hW⟩ : ∃ W, W = ((w.alloc (.cells #[.slice ao s.l.length cap, .int .i64 (en : Int), .int .i64 (s.err : Int), .int .i64 (s.at_ : Int)] 63)).alloc (.cells #[.slice none 0 0, .int .i64 0, .int .i64 0, .int .i64 0] 63)) := ⟨_, rfl⟩
  rw [← hW]
  obtain ⟨X3, hX3⟩ : ∃ T, T = w.heap.size + 1 := ⟨_, rfl⟩
  try rw [← hX3]
  obtain ⟨X1, hX1⟩ : ∃ T, T = w.heap.size := ⟨_, rfl⟩
  try rw [← hX1]
  have OX1 : Hid (w.heap.size ≤ X1) := Lib.hid (by rw [hX1]; exact Nat.le_refl _)
  have OX3 : Hid (X1 < X3) := Lib.hid (by rw [hX3, hX1]; omega)
  have HX1_1 : Hid (Blk W1 X1 [.slice ao s.l.length cap, .int .i64 (en : Int), .int .i64 (s.err : Int), .int .i64 (s.at_ : Int)] 63) := Lib.hid (by
    have h1 := Blk.new w [.slice ao s.l.length cap, .int .i64 (en : Int), .int .i64 (s.err : Int), .int .i64 (s.at_ : Int)] 63
    have h2 : w.heap.size = X1 := by simp [hX1]
    rw [h2] at h1
    rw [hW]
    exact (h1.alloc _))
  have HX3_1 : Hid (Blk W1 X3 [.slice none 0 0, .int .i64 0, .int .i64 0, .int .i64 0] 63) := Lib.hid (by
    have h1 := Blk.new (w.alloc (.cells #[.slice ao s.l.length cap, .int .i64 (en : Int), .int .i64 (s.err : Int), .int .i64 (s.at_ : Int)] 63)) [.slice none 0 0, .int .i64 0, .int .i64 0, .int .i64 0] 63
    have h2 : (w.alloc (.cells #[.slice ao s.l.length cap, .int .i64 (en : Int), .int .i64 (s.err : Int), .int .i64 (s.at_ : Int)] 63)).heap.size = X3 := by simp [hX3]
    rw [h2] at h1
    rw [hW]
    exact h1)
  have C1 : Hid (Chg [] w W1) := Lib.hid (by rw [hW]; exact (((Chg.refl [] w).alloc _).alloc _))
  clear hW hX1 hX3
  have HXL : Hid (X1 < W1.heap.size) := Lib.hid HX1_1.out.lt
  have HX3L : Hid (X3 < W1.heap.size) := Lib.hid HX3_1.out.lt
  have HWL : Hid (w.heap.size ≤ W1.heap.size) := Lib.hid C1.out.size
  go_wp2_with fail
  go_loopw [4] (fun v wr => ∃ (k : Nat) (s1 : RSt) (ao1 : Option Addr) (cap1 : Nat) (out : List (List Rl.Tst)) (vo : Option Addr) (vc : Nat), v = .slice vo out.length vc ∧ Hid (RSt.lst en (RSt.tests en) Rl.wOr k s1 out = s.when en ∧ s1.l.length < k ∧ out.length + s1.l.length ≤ s.l.length ∧ s1.l <:+ s.l) ∧ Hid (Suf ao cap s.l ao1 cap1 s1.l) ∧ Hid (Blk wr X1 [.slice ao1 s1.l.length cap1, .int .i64 (en : Int), .int .i64 (s1.err : Int), .int .i64 (s1.at_ : Int)] 63) ∧ Hid (ListS W1.heap.size 46 1 (Cr W1.heap.size) out (.slice vo out.length vc) wr) ∧ Hid (Chg [X1] W1 wr)) (fun v _ => s.l.length - lenOf v)
  case atStart => exact ⟨s.l.length + 1, s, ao, cap, [], none, 0, rfl, Lib.hid ⟨rfl, Nat.lt_succ_self _, by simp, List.suffix_refl _⟩, Lib.hid (fun v hv => hv), HX1_1, Lib.hid (ListS.nil _ _ _ _ _), Lib.hid (Chg.refl _ _)⟩
  case round =>
    obtain ⟨k, s1, ao1, cap1, out, vo, vc, rfl, HI, HS1, HX1, HL, HCL⟩ := hrel
    obtain ⟨wo, hwn⟩ : ∃ x, x = wr := ⟨_, rfl⟩
    subst hwn
    have NX3_X1 : X3 ≠ X1 := by have OX1_ := OX1.out; have OX3_ := OX3.out; omega
    have NX1_X3 : X1 ≠ X3 := NX3_X1.symm
    have HX3_2 : Hid (Blk wo X3 [.slice none 0 0, .int .i64 0, .int .i64 0, .int .i64 0] 63) := Lib.hid (HCL.out.blk HX3_1.out (by simp [NX3_X1]))
    have C2 : Hid (Chg [] w wo) := Lib.hid (C1.out.trans HCL.out (fun k hk => .inr (by have OX1_ := OX1.out; have OX3_ := OX3.out; simp only [List.mem_cons, List.not_mem_nil, or_false] at hk; omega)))
    have KL_2 : Hid (Chg [X1] W1 wo) := Lib.hid (by exact ((Chg.refl [X1] W1).trans HCL.out (fun k hk => by simp only [List.mem_cons, List.not_mem_nil, or_false] at hk; rcases hk with rfl; exact .inl (by simp))))
    by_cases he : s1.err = 0
    · have q : ((s1.err : Int) == 0) = true := by rw [he]; rfl
      have HE0 := Lib.hid he
      clear he
      have cX1_0 := HX1.out.cell (i := 0) rfl
      have cX1_1 := HX1.out.cell (i := 1) rfl
      have cX1_2 := HX1.out.cell (i := 2) rfl
      have cX1_3 := HX1.out.cell (i := 3) rfl
      go_wp2_with fail
      clear cX1_0 cX1_1 cX1_2 cX1_3 q
      refine limit_r (Lib.hid (HS1.out.to HT.out C2.out)) out.length 12 (fun sL wL HEL HSL DL => ?_)
      have HX1_3 : Hid (Blk wL X1 [.slice ao1 s1.l.length cap1, .int .i64 (en : Int), .int .i64 (s1.err : Int), .int .i64 (s1.at_ : Int)] 63) := Lib.hid (DL.out.blk HX1.out (by simp))
      have HX3_3 : Hid (Blk wL X3 [.slice none 0 0, .int .i64 0, .int .i64 0, .int .i64 0] 63) := Lib.hid (DL.out.blk HX3_2.out (by simp))
      have C3 : Hid (Chg [] w wL) := Lib.hid (C2.out.trans DL.out (by simp))
      have KL_3 : Hid (Chg [X1] W1 wL) := Lib.hid (by exact (KL_2.out.trans DL.out (by simp)))
      have Ko_3 : Hid (Chg [X1] wo wL) := Lib.hid (by exact ((Chg.refl [X1] wo).trans DL.out (by simp)))
      have cX1_0 := HX1_3.out.cell (i := 0) rfl
      have cX1_1 := HX1_3.out.cell (i := 1) rfl
      have cX1_2 := HX1_3.out.cell (i := 2) rfl
      have cX1_3 := HX1_3.out.cell (i := 3) rfl
      have cX1_f0 := HX1_3.out.free 0
      have cX1_f1 := HX1_3.out.free 1
      have cX1_f2 := HX1_3.out.free 2
      have cX1_f3 := HX1_3.out.free 3
      go_upto_region 4 with fail
      clear cX1_0 cX1_1 cX1_2 cX1_3 cX1_f0 cX1_f1 cX1_f2 cX1_f3
      obtain ⟨W4, hW⟩ : ∃ W, W = ((((wL.setCell ⟨X1, 0, none⟩ (.slice ao1 sL.l.length cap1)).setCell ⟨X1, 1, none⟩ (.int .i64 (en : Int))).setCell ⟨X1, 2, none⟩ (.int .i64 (sL.err : Int))).setCell ⟨X1, 3, none⟩ (.int .i64 (sL.at_ : Int))) := ⟨_, rfl⟩
      rw [← hW]
      have HX1_4 : Hid (Blk W4 X1 [.slice ao1 sL.l.length cap1, .int .i64 (en : Int), .int .i64 (sL.err : Int), .int .i64 (sL.at_ : Int)] 63) := Lib.hid (by rw [hW]; exact ((((HX1_3.out.set 0 (.slice ao1 sL.l.length cap1)).set 1 (.int .i64 (en : Int))).set 2 (.int .i64 (sL.err : Int))).set 3 (.int .i64 (sL.at_ : Int))))
      have HX3_4 : Hid (Blk W4 X3 [.slice none 0 0, .int .i64 0, .int .i64 0, .int .i64 0] 63) := Lib.hid (by rw [hW]; exact ((((HX3_3.out.other _ _ NX3_X1).other _ _ NX3_X1).other _ _ NX3_X1).other _ _ NX3_X1))
      have C4 : Hid (Chg [] w W4) := Lib.hid (by rw [hW]; exact ((((C3.out.setCell _ _ (.inr (by have OX1_ := OX1.out; have OX3_ := OX3.out; show w.heap.size ≤ X1; omega))).setCell _ _ (.inr (by have OX1_ := OX1.out; have OX3_ := OX3.out; show w.heap.size ≤ X1; omega))).setCell _ _ (.inr (by have OX1_ := OX1.out; have OX3_ := OX3.out; show w.heap.size ≤ X1; omega))).setCell _ _ (.inr (by have OX1_ := OX1.out; have OX3_ := OX3.out; show w.heap.size ≤ X1; omega))))
      have KL_4 : Hid (Chg [X1] W1 W4) := Lib.hid (by rw [hW]; exact ((((KL_3.out.setCell _ _ (.inl (by simp))).setCell _ _ (.inl (by simp))).setCell _ _ (.inl (by simp))).setCell _ _ (.inl (by simp))))
      have Ko_4 : Hid (Chg [X1] wo W4) := Lib.hid (by rw [hW]; exact ((((Ko_3.out.setCell _ _ (.inl (by simp))).setCell _ _ (.inl (by simp))).setCell _ _ (.inl (by simp))).setCell _ _ (.inl (by simp))))
      clear hW
      have HSL0 : Hid (sL.l = s1.l) := Lib.hid (by rw [← HEL.out, lim_l])
      have HSLL : Hid (sL.l <:+ s.l) := Lib.hid (by rw [HSL0.out]; exact HI.out.2.2.2)
      have HSLN : Hid (sL.l.length ≤ s.l.length) := Lib.hid HSLL.out.length_le
      have HXI : Hid (X1 < W4.heap.size) := Lib.hid HX1_4.out.lt
      have HLI : Hid (W1.heap.size ≤ W4.heap.size) := Lib.hid KL_4.out.size
      have HOI : Hid (wo.heap.size ≤ W4.heap.size) := Lib.hid Ko_4.out.size
      have HWI : Hid (w.heap.size ≤ W4.heap.size) := Lib.hid C4.out.size
      go_wp2_with fail
      go_loopw [5] (fun v wr => ∃ (k2 : Nat) (s2 : RSt) (ao2 : Option Addr) (cap2 : Nat) (l : List Rl.Tst) (uo : Option Addr) (uc : Nat), v = .slice uo l.length uc ∧ Hid (RSt.lst en (RSt.test en) Rl.wAnd k2 s2 l = sL.tests en ∧ s2.l.length < k2 ∧ l.length + s2.l.length ≤ s.l.length ∧ s2.l <:+ sL.l) ∧ Hid (Suf ao cap s.l ao2 cap2 s2.l) ∧ Hid (Blk wr X1 [.slice ao2 s2.l.length cap2, .int .i64 (en : Int), .int .i64 (s2.err : Int), .int .i64 (s2.at_ : Int)] 63) ∧ Hid (ListS W4.heap.size 48 5 Ct l (.slice uo l.length uc) wr) ∧ Hid (Chg [X1] W4 wr)) (fun v _ => s.l.length - lenOf v)
      case atStart => exact ⟨sL.l.length + 1, sL, ao1, cap1, [], none, 0, rfl, Lib.hid ⟨rfl, Nat.lt_succ_self _, by have := HSLN.out; simp; omega, List.suffix_refl _⟩, Lib.hid (HS1.out.trans HSL.out), HX1_4, Lib.hid (ListS.nil _ _ _ _ _), Lib.hid (Chg.refl _ _)⟩
      case round =>
        obtain ⟨k2, s2, ao2, cap2, l, uo, uc, rfl, HI2, HS2, HX2, HL2, HCL2⟩ := hrel
        obtain ⟨wi, hwn⟩ : ∃ x, x = wr := ⟨_, rfl⟩
        subst hwn
        have HX3_5 : Hid (Blk wi X3 [.slice none 0 0, .int .i64 0, .int .i64 0, .int .i64 0] 63) := Lib.hid (HCL2.out.blk HX3_4.out (by simp [NX3_X1]))
        have C5 : Hid (Chg [] w wi) := Lib.hid (C4.out.trans HCL2.out (fun k hk => .inr (by have OX1_ := OX1.out; have OX3_ := OX3.out; simp only [List.mem_cons, List.not_mem_nil, or_false] at hk; omega)))
        have KL_5 : Hid (Chg [X1] W1 wi) := Lib.hid (by exact (KL_4.out.trans HCL2.out (fun k hk => by simp only [List.mem_cons, List.not_mem_nil, or_false] at hk; rcases hk with rfl; exact .inl (by simp))))
        have Ko_5 : Hid (Chg [X1] wo wi) := Lib.hid (by exact (Ko_4.out.trans HCL2.out (fun k hk => by simp only [List.mem_cons, List.not_mem_nil, or_false] at hk; rcases hk with rfl; exact .inl (by simp))))
        have KI_5 : Hid (Chg [X1] W4 wi) := Lib.hid (by exact ((Chg.refl [X1] W4).trans HCL2.out (fun k hk => by simp only [List.mem_cons, List.not_mem_nil, or_false] at hk; rcases hk with rfl; exact .inl (by simp))))
        have hb1 : out.length ≤ 100000 := by have h1 := HI.out.2.2.1; have h2 := HN.out; omega
        have hb2 : l.length ≤ 100000 := by have h1 := HI2.out.2.2.1; have h2 := HN.out; omega
        by_cases he : s2.err = 0
        · have q : ((s2.err : Int) == 0) = true := by rw [he]; rfl
          have HE2 := Lib.hid he
          clear he
          have cX1_0 := HX2.out.cell (i := 0) rfl
          have cX1_1 := HX2.out.cell (i := 1) rfl
          have cX1_2 := HX2.out.cell (i := 2) rfl
          have cX1_3 := HX2.out.cell (i := 3) rfl
          go_wp2_with fail
          clear cX1_0 cX1_1 cX1_2 cX1_3 q
          refine limit_r (Lib.hid (HS2.out.to HT.out C5.out)) l.length 12 (fun sM wM HEM HSM2 DM => ?_)
          have HX1_6 : Hid (Blk wM X1 [.slice ao2 s2.l.length cap2, .int .i64 (en : Int), .int .i64 (s2.err : Int), .int .i64 (s2.at_ : Int)] 63) := Lib.hid (DM.out.blk HX2.out (by simp))
          have HX3_6 : Hid (Blk wM X3 [.slice none 0 0, .int .i64 0, .int .i64 0, .int .i64 0] 63) := Lib.hid (DM.out.blk HX3_5.out (by simp))
          have C6 : Hid (Chg [] w wM) := Lib.hid (C5.out.trans DM.out (by simp))
          have KL_6 : Hid (Chg [X1] W1 wM) := Lib.hid (by exact (KL_5.out.trans DM.out (by simp)))
          have Ko_6 : Hid (Chg [X1] wo wM) := Lib.hid (by exact (Ko_5.out.trans DM.out (by simp)))
          have KI_6 : Hid (Chg [X1] W4 wM) := Lib.hid (by exact (KI_5.out.trans DM.out (by simp)))
          have Ki_6 : Hid (Chg [X1] wi wM) := Lib.hid (by exact ((Chg.refl [X1] wi).trans DM.out (by simp)))
          have cX1_0 := HX1_6.out.cell (i := 0) rfl
          have cX1_1 := HX1_6.out.cell (i := 1) rfl
          have cX1_2 := HX1_6.out.cell (i := 2) rfl
          have cX1_3 := HX1_6.out.cell (i := 3) rfl
          have cX1_f0 := HX1_6.out.free 0
          have cX1_f1 := HX1_6.out.free 1
          have cX1_f2 := HX1_6.out.free 2
          have cX1_f3 := HX1_6.out.free 3
          go_upto_region 7 with fail
          clear cX1_0 cX1_1 cX1_2 cX1_3 cX1_f0 cX1_f1 cX1_f2 cX1_f3
          obtain ⟨W7, hW⟩ : ∃ W, W = ((((wM.setCell ⟨X1, 0, none⟩ (.slice ao2 sM.l.length cap2)).setCell ⟨X1, 1, none⟩ (.int .i64 (en : Int))).setCell ⟨X1, 2, none⟩ (.int .i64 (sM.err : Int))).setCell ⟨X1, 3, none⟩ (.int .i64 (sM.at_ : Int))) := ⟨_, rfl⟩
          rw [← hW]
          have HX1_7 : Hid (Blk W7 X1 [.slice ao2 sM.l.length cap2, .int .i64 (en : Int), .int .i64 (sM.err : Int), .int .i64 (sM.at_ : Int)] 63) := Lib.hid (by rw [hW]; exact ((((HX1_6.out.set 0 (.slice ao2 sM.l.length cap2)).set 1 (.int .i64 (en : Int))).set 2 (.int .i64 (sM.err : Int))).set 3 (.int .i64 (sM.at_ : Int))))
          have HX3_7 : Hid (Blk W7 X3 [.slice none 0 0, .int .i64 0, .int .i64 0, .int .i64 0] 63) := Lib.hid (by rw [hW]; exact ((((HX3_6.out.other _ _ NX3_X1).other _ _ NX3_X1).other _ _ NX3_X1).other _ _ NX3_X1))
          have C7 : Hid (Chg [] w W7) := Lib.hid (by rw [hW]; exact ((((C6.out.setCell _ _ (.inr (by have OX1_ := OX1.out; have OX3_ := OX3.out; show w.heap.size ≤ X1; omega))).setCell _ _ (.inr (by have OX1_ := OX1.out; have OX3_ := OX3.out; show w.heap.size ≤ X1; omega))).setCell _ _ (.inr (by have OX1_ := OX1.out; have OX3_ := OX3.out; show w.heap.size ≤ X1; omega))).setCell _ _ (.inr (by have OX1_ := OX1.out; have OX3_ := OX3.out; show w.heap.size ≤ X1; omega))))
          have KL_7 : Hid (Chg [X1] W1 W7) := Lib.hid (by rw [hW]; exact ((((KL_6.out.setCell _ _ (.inl (by simp))).setCell _ _ (.inl (by simp))).setCell _ _ (.inl (by simp))).setCell _ _ (.inl (by simp))))
          have Ko_7 : Hid (Chg [X1] wo W7) := Lib.hid (by rw [hW]; exact ((((Ko_6.out.setCell _ _ (.inl (by simp))).setCell _ _ (.inl (by simp))).setCell _ _ (.inl (by simp))).setCell _ _ (.inl (by simp))))
          have KI_7 : Hid (Chg [X1] W4 W7) := Lib.hid (by rw [hW]; exact ((((KI_6.out.setCell _ _ (.inl (by simp))).setCell _ _ (.inl (by simp))).setCell _ _ (.inl (by simp))).setCell _ _ (.inl (by simp))))
          have Ki_7 : Hid (Chg [X1] wi W7) := Lib.hid (by rw [hW]; exact ((((Ki_6.out.setCell _ _ (.inl (by simp))).setCell _ _ (.inl (by simp))).setCell _ _ (.inl (by simp))).setCell _ _ (.inl (by simp))))
          clear hW
          have HSMS : Hid (sM.l <:+ sL.l) := Lib.hid (by rw [← HEM.out, lim_l]; exact HI2.out.2.2.2)
          have cX1_0 := HX1_7.out.cell (i := 0) rfl
          have cX1_1 := HX1_7.out.cell (i := 1) rfl
          have cX1_2 := HX1_7.out.cell (i := 2) rfl
          have cX1_3 := HX1_7.out.cell (i := 3) rfl
          go_wp2_with fail
          clear cX1_0 cX1_1 cX1_2 cX1_3
          refine test_r (Lib.hid ((HS2.out.trans HSM2.out).to HT.out C7.out)) (Lib.hid (HSM.out.sfx (HSMS.out.trans HSLL.out))) (fun a sT aoT capT wT HET HST DT => ?_)
          have HX1_8 : Hid (Blk wT X1 [.slice ao2 sM.l.length cap2, .int .i64 (en : Int), .int .i64 (sM.err : Int), .int .i64 (sM.at_ : Int)] 63) := Lib.hid (DT.out.blk HX1_7.out (by simp))
          have HX3_8 : Hid (Blk wT X3 [.slice none 0 0, .int .i64 0, .int .i64 0, .int .i64 0] 63) := Lib.hid (DT.out.blk HX3_7.out (by simp))
          have C8 : Hid (Chg [] w wT) := Lib.hid (C7.out.trans DT.out (by simp))
          have KL_8 : Hid (Chg [X1] W1 wT) := Lib.hid (by exact (KL_7.out.trans DT.out (by simp)))
          have Ko_8 : Hid (Chg [X1] wo wT) := Lib.hid (by exact (Ko_7.out.trans DT.out (by simp)))
          have KI_8 : Hid (Chg [X1] W4 wT) := Lib.hid (by exact (KI_7.out.trans DT.out (by simp)))
          have Ki_8 : Hid (Chg [X1] wi wT) := Lib.hid (by exact (Ki_7.out.trans DT.out (by simp)))
          go_upto_region 8 with fail
          obtain ⟨W9, hW⟩ : ∃ W, W = ((wT.alloc (.cells #[.string ⟨a.attr.toArray⟩, .int .i64 (a.op : Nat), .string ⟨a.name.toArray⟩, .int .i64 (a.n : Nat), .int .i64 (a.at_ : Nat)] 48)).alloc (.cells #[.slice aoT sT.l.length capT, .int .i64 (en : Int), .int .i64 (sT.err : Int), .int .i64 (sT.at_ : Int)] 63)) := ⟨_, rfl⟩
          rw [← hW]
          obtain ⟨T7, hT7⟩ : ∃ T, T = wT.heap.size + 1 := ⟨_, rfl⟩
          try rw [← hT7]
          obtain ⟨T6, hT6⟩ : ∃ T, T = wT.heap.size := ⟨_, rfl⟩
          try rw [← hT6]
          have OT6 : Hid (X3 < T6) := Lib.hid (by rw [hT6]; exact HX3_8.out.lt)
          have OT7 : Hid (T6 < T7) := Lib.hid (by rw [hT7, hT6]; omega)
          have HX1_9 : Hid (Blk W9 X1 [.slice ao2 sM.l.length cap2, .int .i64 (en : Int), .int .i64 (sM.err : Int), .int .i64 (sM.at_ : Int)] 63) := Lib.hid (by rw [hW]; exact ((HX1_8.out.alloc _).alloc _))
          have HX3_9 : Hid (Blk W9 X3 [.slice none 0 0, .int .i64 0, .int .i64 0, .int .i64 0] 63) := Lib.hid (by rw [hW]; exact ((HX3_8.out.alloc _).alloc _))
          have HT6_9 : Hid (Blk W9 T6 [.string ⟨a.attr.toArray⟩, .int .i64 (a.op : Nat), .string ⟨a.name.toArray⟩, .int .i64 (a.n : Nat), .int .i64 (a.at_ : Nat)] 48) := Lib.hid (by
            have h1 := Blk.new wT [.string ⟨a.attr.toArray⟩, .int .i64 (a.op : Nat), .string ⟨a.name.toArray⟩, .int .i64 (a.n : Nat), .int .i64 (a.at_ : Nat)] 48
            have h2 : wT.heap.size = T6 := by simp [hT6]
            rw [h2] at h1
            rw [hW]
            exact (h1.alloc _))
          have HT7_9 : Hid (Blk W9 T7 [.slice aoT sT.l.length capT, .int .i64 (en : Int), .int .i64 (sT.err : Int), .int .i64 (sT.at_ : Int)] 63) := Lib.hid (by
            have h1 := Blk.new (wT.alloc (.cells #[.string ⟨a.attr.toArray⟩, .int .i64 (a.op : Nat), .string ⟨a.name.toArray⟩, .int .i64 (a.n : Nat), .int .i64 (a.at_ : Nat)] 48)) [.slice aoT sT.l.length capT, .int .i64 (en : Int), .int .i64 (sT.err : Int), .int .i64 (sT.at_ : Int)] 63
            have h2 : (wT.alloc (.cells #[.string ⟨a.attr.toArray⟩, .int .i64 (a.op : Nat), .string ⟨a.name.toArray⟩, .int .i64 (a.n : Nat), .int .i64 (a.at_ : Nat)] 48)).heap.size = T7 := by simp [hT7]
            rw [h2] at h1
            rw [hW]
            exact h1)
          have C9 : Hid (Chg [] w W9) := Lib.hid (by rw [hW]; exact ((C8.out.alloc _).alloc _))
          have KL_9 : Hid (Chg [X1] W1 W9) := Lib.hid (by rw [hW]; exact ((KL_8.out.alloc _).alloc _))
          have Ko_9 : Hid (Chg [X1] wo W9) := Lib.hid (by rw [hW]; exact ((Ko_8.out.alloc _).alloc _))
          have KI_9 : Hid (Chg [X1] W4 W9) := Lib.hid (by rw [hW]; exact ((KI_8.out.alloc _).alloc _))
          have Ki_9 : Hid (Chg [X1] wi W9) := Lib.hid (by rw [hW]; exact ((Ki_8.out.alloc _).alloc _))
          clear hW hT6 hT7
          have cT7_0 := HT7_9.out.cell (i := 0) rfl
          have cT7_1 := HT7_9.out.cell (i := 1) rfl
          have cT7_2 := HT7_9.out.cell (i := 2) rfl
          have cT7_3 := HT7_9.out.cell (i := 3) rfl
          have cX1_0 := HX1_9.out.cell (i := 0) rfl
          have cX1_1 := HX1_9.out.cell (i := 1) rfl
          have cX1_2 := HX1_9.out.cell (i := 2) rfl
          have cX1_3 := HX1_9.out.cell (i := 3) rfl
          have cX1_f0 := HX1_9.out.free 0
          have cX1_f1 := HX1_9.out.free 1
          have cX1_f2 := HX1_9.out.free 2
          have cX1_f3 := HX1_9.out.free 3
          go_upto_region 9 with fail
          clear cT7_0 cT7_1 cT7_2 cT7_3 cX1_0 cX1_1 cX1_2 cX1_3 cX1_f0 cX1_f1 cX1_f2 cX1_f3
          have NT6_X1 : T6 ≠ X1 := by have OX1_ := OX1.out; have OX3_ := OX3.out; have OT6_ := OT6.out; have OT7_ := OT7.out; omega
          have NX1_T6 : X1 ≠ T6 := NT6_X1.symm
          have NT7_X1 : T7 ≠ X1 := by have OX1_ := OX1.out; have OX3_ := OX3.out; have OT6_ := OT6.out; have OT7_ := OT7.out; omega
          have NX1_T7 : X1 ≠ T7 := NT7_X1.symm
          obtain ⟨W10, hW⟩ : ∃ W, W = ((((W9.setCell ⟨X1, 0, none⟩ (.slice aoT sT.l.length capT)).setCell ⟨X1, 1, none⟩ (.int .i64 (en : Int))).setCell ⟨X1, 2, none⟩ (.int .i64 (sT.err : Int))).setCell ⟨X1, 3, none⟩ (.int .i64 (sT.at_ : Int))) := ⟨_, rfl⟩
          rw [← hW]
          have HX1_10 : Hid (Blk W10 X1 [.slice aoT sT.l.length capT, .int .i64 (en : Int), .int .i64 (sT.err : Int), .int .i64 (sT.at_ : Int)] 63) := Lib.hid (by rw [hW]; exact ((((HX1_9.out.set 0 (.slice aoT sT.l.length capT)).set 1 (.int .i64 (en : Int))).set 2 (.int .i64 (sT.err : Int))).set 3 (.int .i64 (sT.at_ : Int))))
          have HX3_10 : Hid (Blk W10 X3 [.slice none 0 0, .int .i64 0, .int .i64 0, .int .i64 0] 63) := Lib.hid (by rw [hW]; exact ((((HX3_9.out.other _ _ NX3_X1).other _ _ NX3_X1).other _ _ NX3_X1).other _ _ NX3_X1))
          have HT6_10 : Hid (Blk W10 T6 [.string ⟨a.attr.toArray⟩, .int .i64 (a.op : Nat), .string ⟨a.name.toArray⟩, .int .i64 (a.n : Nat), .int .i64 (a.at_ : Nat)] 48) := Lib.hid (by rw [hW]; exact ((((HT6_9.out.other _ _ NT6_X1).other _ _ NT6_X1).other _ _ NT6_X1).other _ _ NT6_X1))
          have C10 : Hid (Chg [] w W10) := Lib.hid (by rw [hW]; exact ((((C9.out.setCell _ _ (.inr (by have OX1_ := OX1.out; have OX3_ := OX3.out; have OT6_ := OT6.out; have OT7_ := OT7.out; show w.heap.size ≤ X1; omega))).setCell _ _ (.inr (by have OX1_ := OX1.out; have OX3_ := OX3.out; have OT6_ := OT6.out; have OT7_ := OT7.out; show w.heap.size ≤ X1; omega))).setCell _ _ (.inr (by have OX1_ := OX1.out; have OX3_ := OX3.out; have OT6_ := OT6.out; have OT7_ := OT7.out; show w.heap.size ≤ X1; omega))).setCell _ _ (.inr (by have OX1_ := OX1.out; have OX3_ := OX3.out; have OT6_ := OT6.out; have OT7_ := OT7.out; show w.heap.size ≤ X1; omega))))
          have KL_10 : Hid (Chg [X1] W1 W10) := Lib.hid (by rw [hW]; exact ((((KL_9.out.setCell _ _ (.inl (by simp))).setCell _ _ (.inl (by simp))).setCell _ _ (.inl (by simp))).setCell _ _ (.inl (by simp))))
          have Ko_10 : Hid (Chg [X1] wo W10) := Lib.hid (by rw [hW]; exact ((((Ko_9.out.setCell _ _ (.inl (by simp))).setCell _ _ (.inl (by simp))).setCell _ _ (.inl (by simp))).setCell _ _ (.inl (by simp))))
          have KI_10 : Hid (Chg [X1] W4 W10) := Lib.hid (by rw [hW]; exact ((((KI_9.out.setCell _ _ (.inl (by simp))).setCell _ _ (.inl (by simp))).setCell _ _ (.inl (by simp))).setCell _ _ (.inl (by simp))))
          have Ki_10 : Hid (Chg [X1] wi W10) := Lib.hid (by rw [hW]; exact ((((Ki_9.out.setCell _ _ (.inl (by simp))).setCell _ _ (.inl (by simp))).setCell _ _ (.inl (by simp))).setCell _ _ (.inl (by simp))))
          clear hW
          have HLk : Hid (ListS W4.heap.size 48 5 Ct l (.slice uo l.length uc) (W10.alloc (.cells #[.string ⟨a.attr.toArray⟩, .int .i64 (a.op : Nat), .string ⟨a.name.toArray⟩, .int .i64 (a.n : Nat), .int .i64 (a.at_ : Nat)] 48))) := Lib.hid (HL2.out.keep (kp_t _) (Ki_10.out.alloc _) (TyB.lower (by intro b hb; simp only [List.mem_cons, List.not_mem_nil, or_false] at hb; subst hb; exact HXI.out) _))
          have hcb : Hid (Chg [X1] W4 (W10.alloc (.cells #[.string ⟨a.attr.toArray⟩, .int .i64 (a.op : Nat), .string ⟨a.name.toArray⟩, .int .i64 (a.n : Nat), .int .i64 (a.at_ : Nat)] 48))) := Lib.hid (KI_10.out.alloc _)
          have cT6_0 := HT6_10.out.cell (i := 0) rfl
          have cT6_1 := HT6_10.out.cell (i := 1) rfl
          have cT6_2 := HT6_10.out.cell (i := 2) rfl
          have cT6_3 := HT6_10.out.cell (i := 3) rfl
          have cT6_4 := HT6_10.out.cell (i := 4) rfl
          go_wp2_with (at_builtin; refine wpList_snoc rfl (.tmp 28) (.tmp 30) 46 rfl 48 it (.agg #[.string ⟨#[]⟩, .int .i64 0, .string ⟨#[]⟩, .int .i64 0, .int .i64 0]) 5 56 Tryd.underlying46 hit tz0 tz1 tz2 rfl (by decide) (C := Ct) (Es := []) (.slice uo l.length uc) l.length rfl HLk.out rfl (kp_t _) (by simp) a [.string ⟨a.attr.toArray⟩, .int .i64 (a.op : Nat), .string ⟨a.name.toArray⟩, .int .i64 (a.n : Nat), .int .i64 (a.at_ : Nat)] rfl rfl (by intro u hu; simp at hu; rcases hu with rfl | rfl | rfl | rfl | rfl <;> rfl) W10.heap.size rfl (Blk.new W10 [.string ⟨a.attr.toArray⟩, .int .i64 (a.op : Nat), .string ⟨a.name.toArray⟩, .int .i64 (a.n : Nat), .int .i64 (a.at_ : Nat)] 48) (by unfold maxLen; omega) (by omega) hcb.out.size ?kk)
          case kk =>
            intro lo8 lc8 v8 hl8 hc8 hb8
            have HL8 := Lib.hid hl8
            have HC8 := Lib.hid hc8
            have HB8 := Lib.hid hb8
            clear hl8 hc8 hb8 hcb cT6_0 cT6_1 cT6_2 cT6_3 cT6_4
            have HX1_11 : Hid (Blk v8 X1 [.slice aoT sT.l.length capT, .int .i64 (en : Int), .int .i64 (sT.err : Int), .int .i64 (sT.at_ : Int)] 63) := Lib.hid (HB8.out _ _ _ (HX1_10.out.alloc _) (.inr (by decide)))
            have HX3_11 : Hid (Blk v8 X3 [.slice none 0 0, .int .i64 0, .int .i64 0, .int .i64 0] 63) := Lib.hid (HB8.out _ _ _ (HX3_10.out.alloc _) (.inr (by decide)))
            have C11 : Hid (Chg [] w v8) := Lib.hid (HC8.out _ _ (C10.out.alloc _) HWI.out)
            have KL_11 : Hid (Chg [X1] W1 v8) := Lib.hid (by exact (HC8.out _ _ (KL_10.out.alloc _) HLI.out))
            have Ko_11 : Hid (Chg [X1] wo v8) := Lib.hid (by exact (HC8.out _ _ (Ko_10.out.alloc _) HOI.out))
            have KI_11 : Hid (Chg [X1] W4 v8) := Lib.hid (by exact (HC8.out _ _ (KI_10.out.alloc _) (Nat.le_refl _)))
            have cX1_0 := HX1_11.out.cell (i := 0) rfl
            have cX1_1 := HX1_11.out.cell (i := 1) rfl
            have cX1_2 := HX1_11.out.cell (i := 2) rfl
            have cX1_3 := HX1_11.out.cell (i := 3) rfl
            go_wp2_with fail
            clear cX1_0 cX1_1 cX1_2 cX1_3
            refine key_r (Lib.hid (((HS2.out.trans HSM2.out).trans HST.out).to HT.out C11.out)) [97, 110, 100] (fun ba wA HBA DA => ?_)
            have HX1_12 : Hid (Blk wA X1 [.slice aoT sT.l.length capT, .int .i64 (en : Int), .int .i64 (sT.err : Int), .int .i64 (sT.at_ : Int)] 63) := Lib.hid (DA.out.blk HX1_11.out (by simp))
            have HX3_12 : Hid (Blk wA X3 [.slice none 0 0, .int .i64 0, .int .i64 0, .int .i64 0] 63) := Lib.hid (DA.out.blk HX3_11.out (by simp))
            have C12 : Hid (Chg [] w wA) := Lib.hid (C11.out.trans DA.out (by simp))
            have KL_12 : Hid (Chg [X1] W1 wA) := Lib.hid (by exact (KL_11.out.trans DA.out (by simp)))
            have Ko_12 : Hid (Chg [X1] wo wA) := Lib.hid (by exact (Ko_11.out.trans DA.out (by simp)))
            have KI_12 : Hid (Chg [X1] W4 wA) := Lib.hid (by exact (KI_11.out.trans DA.out (by simp)))
            have Ky_12 : Hid (Chg [] v8 wA) := Lib.hid (by exact ((Chg.refl [] v8).trans DA.out (by simp)))
            obtain ⟨k3, hk3, hgo3, hstop3⟩ := lst_go HI2.out.1 HI2.out.2.1 HE2.out HEM.out HET.out
            have HGO3 := Lib.hid hgo3
            have HSTOP3 := Lib.hid hstop3
            have HK3 := Lib.hid hk3
            clear hgo3 hstop3 hk3
            cases ba with
            | false =>
              have hst := HSTOP3.out HBA.out
              have HST3 := Lib.hid hst
              clear hst
              have cX1_0 := HX1_12.out.cell (i := 0) rfl
              have cX1_1 := HX1_12.out.cell (i := 1) rfl
              have cX1_2 := HX1_12.out.cell (i := 2) rfl
              have cX1_3 := HX1_12.out.cell (i := 3) rfl
              clear cX1_0 cX1_1 cX1_2 cX1_3
              have hln : l.length + 1 = (l ++ [a]).length := by rw [List.length_append]; rfl
              have HL8' : Hid (ListS W4.heap.size 48 5 Ct (l ++ [a]) (.slice lo8 (l.length + 1) lc8) v8) := HL8
              clear hln
              have HTS : Hid (sL.tests en = ((l ++ [a]), sT)) := Lib.hid (HST3.out.symm)
              go_upto_region 12 with fail
              have HCR : Hid (ListS W1.heap.size 48 5 Ct (l ++ [a]) (.slice lo8 (l.length + 1) lc8) (wA.alloc (.cells #[.slice lo8 (l.length + 1) lc8] 46))) := Lib.hid (((HL8'.out.mono HLI.out (mono_t HLI.out)).keep (kp_t _) (Ky_12.out.alloc _) (TyB.nil _ _ _)))
              have HLo : Hid (ListS W1.heap.size 46 1 (Cr W1.heap.size) out (.slice vo out.length vc) (wA.alloc (.cells #[.slice lo8 (l.length + 1) lc8] 46))) := Lib.hid (HL.out.keep (kp_r _) (Ko_12.out.alloc _) (TyB.lower (by intro b hb; simp only [List.mem_cons, List.not_mem_nil, or_false] at hb; subst hb; exact HXL.out) _))
              have hcb : Hid (Chg [X1] W1 (wA.alloc (.cells #[.slice lo8 (l.length + 1) lc8] 46))) := Lib.hid (KL_12.out.alloc _)
              go_wp2_with (at_builtin; refine wpList_snoc rfl (.tmp 37) (.tmp 39) 38 rfl 46 ir (.slice none 0 0) 1 24 Tryd.underlying38 hir rz0 rz1 rz2 rfl (by decide) (C := Cr W1.heap.size) (Es := [48]) (.slice vo out.length vc) out.length rfl HLo.out rfl (kp_r _) (by decide) (l ++ [a]) [.slice lo8 (l.length + 1) lc8] ⟨_, rfl, HCR.out⟩ rfl (by intro u hu; simp at hu; subst hu; rfl) wA.heap.size rfl (Blk.new wA [.slice lo8 (l.length + 1) lc8] 46) (by unfold maxLen; omega) (by omega) hcb.out.size ?kk)
              case kk =>
                intro lo9 lc9 v9 hl9 hc9 hb9
                have HL9 := Lib.hid hl9
                have HC9 := Lib.hid hc9
                have HB9 := Lib.hid hb9
                clear hl9 hc9 hb9 hcb
                have HX1_13 : Hid (Blk v9 X1 [.slice aoT sT.l.length capT, .int .i64 (en : Int), .int .i64 (sT.err : Int), .int .i64 (sT.at_ : Int)] 63) := Lib.hid (HB9.out _ _ _ (HX1_12.out.alloc _) (.inr (by decide)))
                have HX3_13 : Hid (Blk v9 X3 [.slice none 0 0, .int .i64 0, .int .i64 0, .int .i64 0] 63) := Lib.hid (HB9.out _ _ _ (HX3_12.out.alloc _) (.inr (by decide)))
                have C13 : Hid (Chg [] w v9) := Lib.hid (HC9.out _ _ (C12.out.alloc _) HWL.out)
                have KL_13 : Hid (Chg [X1] W1 v9) := Lib.hid (by exact (HC9.out _ _ (KL_12.out.alloc _) (Nat.le_refl _)))
                have cX1_0 := HX1_13.out.cell (i := 0) rfl
                have cX1_1 := HX1_13.out.cell (i := 1) rfl
                have cX1_2 := HX1_13.out.cell (i := 2) rfl
                have cX1_3 := HX1_13.out.cell (i := 3) rfl
                go_wp2_with fail
                clear cX1_0 cX1_1 cX1_2 cX1_3
                refine key_r (Lib.hid (((HS2.out.trans HSM2.out).trans HST.out).to HT.out C13.out)) [111, 114] (fun bk wK HBK DK => ?_)
                have HX1_14 : Hid (Blk wK X1 [.slice aoT sT.l.length capT, .int .i64 (en : Int), .int .i64 (sT.err : Int), .int .i64 (sT.at_ : Int)] 63) := Lib.hid (DK.out.blk HX1_13.out (by simp))
                have HX3_14 : Hid (Blk wK X3 [.slice none 0 0, .int .i64 0, .int .i64 0, .int .i64 0] 63) := Lib.hid (DK.out.blk HX3_13.out (by simp))
                have C14 : Hid (Chg [] w wK) := Lib.hid (C13.out.trans DK.out (by simp))
                have KL_14 : Hid (Chg [X1] W1 wK) := Lib.hid (by exact (KL_13.out.trans DK.out (by simp)))
                have Kz_14 : Hid (Chg [] v9 wK) := Lib.hid (by exact ((Chg.refl [] v9).trans DK.out (by simp)))
                obtain ⟨k', hk', hgo, hstop⟩ := lst_go HI.out.1 HI.out.2.1 HE0.out HEL.out HTS.out
                have HGO := Lib.hid hgo
                have HSTOP := Lib.hid hstop
                have HKK := Lib.hid hk'
                clear hgo hstop hk'
                have hlx : sT.l.length ≤ s1.l.length := by have h1 := (rtests_suf en sL).length_le; rw [HTS.out, ← HEL.out, lim_l] at h1; exact h1
                have HLX := Lib.hid hlx
                clear hlx
                cases bk with
                | false =>
                  have HGO := HSTOP.out HBK.out
                  have HWE := Lib.hid HGO
                  clear HGO
                  have cX1_0 := HX1_14.out.cell (i := 0) rfl
                  have cX1_1 := HX1_14.out.cell (i := 1) rfl
                  have cX1_2 := HX1_14.out.cell (i := 2) rfl
                  have cX1_3 := HX1_14.out.cell (i := 3) rfl
                  clear cX1_0 cX1_1 cX1_2 cX1_3
                  have HLF : Hid (ListS W1.heap.size 46 1 (Cr W1.heap.size) (out ++ [(l ++ [a])]) (.slice lo9 (out.length + 1) lc9) wK) := Lib.hid (HL9.out.keep (kp_r _) Kz_14.out (TyB.nil _ _ _))
                  go_upto_region 15 with fail
                  have NT7_X3 : T7 ≠ X3 := by have OX1_ := OX1.out; have OX3_ := OX3.out; have OT6_ := OT6.out; have OT7_ := OT7.out; omega
                  have NX3_T7 : X3 ≠ T7 := NT7_X3.symm
                  have Mf1X1_1 : X1 ∉ [X3] := by simp [NX1_X3]
                  refine wp_region_held_drew (S := fun W' => Chg [X3] wK W') (by kernel_rfl) (Chg.refl _ _).drew (fun hHeld => ?_)
                  refine wpAnyH_take (i := 0) (v := ?vf10) rfl (by kernel_rfl) (by kernel_rfl) (by kernel_rfl) (fun _ _ _ h => h) (Or.inl ⟨by kernel_rfl, ?hyf10⟩) (by assumption) ?rsf10
                  case hyf10 => (intro w9 hSw; skip; go_simp; try with_reducible rfl)
                  try simp only [Act.put, List.setIfInBounds_toArray, List.set_cons_zero, List.set_cons_succ, List.getElem_toArray, List.getElem_cons_succ, List.getElem_cons_zero]
                  refine wpAnyH_take (i := 1) (v := ?vf11) rfl (by kernel_rfl) (by kernel_rfl) (by kernel_rfl) (fun _ _ _ h => h) (Or.inl ⟨by kernel_rfl, ?hyf11⟩) (by assumption) ?rsf11
                  case hyf11 => (intro w9 hSw; have e0 := cell_quiet hSw (HX1_14.out.cell (i := 0) rfl) Mf1X1_1; have e1 := cell_quiet hSw (HX1_14.out.cell (i := 1) rfl) Mf1X1_1; have e2 := cell_quiet hSw (HX1_14.out.cell (i := 2) rfl) Mf1X1_1; have e3 := cell_quiet hSw (HX1_14.out.cell (i := 3) rfl) Mf1X1_1; go_simp; try with_reducible rfl)
                  try simp only [Act.put, List.setIfInBounds_toArray, List.set_cons_zero, List.set_cons_succ, List.getElem_toArray, List.getElem_cons_succ, List.getElem_cons_zero]
                  refine wpAnyH_take (i := 2) (v := ?vf12) rfl (by kernel_rfl) (by kernel_rfl) (by kernel_rfl) (fun _ _ _ h => h) (Or.inl ⟨by kernel_rfl, ?hyf12⟩) (by assumption) ?rsf12
                  case hyf12 => (intro w9 hSw; skip; go_simp; try with_reducible rfl)
                  try simp only [Act.put, List.setIfInBounds_toArray, List.set_cons_zero, List.set_cons_succ, List.getElem_toArray, List.getElem_cons_succ, List.getElem_cons_zero]
                  obtain ⟨Zf10, hZ⟩ : ∃ Z, Z = wK.drew := ⟨_, rfl⟩
                  rw [← hZ] at hHeld ⊢
                  have Qf1X3_0 : Hid (Blk Zf10 X3 [.slice none 0 0, .int .i64 0, .int .i64 0, .int .i64 0] 63) := Lib.hid (by rw [hZ]; exact HX3_14.out.drew)
                  clear hZ
                  refine wpAnyH_ready (rs := [3]) (by kernel_rfl) (by simp) (AllReadyH.cons rfl (fun K hK => ?_) AllReadyH.nil)
                  have x0 := Qf1X3_0.out.cell (i := 0) rfl
                  have xf0 := Qf1X3_0.out.free 0
                  have x1 := Qf1X3_0.out.cell (i := 1) rfl
                  have xf1 := Qf1X3_0.out.free 1
                  have x2 := Qf1X3_0.out.cell (i := 2) rfl
                  have xf2 := Qf1X3_0.out.free 2
                  have x3 := Qf1X3_0.out.cell (i := 3) rfl
                  have xf3 := Qf1X3_0.out.free 3
                  go_simp
                  refine hK.out _ _ ((((hHeld.setCell _ _ (.inl (by simp))).setCell _ _ (.inl (by simp))).setCell _ _ (.inl (by simp))).setCell _ _ (.inl (by simp))) (fun hHeld => ?_)
                  clear hK K x0 xf0 x1 xf1 x2 xf2 x3 xf3
                  try simp only [Act.put, List.setIfInBounds_toArray, List.set_cons_zero, List.set_cons_succ, List.getElem_toArray, List.getElem_cons_succ, List.getElem_cons_zero]
                  obtain ⟨Zf11, hZ⟩ : ∃ Z, Z = ((((Zf10.setCell ⟨X3, 0, none⟩ (.slice aoT sT.l.length capT)).setCell ⟨X3, 1, none⟩ (.int .i64 (en : Int))).setCell ⟨X3, 2, none⟩ (.int .i64 (sT.err : Int))).setCell ⟨X3, 3, none⟩ (.int .i64 (sT.at_ : Int))) := ⟨_, rfl⟩
                  rw [← hZ] at hHeld ⊢
                  have Qf1X3_1 : Hid (Blk Zf11 X3 [.slice aoT sT.l.length capT, .int .i64 (en : Int), .int .i64 (sT.err : Int), .int .i64 (sT.at_ : Int)] 63) := Lib.hid (by rw [hZ]; exact ((((Qf1X3_0.out.set 0 (.slice aoT sT.l.length capT)).set 1 (.int .i64 (en : Int))).set 2 (.int .i64 (sT.err : Int))).set 3 (.int .i64 (sT.at_ : Int))))
                  clear hZ
                  refine wpAnyH_done (by kernel_rfl) ?_ _
                  try simp only [Act.put, List.setIfInBounds_toArray, List.set_cons_zero, List.set_cons_succ, List.getElem_toArray, List.getElem_cons_succ, List.getElem_cons_zero]
                  have HH := Lib.hid hHeld
                  clear hHeld
                  go_wp2_with fail
                  (try simp only [Exit.inBlock, Exit.then])
                  refine bodyPost_ret (results_tmp_row rfl _ (.slice lo9 (out.length + 1) lc9) rfl _ X3 63 #[.slice aoT sT.l.length capT, .int .i64 (en : Int), .int .i64 (sT.err : Int), .int .i64 (sT.at_ : Int)] (0, 0) _ rfl Qf1X3_1.out Tryd.underlying63 rfl (by kernel_rfl)) rfl ?_
                  have CF : Hid (Chg [] w Zf11) := Lib.hid (C14.out.trans HH.out (fun k hk => .inr (by have OX1_ := OX1.out; have OX3_ := OX3.out; have OT6_ := OT6.out; have OT7_ := OT7.out; simp only [List.mem_cons, List.not_mem_nil, or_false] at hk; omega)))
                  have HLG : Hid (ListS w.heap.size 46 1 (Cr w.heap.size) (out ++ [(l ++ [a])]) (.slice lo9 (out.length + 1) lc9) Zf11) := Lib.hid ((HLF.out.keep (kp_r _) HH.out (TyB.lower (by intro b hb; simp only [List.mem_cons, List.not_mem_nil, or_false] at hb; subst hb; exact HX3L.out) _)).mono HWL.out (mono_r HWL.out))
                  refine ⟨(out ++ [(l ++ [a])]), _, _, sT, aoT, capT, Lib.hid (HWE.out.symm), Lib.hid ((HS2.out.trans HSM2.out).trans HST.out), Lib.hid (by rw [List.length_append]; exact HLG.out), CF, (by rw [List.length_append]; rfl)⟩
                | true =>
                  have cX1_0 := HX1_14.out.cell (i := 0) rfl
                  have cX1_1 := HX1_14.out.cell (i := 1) rfl
                  have cX1_2 := HX1_14.out.cell (i := 2) rfl
                  have cX1_3 := HX1_14.out.cell (i := 3) rfl
                  go_wp2_with fail
                  clear cX1_0 cX1_1 cX1_2 cX1_3
                  refine word_r (Lib.hid (((HS2.out.trans HSM2.out).trans HST.out).to HT.out C14.out)) [111, 114] (fun sW aoW capW wW HEW HSW DW => ?_)
                  have HX1_15 : Hid (Blk wW X1 [.slice aoT sT.l.length capT, .int .i64 (en : Int), .int .i64 (sT.err : Int), .int .i64 (sT.at_ : Int)] 63) := Lib.hid (DW.out.blk HX1_14.out (by simp))
                  have KL_15 : Hid (Chg [X1] W1 wW) := Lib.hid (by exact (KL_14.out.trans DW.out (by simp)))
                  have Kz_15 : Hid (Chg [] v9 wW) := Lib.hid (by exact (Kz_14.out.trans DW.out (by simp)))
                  have hwl := word_less HBK.out HEW.out
                  have hlx := HLX.out
                  have hi3 := HI.out.2.2.1
                  have hi2 := HI.out.2.1
                  have hkk := HKK.out
                  have HLE : Hid (out.length + 1 + sW.l.length ≤ s.l.length ∧ sW.l.length < k') := Lib.hid ⟨by omega, by omega⟩
                  have HLE2 : Hid (out.length < s.l.length) := Lib.hid (by omega)
                  clear hwl hlx hi3 hi2 hkk
                  have cX1_0 := HX1_15.out.cell (i := 0) rfl
                  have cX1_1 := HX1_15.out.cell (i := 1) rfl
                  have cX1_2 := HX1_15.out.cell (i := 2) rfl
                  have cX1_3 := HX1_15.out.cell (i := 3) rfl
                  have cX1_f0 := HX1_15.out.free 0
                  have cX1_f1 := HX1_15.out.free 1
                  have cX1_f2 := HX1_15.out.free 2
                  have cX1_f3 := HX1_15.out.free 3
                  go_wp2_with fail
                  clear cX1_0 cX1_1 cX1_2 cX1_3 cX1_f0 cX1_f1 cX1_f2 cX1_f3
                  have ZK := Kz_15
                  obtain ⟨W16, hW⟩ : ∃ W, W = ((((wW.setCell ⟨X1, 0, none⟩ (.slice aoW sW.l.length capW)).setCell ⟨X1, 1, none⟩ (.int .i64 (en : Int))).setCell ⟨X1, 2, none⟩ (.int .i64 (sW.err : Int))).setCell ⟨X1, 3, none⟩ (.int .i64 (sW.at_ : Int))) := ⟨_, rfl⟩
                  rw [← hW]
                  have HX1_16 : Hid (Blk W16 X1 [.slice aoW sW.l.length capW, .int .i64 (en : Int), .int .i64 (sW.err : Int), .int .i64 (sW.at_ : Int)] 63) := Lib.hid (by rw [hW]; exact ((((HX1_15.out.set 0 (.slice aoW sW.l.length capW)).set 1 (.int .i64 (en : Int))).set 2 (.int .i64 (sW.err : Int))).set 3 (.int .i64 (sW.at_ : Int))))
                  have KL_16 : Hid (Chg [X1] W1 W16) := Lib.hid (by rw [hW]; exact ((((KL_15.out.setCell _ _ (.inl (by simp))).setCell _ _ (.inl (by simp))).setCell _ _ (.inl (by simp))).setCell _ _ (.inl (by simp))))
                  have Ks_16 : Hid (Chg [X1] wW W16) := Lib.hid (by rw [hW]; exact (((((Chg.refl [X1] wW).setCell _ _ (.inl (by simp))).setCell _ _ (.inl (by simp))).setCell _ _ (.inl (by simp))).setCell _ _ (.inl (by simp))))
                  clear hW
                  have ZS := Ks_16
                  have HL10 : Hid (ListS W1.heap.size 46 1 (Cr W1.heap.size) (out ++ [(l ++ [a])]) (.slice lo9 (out ++ [(l ++ [a])]).length lc9) W16) := Lib.hid (by rw [List.length_append]; exact (HL9.out.keep (kp_r _) ZK.out (TyB.nil _ _ _)).keep (kp_r _) ZS.out (TyB.lower (by intro b hb; simp only [List.mem_cons, List.not_mem_nil, or_false] at hb; subst hb; exact HXL.out) _))
                  have hlt := HLE2.out
                  refine ⟨?_, by simp [lenOf]; omega⟩
                  have HI9 : Hid (RSt.lst en (RSt.tests en) Rl.wOr k' sW (out ++ [(l ++ [a])]) = s.when en ∧ sW.l.length < k' ∧ (out ++ [(l ++ [a])]).length + sW.l.length ≤ s.l.length ∧ sW.l <:+ s.l) := Lib.hid ⟨by have := HGO.out HBK.out; rw [← this]; rw [← HEW.out]; rfl, HLE.out.2, by simp only [List.length_append, List.length_singleton]; exact HLE.out.1, by have h1 := rword_suf en sT [111, 114]; rw [HEW.out] at h1; have h2 := rtests_suf en sL; rw [HTS.out, ← HEL.out, lim_l] at h2; exact h1.trans (h2.trans HI.out.2.2.2)⟩
                  have HSU : Hid (Suf ao cap s.l aoW capW sW.l) := Lib.hid ((((HS2.out.trans HSM2.out).trans HST.out).trans HSW.out))
                  have hlen : Value.slice lo9 (out.length + 1) lc9 = .slice lo9 (out ++ [(l ++ [a])]).length lc9 := by rw [List.length_append]; rfl
                  first | exact ⟨k', sW, aoW, capW, out ++ [(l ++ [a])], lo9, lc9, hlen, HI9, HSU, HX1_16, HL10, KL_16⟩ | ((repeat apply Exists.intro); exact ⟨⟨k', sW, aoW, capW, out ++ [(l ++ [a])], lo9, lc9, hlen, HI9, HSU, HX1_16, HL10, KL_16⟩, rfl⟩)
            | true =>
              have cX1_0 := HX1_12.out.cell (i := 0) rfl
              have cX1_1 := HX1_12.out.cell (i := 1) rfl
              have cX1_2 := HX1_12.out.cell (i := 2) rfl
              have cX1_3 := HX1_12.out.cell (i := 3) rfl
              go_wp2_with fail
              clear cX1_0 cX1_1 cX1_2 cX1_3
              refine word_r (Lib.hid (((HS2.out.trans HSM2.out).trans HST.out).to HT.out C12.out)) [97, 110, 100] (fun sV aoV capV wV HEV HSV DV => ?_)
              have HX1_13 : Hid (Blk wV X1 [.slice aoT sT.l.length capT, .int .i64 (en : Int), .int .i64 (sT.err : Int), .int .i64 (sT.at_ : Int)] 63) := Lib.hid (DV.out.blk HX1_12.out (by simp))
              have KI_13 : Hid (Chg [X1] W4 wV) := Lib.hid (by exact (KI_12.out.trans DV.out (by simp)))
              have Ky_13 : Hid (Chg [] v8 wV) := Lib.hid (by exact (Ky_12.out.trans DV.out (by simp)))
              have hwl := word_less HBA.out HEV.out
              have htl : sT.l.length ≤ s2.l.length := by have h1 := (rtest_suf en sM).length_le; rw [HET.out, ← HEM.out, lim_l] at h1; exact h1
              have hi3 := HI2.out.2.2.1
              have hi2 := HI2.out.2.1
              have hkk := HK3.out
              have HLE : Hid (l.length + 1 + sV.l.length ≤ s.l.length ∧ sV.l.length < k3) := Lib.hid ⟨by omega, by omega⟩
              have HLE2 : Hid (l.length < s.l.length) := Lib.hid (by omega)
              clear hwl hi3 hi2 hkk htl
              have ZK2 := Ky_13
              have cX1_0 := HX1_13.out.cell (i := 0) rfl
              have cX1_1 := HX1_13.out.cell (i := 1) rfl
              have cX1_2 := HX1_13.out.cell (i := 2) rfl
              have cX1_3 := HX1_13.out.cell (i := 3) rfl
              have cX1_f0 := HX1_13.out.free 0
              have cX1_f1 := HX1_13.out.free 1
              have cX1_f2 := HX1_13.out.free 2
              have cX1_f3 := HX1_13.out.free 3
              go_wp2_with fail
              clear cX1_0 cX1_1 cX1_2 cX1_3 cX1_f0 cX1_f1 cX1_f2 cX1_f3
              obtain ⟨W14, hW⟩ : ∃ W, W = ((((wV.setCell ⟨X1, 0, none⟩ (.slice aoV sV.l.length capV)).setCell ⟨X1, 1, none⟩ (.int .i64 (en : Int))).setCell ⟨X1, 2, none⟩ (.int .i64 (sV.err : Int))).setCell ⟨X1, 3, none⟩ (.int .i64 (sV.at_ : Int))) := ⟨_, rfl⟩
              rw [← hW]
              have HX1_14 : Hid (Blk W14 X1 [.slice aoV sV.l.length capV, .int .i64 (en : Int), .int .i64 (sV.err : Int), .int .i64 (sV.at_ : Int)] 63) := Lib.hid (by rw [hW]; exact ((((HX1_13.out.set 0 (.slice aoV sV.l.length capV)).set 1 (.int .i64 (en : Int))).set 2 (.int .i64 (sV.err : Int))).set 3 (.int .i64 (sV.at_ : Int))))
              have KI_14 : Hid (Chg [X1] W4 W14) := Lib.hid (by rw [hW]; exact ((((KI_13.out.setCell _ _ (.inl (by simp))).setCell _ _ (.inl (by simp))).setCell _ _ (.inl (by simp))).setCell _ _ (.inl (by simp))))
              have Ks_14 : Hid (Chg [X1] wV W14) := Lib.hid (by rw [hW]; exact (((((Chg.refl [X1] wV).setCell _ _ (.inl (by simp))).setCell _ _ (.inl (by simp))).setCell _ _ (.inl (by simp))).setCell _ _ (.inl (by simp))))
              clear hW
              have ZS2 := Ks_14
              have HL10 : Hid (ListS W4.heap.size 48 5 Ct (l ++ [a]) (.slice lo8 (l ++ [a]).length lc8) W14) := Lib.hid (by rw [List.length_append]; exact (HL8.out.keep (kp_t _) ZK2.out (TyB.nil _ _ _)).keep (kp_t _) ZS2.out (TyB.lower (by intro b hb; simp only [List.mem_cons, List.not_mem_nil, or_false] at hb; subst hb; exact HXI.out) _))
              have hlt := HLE2.out
              refine ⟨?_, by simp [lenOf]; omega⟩
              have HI9 : Hid (RSt.lst en (RSt.test en) Rl.wAnd k3 sV (l ++ [a]) = sL.tests en ∧ sV.l.length < k3 ∧ (l ++ [a]).length + sV.l.length ≤ s.l.length ∧ sV.l <:+ sL.l) := Lib.hid ⟨by have := HGO3.out HBA.out; rw [← this]; rw [← HEV.out]; rfl, HLE.out.2, by simp only [List.length_append, List.length_singleton]; exact HLE.out.1, by have h1 := rword_suf en sT [97, 110, 100]; rw [HEV.out] at h1; have h2 := rtest_suf en sM; rw [HET.out] at h2; exact h1.trans (h2.trans HSMS.out)⟩
              have HSU : Hid (Suf ao cap s.l aoV capV sV.l) := Lib.hid ((((HS2.out.trans HSM2.out).trans HST.out).trans HSV.out))
              have hlen : Value.slice lo8 (l.length + 1) lc8 = .slice lo8 (l ++ [a]).length lc8 := by rw [List.length_append]; rfl
              first | exact ⟨k3, sV, aoV, capV, l ++ [a], lo8, lc8, hlen, HI9, HSU, HX1_14, HL10, KI_14⟩ | ((repeat apply Exists.intro); exact ⟨⟨k3, sV, aoV, capV, l ++ [a], lo8, lc8, hlen, HI9, HSU, HX1_14, HL10, KI_14⟩, rfl⟩)
        · have q : ((s2.err : Int) == 0) = false := beq_eq_false_iff_ne.2 (by omega)
          have htt : sL.tests en = (l, s2) := by rw [← HI2.out.1, Rl.lst_err he]
          have HTT := Lib.hid htt
          clear htt he
          have cX1_0 := HX2.out.cell (i := 0) rfl
          have cX1_1 := HX2.out.cell (i := 1) rfl
          have cX1_2 := HX2.out.cell (i := 2) rfl
          have cX1_3 := HX2.out.cell (i := 3) rfl
          go_upto_region 12 with fail
          clear q cX1_0 cX1_1 cX1_2 cX1_3
          have HTS : Hid (sL.tests en = (l, s2)) := Lib.hid (HTT.out)
          go_upto_region 12 with fail
          have HCR : Hid (ListS W1.heap.size 48 5 Ct l (.slice uo l.length uc) (wi.alloc (.cells #[.slice uo l.length uc] 46))) := Lib.hid (((HL2.out.mono HLI.out (mono_t HLI.out)).keep (kp_t _) ((Chg.refl [X1] wi).alloc _) (TyB.lower (by intro b hb; simp only [List.mem_cons, List.not_mem_nil, or_false] at hb; subst hb; exact HXL.out) _)))
          have HLo : Hid (ListS W1.heap.size 46 1 (Cr W1.heap.size) out (.slice vo out.length vc) (wi.alloc (.cells #[.slice uo l.length uc] 46))) := Lib.hid (HL.out.keep (kp_r _) (Ko_5.out.alloc _) (TyB.lower (by intro b hb; simp only [List.mem_cons, List.not_mem_nil, or_false] at hb; subst hb; exact HXL.out) _))
          have hcb : Hid (Chg [X1] W1 (wi.alloc (.cells #[.slice uo l.length uc] 46))) := Lib.hid (KL_5.out.alloc _)
          go_wp2_with (at_builtin; refine wpList_snoc rfl (.tmp 37) (.tmp 39) 38 rfl 46 ir (.slice none 0 0) 1 24 Tryd.underlying38 hir rz0 rz1 rz2 rfl (by decide) (C := Cr W1.heap.size) (Es := [48]) (.slice vo out.length vc) out.length rfl HLo.out rfl (kp_r _) (by decide) l [.slice uo l.length uc] ⟨_, rfl, HCR.out⟩ rfl (by intro u hu; simp at hu; subst hu; rfl) wi.heap.size rfl (Blk.new wi [.slice uo l.length uc] 46) (by unfold maxLen; omega) (by omega) hcb.out.size ?kk)
          case kk =>
            intro lo9 lc9 v9 hl9 hc9 hb9
            have HL9 := Lib.hid hl9
            have HC9 := Lib.hid hc9
            have HB9 := Lib.hid hb9
            clear hl9 hc9 hb9 hcb
            have HX1_6 : Hid (Blk v9 X1 [.slice ao2 s2.l.length cap2, .int .i64 (en : Int), .int .i64 (s2.err : Int), .int .i64 (s2.at_ : Int)] 63) := Lib.hid (HB9.out _ _ _ (HX2.out.alloc _) (.inr (by decide)))
            have HX3_6 : Hid (Blk v9 X3 [.slice none 0 0, .int .i64 0, .int .i64 0, .int .i64 0] 63) := Lib.hid (HB9.out _ _ _ (HX3_5.out.alloc _) (.inr (by decide)))
            have C6 : Hid (Chg [] w v9) := Lib.hid (HC9.out _ _ (C5.out.alloc _) HWL.out)
            have KL_6 : Hid (Chg [X1] W1 v9) := Lib.hid (by exact (HC9.out _ _ (KL_5.out.alloc _) (Nat.le_refl _)))
            have cX1_0 := HX1_6.out.cell (i := 0) rfl
            have cX1_1 := HX1_6.out.cell (i := 1) rfl
            have cX1_2 := HX1_6.out.cell (i := 2) rfl
            have cX1_3 := HX1_6.out.cell (i := 3) rfl
            go_wp2_with fail
            clear cX1_0 cX1_1 cX1_2 cX1_3
            refine key_r (Lib.hid (HS2.out.to HT.out C6.out)) [111, 114] (fun bk wK HBK DK => ?_)
            have HX1_7 : Hid (Blk wK X1 [.slice ao2 s2.l.length cap2, .int .i64 (en : Int), .int .i64 (s2.err : Int), .int .i64 (s2.at_ : Int)] 63) := Lib.hid (DK.out.blk HX1_6.out (by simp))
            have HX3_7 : Hid (Blk wK X3 [.slice none 0 0, .int .i64 0, .int .i64 0, .int .i64 0] 63) := Lib.hid (DK.out.blk HX3_6.out (by simp))
            have C7 : Hid (Chg [] w wK) := Lib.hid (C6.out.trans DK.out (by simp))
            have KL_7 : Hid (Chg [X1] W1 wK) := Lib.hid (by exact (KL_6.out.trans DK.out (by simp)))
            have Kz_7 : Hid (Chg [] v9 wK) := Lib.hid (by exact ((Chg.refl [] v9).trans DK.out (by simp)))
            obtain ⟨k', hk', hgo, hstop⟩ := lst_go HI.out.1 HI.out.2.1 HE0.out HEL.out HTS.out
            have HGO := Lib.hid hgo
            have HSTOP := Lib.hid hstop
            have HKK := Lib.hid hk'
            clear hgo hstop hk'
            have hlx : s2.l.length ≤ s1.l.length := by have h1 := (rtests_suf en sL).length_le; rw [HTS.out, ← HEL.out, lim_l] at h1; exact h1
            have HLX := Lib.hid hlx
            clear hlx
            cases bk with
            | false =>
              have HGO := HSTOP.out HBK.out
              have HWE := Lib.hid HGO
              clear HGO
              have cX1_0 := HX1_7.out.cell (i := 0) rfl
              have cX1_1 := HX1_7.out.cell (i := 1) rfl
              have cX1_2 := HX1_7.out.cell (i := 2) rfl
              have cX1_3 := HX1_7.out.cell (i := 3) rfl
              clear cX1_0 cX1_1 cX1_2 cX1_3
              have HLF : Hid (ListS W1.heap.size 46 1 (Cr W1.heap.size) (out ++ [l]) (.slice lo9 (out.length + 1) lc9) wK) := Lib.hid (HL9.out.keep (kp_r _) Kz_7.out (TyB.nil _ _ _))
              go_upto_region 15 with fail
              have Mf2X1_1 : X1 ∉ [X3] := by simp [NX1_X3]
              refine wp_region_held_drew (S := fun W' => Chg [X3] wK W') (by kernel_rfl) (Chg.refl _ _).drew (fun hHeld => ?_)
              refine wpAnyH_take (i := 0) (v := ?vf20) rfl (by kernel_rfl) (by kernel_rfl) (by kernel_rfl) (fun _ _ _ h => h) (Or.inl ⟨by kernel_rfl, ?hyf20⟩) (by assumption) ?rsf20
              case hyf20 => (intro w9 hSw; skip; go_simp; try with_reducible rfl)
              try simp only [Act.put, List.setIfInBounds_toArray, List.set_cons_zero, List.set_cons_succ, List.getElem_toArray, List.getElem_cons_succ, List.getElem_cons_zero]
              refine wpAnyH_take (i := 1) (v := ?vf21) rfl (by kernel_rfl) (by kernel_rfl) (by kernel_rfl) (fun _ _ _ h => h) (Or.inl ⟨by kernel_rfl, ?hyf21⟩) (by assumption) ?rsf21
              case hyf21 => (intro w9 hSw; have e0 := cell_quiet hSw (HX1_7.out.cell (i := 0) rfl) Mf2X1_1; have e1 := cell_quiet hSw (HX1_7.out.cell (i := 1) rfl) Mf2X1_1; have e2 := cell_quiet hSw (HX1_7.out.cell (i := 2) rfl) Mf2X1_1; have e3 := cell_quiet hSw (HX1_7.out.cell (i := 3) rfl) Mf2X1_1; go_simp; try with_reducible rfl)
              try simp only [Act.put, List.setIfInBounds_toArray, List.set_cons_zero, List.set_cons_succ, List.getElem_toArray, List.getElem_cons_succ, List.getElem_cons_zero]
              refine wpAnyH_take (i := 2) (v := ?vf22) rfl (by kernel_rfl) (by kernel_rfl) (by kernel_rfl) (fun _ _ _ h => h) (Or.inl ⟨by kernel_rfl, ?hyf22⟩) (by assumption) ?rsf22
              case hyf22 => (intro w9 hSw; skip; go_simp; try with_reducible rfl)
              try simp only [Act.put, List.setIfInBounds_toArray, List.set_cons_zero, List.set_cons_succ, List.getElem_toArray, List.getElem_cons_succ, List.getElem_cons_zero]
              obtain ⟨Zf20, hZ⟩ : ∃ Z, Z = wK.drew := ⟨_, rfl⟩
              rw [← hZ] at hHeld ⊢
              have Qf2X3_0 : Hid (Blk Zf20 X3 [.slice none 0 0, .int .i64 0, .int .i64 0, .int .i64 0] 63) := Lib.hid (by rw [hZ]; exact HX3_7.out.drew)
              clear hZ
              refine wpAnyH_ready (rs := [3]) (by kernel_rfl) (by simp) (AllReadyH.cons rfl (fun K hK => ?_) AllReadyH.nil)
              have x0 := Qf2X3_0.out.cell (i := 0) rfl
              have xf0 := Qf2X3_0.out.free 0
              have x1 := Qf2X3_0.out.cell (i := 1) rfl
              have xf1 := Qf2X3_0.out.free 1
              have x2 := Qf2X3_0.out.cell (i := 2) rfl
              have xf2 := Qf2X3_0.out.free 2
              have x3 := Qf2X3_0.out.cell (i := 3) rfl
              have xf3 := Qf2X3_0.out.free 3
              go_simp
              refine hK.out _ _ ((((hHeld.setCell _ _ (.inl (by simp))).setCell _ _ (.inl (by simp))).setCell _ _ (.inl (by simp))).setCell _ _ (.inl (by simp))) (fun hHeld => ?_)
              clear hK K x0 xf0 x1 xf1 x2 xf2 x3 xf3
              try simp only [Act.put, List.setIfInBounds_toArray, List.set_cons_zero, List.set_cons_succ, List.getElem_toArray, List.getElem_cons_succ, List.getElem_cons_zero]
              obtain ⟨Zf21, hZ⟩ : ∃ Z, Z = ((((Zf20.setCell ⟨X3, 0, none⟩ (.slice ao2 s2.l.length cap2)).setCell ⟨X3, 1, none⟩ (.int .i64 (en : Int))).setCell ⟨X3, 2, none⟩ (.int .i64 (s2.err : Int))).setCell ⟨X3, 3, none⟩ (.int .i64 (s2.at_ : Int))) := ⟨_, rfl⟩
              rw [← hZ] at hHeld ⊢
              have Qf2X3_1 : Hid (Blk Zf21 X3 [.slice ao2 s2.l.length cap2, .int .i64 (en : Int), .int .i64 (s2.err : Int), .int .i64 (s2.at_ : Int)] 63) := Lib.hid (by rw [hZ]; exact ((((Qf2X3_0.out.set 0 (.slice ao2 s2.l.length cap2)).set 1 (.int .i64 (en : Int))).set 2 (.int .i64 (s2.err : Int))).set 3 (.int .i64 (s2.at_ : Int))))
              clear hZ
              refine wpAnyH_done (by kernel_rfl) ?_ _
              try simp only [Act.put, List.setIfInBounds_toArray, List.set_cons_zero, List.set_cons_succ, List.getElem_toArray, List.getElem_cons_succ, List.getElem_cons_zero]
              have HH := Lib.hid hHeld
              clear hHeld
              go_wp2_with fail
              (try simp only [Exit.inBlock, Exit.then])
              refine bodyPost_ret (results_tmp_row rfl _ (.slice lo9 (out.length + 1) lc9) rfl _ X3 63 #[.slice ao2 s2.l.length cap2, .int .i64 (en : Int), .int .i64 (s2.err : Int), .int .i64 (s2.at_ : Int)] (0, 0) _ rfl Qf2X3_1.out Tryd.underlying63 rfl (by kernel_rfl)) rfl ?_
              have CF : Hid (Chg [] w Zf21) := Lib.hid (C7.out.trans HH.out (fun k hk => .inr (by have OX1_ := OX1.out; have OX3_ := OX3.out; simp only [List.mem_cons, List.not_mem_nil, or_false] at hk; omega)))
              have HLG : Hid (ListS w.heap.size 46 1 (Cr w.heap.size) (out ++ [l]) (.slice lo9 (out.length + 1) lc9) Zf21) := Lib.hid ((HLF.out.keep (kp_r _) HH.out (TyB.lower (by intro b hb; simp only [List.mem_cons, List.not_mem_nil, or_false] at hb; subst hb; exact HX3L.out) _)).mono HWL.out (mono_r HWL.out))
              refine ⟨(out ++ [l]), _, _, s2, ao2, cap2, Lib.hid (HWE.out.symm), Lib.hid HS2.out, Lib.hid (by rw [List.length_append]; exact HLG.out), CF, (by rw [List.length_append]; rfl)⟩
            | true =>
              have cX1_0 := HX1_7.out.cell (i := 0) rfl
              have cX1_1 := HX1_7.out.cell (i := 1) rfl
              have cX1_2 := HX1_7.out.cell (i := 2) rfl
              have cX1_3 := HX1_7.out.cell (i := 3) rfl
              go_wp2_with fail
              clear cX1_0 cX1_1 cX1_2 cX1_3
              refine word_r (Lib.hid (HS2.out.to HT.out C7.out)) [111, 114] (fun sW aoW capW wW HEW HSW DW => ?_)
              have HX1_8 : Hid (Blk wW X1 [.slice ao2 s2.l.length cap2, .int .i64 (en : Int), .int .i64 (s2.err : Int), .int .i64 (s2.at_ : Int)] 63) := Lib.hid (DW.out.blk HX1_7.out (by simp))
              have KL_8 : Hid (Chg [X1] W1 wW) := Lib.hid (by exact (KL_7.out.trans DW.out (by simp)))
              have Kz_8 : Hid (Chg [] v9 wW) := Lib.hid (by exact (Kz_7.out.trans DW.out (by simp)))
              have hwl := word_less HBK.out HEW.out
              have hlx := HLX.out
              have hi3 := HI.out.2.2.1
              have hi2 := HI.out.2.1
              have hkk := HKK.out
              have HLE : Hid (out.length + 1 + sW.l.length ≤ s.l.length ∧ sW.l.length < k') := Lib.hid ⟨by omega, by omega⟩
              have HLE2 : Hid (out.length < s.l.length) := Lib.hid (by omega)
              clear hwl hlx hi3 hi2 hkk
              have cX1_0 := HX1_8.out.cell (i := 0) rfl
              have cX1_1 := HX1_8.out.cell (i := 1) rfl
              have cX1_2 := HX1_8.out.cell (i := 2) rfl
              have cX1_3 := HX1_8.out.cell (i := 3) rfl
              have cX1_f0 := HX1_8.out.free 0
              have cX1_f1 := HX1_8.out.free 1
              have cX1_f2 := HX1_8.out.free 2
              have cX1_f3 := HX1_8.out.free 3
              go_wp2_with fail
              clear cX1_0 cX1_1 cX1_2 cX1_3 cX1_f0 cX1_f1 cX1_f2 cX1_f3
              have ZK := Kz_8
              obtain ⟨W9, hW⟩ : ∃ W, W = ((((wW.setCell ⟨X1, 0, none⟩ (.slice aoW sW.l.length capW)).setCell ⟨X1, 1, none⟩ (.int .i64 (en : Int))).setCell ⟨X1, 2, none⟩ (.int .i64 (sW.err : Int))).setCell ⟨X1, 3, none⟩ (.int .i64 (sW.at_ : Int))) := ⟨_, rfl⟩
              rw [← hW]
              have HX1_9 : Hid (Blk W9 X1 [.slice aoW sW.l.length capW, .int .i64 (en : Int), .int .i64 (sW.err : Int), .int .i64 (sW.at_ : Int)] 63) := Lib.hid (by rw [hW]; exact ((((HX1_8.out.set 0 (.slice aoW sW.l.length capW)).set 1 (.int .i64 (en : Int))).set 2 (.int .i64 (sW.err : Int))).set 3 (.int .i64 (sW.at_ : Int))))
              have KL_9 : Hid (Chg [X1] W1 W9) := Lib.hid (by rw [hW]; exact ((((KL_8.out.setCell _ _ (.inl (by simp))).setCell _ _ (.inl (by simp))).setCell _ _ (.inl (by simp))).setCell _ _ (.inl (by simp))))
              have Ks_9 : Hid (Chg [X1] wW W9) := Lib.hid (by rw [hW]; exact (((((Chg.refl [X1] wW).setCell _ _ (.inl (by simp))).setCell _ _ (.inl (by simp))).setCell _ _ (.inl (by simp))).setCell _ _ (.inl (by simp))))
              clear hW
              have ZS := Ks_9
              have HL10 : Hid (ListS W1.heap.size 46 1 (Cr W1.heap.size) (out ++ [l]) (.slice lo9 (out ++ [l]).length lc9) W9) := Lib.hid (by rw [List.length_append]; exact (HL9.out.keep (kp_r _) ZK.out (TyB.nil _ _ _)).keep (kp_r _) ZS.out (TyB.lower (by intro b hb; simp only [List.mem_cons, List.not_mem_nil, or_false] at hb; subst hb; exact HXL.out) _))
              have hlt := HLE2.out
              refine ⟨?_, by simp [lenOf]; omega⟩
              have HI9 : Hid (RSt.lst en (RSt.tests en) Rl.wOr k' sW (out ++ [l]) = s.when en ∧ sW.l.length < k' ∧ (out ++ [l]).length + sW.l.length ≤ s.l.length ∧ sW.l <:+ s.l) := Lib.hid ⟨by have := HGO.out HBK.out; rw [← this]; rw [← HEW.out]; rfl, HLE.out.2, by simp only [List.length_append, List.length_singleton]; exact HLE.out.1, by have h1 := rword_suf en s2 [111, 114]; rw [HEW.out] at h1; have h2 := rtests_suf en sL; rw [HTS.out, ← HEL.out, lim_l] at h2; exact h1.trans (h2.trans HI.out.2.2.2)⟩
              have HSU : Hid (Suf ao cap s.l aoW capW sW.l) := Lib.hid ((HS2.out.trans HSW.out))
              have hlen : Value.slice lo9 (out.length + 1) lc9 = .slice lo9 (out ++ [l]).length lc9 := by rw [List.length_append]; rfl
              first | exact ⟨k', sW, aoW, capW, out ++ [l], lo9, lc9, hlen, HI9, HSU, HX1_9, HL10, KL_9⟩ | ((repeat apply Exists.intro); exact ⟨⟨k', sW, aoW, capW, out ++ [l], lo9, lc9, hlen, HI9, HSU, HX1_9, HL10, KL_9⟩, rfl⟩)
    · have q : ((s1.err : Int) == 0) = false := beq_eq_false_iff_ne.2 (by omega)
      have htt : s.when en = (out, s1) := by rw [← HI.out.1, Rl.lst_err he]
      have HTT := Lib.hid htt
      clear htt he
      have cX1_0 := HX1.out.cell (i := 0) rfl
      have cX1_1 := HX1.out.cell (i := 1) rfl
      have cX1_2 := HX1.out.cell (i := 2) rfl
      have cX1_3 := HX1.out.cell (i := 3) rfl
      go_upto_region 15 with fail
      clear q cX1_0 cX1_1 cX1_2 cX1_3
      have HLF : Hid (ListS W1.heap.size 46 1 (Cr W1.heap.size) out (.slice vo out.length vc) wo) := Lib.hid (HL.out.keep (kp_r _) (Chg.refl [X1] wo) (TyB.lower (by intro b hb; simp only [List.mem_cons, List.not_mem_nil, or_false] at hb; subst hb; exact HXL.out) _))
      go_upto_region 15 with fail
      have Mf3X1_1 : X1 ∉ [X3] := by simp [NX1_X3]
      refine wp_region_held_drew (S := fun W' => Chg [X3] wo W') (by kernel_rfl) (Chg.refl _ _).drew (fun hHeld => ?_)
      refine wpAnyH_take (i := 0) (v := ?vf30) rfl (by kernel_rfl) (by kernel_rfl) (by kernel_rfl) (fun _ _ _ h => h) (Or.inl ⟨by kernel_rfl, ?hyf30⟩) (by assumption) ?rsf30
      case hyf30 => (intro w9 hSw; skip; go_simp; try with_reducible rfl)
      try simp only [Act.put, List.setIfInBounds_toArray, List.set_cons_zero, List.set_cons_succ, List.getElem_toArray, List.getElem_cons_succ, List.getElem_cons_zero]
      refine wpAnyH_take (i := 1) (v := ?vf31) rfl (by kernel_rfl) (by kernel_rfl) (by kernel_rfl) (fun _ _ _ h => h) (Or.inl ⟨by kernel_rfl, ?hyf31⟩) (by assumption) ?rsf31
      case hyf31 => (intro w9 hSw; have e0 := cell_quiet hSw (HX1.out.cell (i := 0) rfl) Mf3X1_1; have e1 := cell_quiet hSw (HX1.out.cell (i := 1) rfl) Mf3X1_1; have e2 := cell_quiet hSw (HX1.out.cell (i := 2) rfl) Mf3X1_1; have e3 := cell_quiet hSw (HX1.out.cell (i := 3) rfl) Mf3X1_1; go_simp; try with_reducible rfl)
      try simp only [Act.put, List.setIfInBounds_toArray, List.set_cons_zero, List.set_cons_succ, List.getElem_toArray, List.getElem_cons_succ, List.getElem_cons_zero]
      refine wpAnyH_take (i := 2) (v := ?vf32) rfl (by kernel_rfl) (by kernel_rfl) (by kernel_rfl) (fun _ _ _ h => h) (Or.inl ⟨by kernel_rfl, ?hyf32⟩) (by assumption) ?rsf32
      case hyf32 => (intro w9 hSw; skip; go_simp; try with_reducible rfl)
      try simp only [Act.put, List.setIfInBounds_toArray, List.set_cons_zero, List.set_cons_succ, List.getElem_toArray, List.getElem_cons_succ, List.getElem_cons_zero]
      obtain ⟨Zf30, hZ⟩ : ∃ Z, Z = wo.drew := ⟨_, rfl⟩
      rw [← hZ] at hHeld ⊢
      have Qf3X3_0 : Hid (Blk Zf30 X3 [.slice none 0 0, .int .i64 0, .int .i64 0, .int .i64 0] 63) := Lib.hid (by rw [hZ]; exact HX3_2.out.drew)
      clear hZ
      refine wpAnyH_ready (rs := [3]) (by kernel_rfl) (by simp) (AllReadyH.cons rfl (fun K hK => ?_) AllReadyH.nil)
      have x0 := Qf3X3_0.out.cell (i := 0) rfl
      have xf0 := Qf3X3_0.out.free 0
      have x1 := Qf3X3_0.out.cell (i := 1) rfl
      have xf1 := Qf3X3_0.out.free 1
      have x2 := Qf3X3_0.out.cell (i := 2) rfl
      have xf2 := Qf3X3_0.out.free 2
      have x3 := Qf3X3_0.out.cell (i := 3) rfl
      have xf3 := Qf3X3_0.out.free 3
      go_simp
      refine hK.out _ _ ((((hHeld.setCell _ _ (.inl (by simp))).setCell _ _ (.inl (by simp))).setCell _ _ (.inl (by simp))).setCell _ _ (.inl (by simp))) (fun hHeld => ?_)
      clear hK K x0 xf0 x1 xf1 x2 xf2 x3 xf3
      try simp only [Act.put, List.setIfInBounds_toArray, List.set_cons_zero, List.set_cons_succ, List.getElem_toArray, List.getElem_cons_succ, List.getElem_cons_zero]
      obtain ⟨Zf31, hZ⟩ : ∃ Z, Z = ((((Zf30.setCell ⟨X3, 0, none⟩ (.slice ao1 s1.l.length cap1)).setCell ⟨X3, 1, none⟩ (.int .i64 (en : Int))).setCell ⟨X3, 2, none⟩ (.int .i64 (s1.err : Int))).setCell ⟨X3, 3, none⟩ (.int .i64 (s1.at_ : Int))) := ⟨_, rfl⟩
      rw [← hZ] at hHeld ⊢
      have Qf3X3_1 : Hid (Blk Zf31 X3 [.slice ao1 s1.l.length cap1, .int .i64 (en : Int), .int .i64 (s1.err : Int), .int .i64 (s1.at_ : Int)] 63) := Lib.hid (by rw [hZ]; exact ((((Qf3X3_0.out.set 0 (.slice ao1 s1.l.length cap1)).set 1 (.int .i64 (en : Int))).set 2 (.int .i64 (s1.err : Int))).set 3 (.int .i64 (s1.at_ : Int))))
      clear hZ
      refine wpAnyH_done (by kernel_rfl) ?_ _
      try simp only [Act.put, List.setIfInBounds_toArray, List.set_cons_zero, List.set_cons_succ, List.getElem_toArray, List.getElem_cons_succ, List.getElem_cons_zero]
      have HH := Lib.hid hHeld
      clear hHeld
      go_wp2_with fail
      (try simp only [Exit.inBlock, Exit.then])
      refine bodyPost_ret (results_tmp_row rfl _ (.slice vo out.length vc) rfl _ X3 63 #[.slice ao1 s1.l.length cap1, .int .i64 (en : Int), .int .i64 (s1.err : Int), .int .i64 (s1.at_ : Int)] (0, 0) _ rfl Qf3X3_1.out Tryd.underlying63 rfl (by kernel_rfl)) rfl ?_
      have CF : Hid (Chg [] w Zf31) := Lib.hid (C2.out.trans HH.out (fun k hk => .inr (by have OX1_ := OX1.out; have OX3_ := OX3.out; simp only [List.mem_cons, List.not_mem_nil, or_false] at hk; omega)))
      have HLG : Hid (ListS w.heap.size 46 1 (Cr w.heap.size) out (.slice vo out.length vc) Zf31) := Lib.hid ((HLF.out.keep (kp_r _) HH.out (TyB.lower (by intro b hb; simp only [List.mem_cons, List.not_mem_nil, or_false] at hb; subst hb; exact HX3L.out) _)).mono HWL.out (mono_r HWL.out))
      refine ⟨out, _, _, s1, ao1, cap1, Lib.hid (HTT.out), Lib.hid HS1.out, HLG, CF, rfl⟩
end Go.Proofs.YtmfjebpefneboaaDoor

namespace Go.Proofs.YtmfjebpefneboaaDoor
set_option linter.unusedVariables false
set_option linter.unusedSimpArgs false
open Go Go.RowKit Go.Shelf
open Lx (Tk)
open Rl (RSt)
theorem TyB.blk2 {w : World} {b1 b2 B : Nat} {cs1 cs2 : List Value} {T1 T2 : TypeId} {Es : List TypeId} (h1 : Blk w b1 cs1 T1) (h2 : Blk w b2 cs2 T2) (n1 : T1 ∉ Es) (n2 : T2 ∉ Es) : TyB [b1, b2] w B Es := fun k hk => .inr fun ds e fr hh he => by
  simp only [List.mem_cons, List.not_mem_nil, or_false] at hk
  rcases hk with rfl | rfl
  · unfold Blk at h1
    rw [h1] at hh
    cases hh
    exact n1 he
  · unfold Blk at h2
    rw [h2] at hh
    cases hh
    exact n2 he
theorem item_eq {en : Nat} {s s3 sR sC sE : RSt} {kd : Nat} {tn : Tk} {b : Rl.Rest} {c : List (List Rl.Tst)} (h0 : s.lastIs 1 Rl.kindsL 1 0 = kd) (hk : kd ≠ 0) (h1 : s.tl.take en 1 = (tn, s3)) (h2 : s3.rest en kd = (b, sR)) (h3 : sR.whn en = (c, sC)) (h4 : sC.word en [59] = sE) :
    s.item en = (⟨kd, tn.text, c, b.1, b.2.1, b.2.2, s.hd.at_⟩, sE) := by
  unfold RSt.item
  rw [h0, if_neg hk]
  simp only [h1, h2, h3, h4]
theorem rratio_suf (en : Nat) (s : RSt) : (s.ratio en).2.l <:+ s.l := (rtake_suf _ _ _).trans ((rword_suf _ _ _).trans (rtake_suf _ _ _))
theorem ropt_suf (en : Nat) (s : RSt) (x : Bytes) : (s.opt en x).2.l <:+ s.l := by
  unfold RSt.opt
  split
  · exact (rratio_suf _ _).trans (rword_suf _ _ _)
  · exact List.suffix_refl _
theorem rafter_suf (en : Nat) (s : RSt) (x : Bytes) : ((s.word en x).ratio en).2.l <:+ s.l := (rratio_suf en (s.word en x)).trans (rword_suf en s x)
theorem rrest_suf (en : Nat) (s : RSt) (k : Nat) : (s.rest en k).2.l <:+ s.l := by
  unfold RSt.rest
  split
  · split
    · exact (rtake_suf _ _ _).trans (rword_suf _ _ _)
    · exact List.suffix_refl _
  · split
    · have h1 := rtake_suf en s 2
      generalize s.take en 2 = y at h1 ⊢
      have h2 := ropt_suf en y.2 Rl.wFee
      generalize y.2.opt en Rl.wFee = z at h2 ⊢
      have h3 := ropt_suf en z.2 Rl.wTax
      generalize z.2.opt en Rl.wTax = v at h3 ⊢
      exact h3.trans (h2.trans h1)
    · split
      · have h1 := rafter_suf en s Rl.wCap
        generalize (s.word en Rl.wCap).ratio en = y at h1 ⊢
        have h2 := rafter_suf en y.2 Rl.wShare
        generalize (y.2.word en Rl.wShare).ratio en = z at h2 ⊢
        exact h2.trans h1
      · split
        · exact rratio_suf _ _
        · exact List.suffix_refl _
theorem rwhn_suf (en : Nat) (s : RSt) : (s.whn en).2.l <:+ s.l := by
  unfold RSt.whn
  split
  · exact (rwhen_suf _ _).trans (rword_suf _ _ _)
  · exact List.suffix_refl _
theorem ritem_suf (en : Nat) (s : RSt) : (s.item en).2.l <:+ s.l := by
  unfold RSt.item
  split
  · rw [fail_l]
    exact List.suffix_refl _
  · have h1 := rtake_suf en s.tl 1
    generalize s.tl.take en 1 = y at h1 ⊢
    have h2 := rrest_suf en y.2 (s.lastIs 1 Rl.kindsL 1 0)
    have h3 := rwhn_suf en (y.2.rest en (s.lastIs 1 Rl.kindsL 1 0)).2
    exact (rword_suf _ _ _).trans (h3.trans (h2.trans (h1.trans (List.tail_suffix _))))
end Go.Proofs.YtmfjebpefneboaaDoor

