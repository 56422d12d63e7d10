/-
  Rule: the reference parser in memory: Parse. Printed by genrni07.py.
-/
import Derived.Test.YtmfjebpefneboaaDoorRnHa
import Derived.Test.YtmfjebpefneboaaDoorRnHb
import Derived.Test.YtmfjebpefneboaaDoorRnHc
import Derived.Test.YtmfjebpefneboaaDoorLxU
namespace Go.Proofs.YtmfjebpefneboaaDoor
set_option linter.unusedVariables false
set_option linter.unusedSimpArgs false
open Go Go.RowKit Go.Shelf
open Lx (Tk)
open Rl (RSt)
theorem results_row_tmps {P : Program} {fn : Func} {p q r : Tmp} {ty2 : TypeId} (h : fn.results = #[.cell q ty2, .tmp p, .tmp r]) (tmps : Array Value) (v u : Value) (hv : tmps.getD p undef = v) (hu : tmps.getD r undef = u) (w : World) (g2 : Nat) (t2 : TypeId) (cs2 : Array Value) (fr2 : Nat × Nat) (d2 : TypeDesc)
    (hq : tmps.getD q undef = .pointer (some ⟨g2, 0, none⟩)) (hg2 : w.heap[g2]? = some (.cells cs2 t2 fr2))
    (hu2 : P.underlying ty2 = some d2) (hd2 : (match d2 with | .struct _ | .array _ _ => true | _ => false) = true) (hi2 : (P.info? ty2).map (·.size) = some cs2.size) :
    (results fn tmps).run P w = .ok (.tuple #[.agg cs2, v, u]) w := by
  have hv' : tmps[p]?.getD undef = v := by simpa using hv
  have hu' : tmps[r]?.getD undef = u := by simpa using hu
  have hq' : tmps[q]?.getD undef = .pointer (some ⟨g2, 0, none⟩) := by simpa using hq
  simp [results, h, hv', hu', hq', asAddr, Sem.run_bind, Result.andThen, run_loadVar_row w g2 t2 ty2 cs2 fr2 d2 hg2 hu2 hd2 hi2]
theorem fin_len : ∀ (l : List (Tk × Nat)) (k : Nat) (out : List Tk), (Lx.fin k out l).1.length ≤ out.length + l.length
  | [], k, out => by simp [Lx.fin]
  | (u, e) :: r, k, out => by
    unfold Lx.fin
    split
    · simp
    · split
      · simp
      · have := fin_len r (k + 1) (out ++ [u])
        simp at this ⊢
        omega
theorem lex_length (s : Bytes) : (Lx.lex s).1.length ≤ s.length := by
  unfold Lx.lex
  split
  · simp
  · have h1 := fin_len (Lx.sc 0 s) 0 []
    have h2 := Lx.sc_length 0 s
    simp at h1
    exact Nat.le_trans h1 h2
theorem item_r {w : World} {en : Nat} {s : RSt} {ao : Option Addr} {cap : Nat} (HT : Hid (TokS w (.slice ao s.l.length cap) s.l)) (HSM : Hid (Sm s.l)) (HN : Hid (s.l.length ≤ 100000)) {R : Ending → World → Prop}
    (h : ∀ (x : Rl.Itm) (uo : Option Addr) (uc : Nat) (s' : RSt) (ao' : Option Addr) (cap' : Nat) (w' : World), Hid (s.item en = (x, s')) → Hid (Suf ao cap s.l ao' cap' s'.l) → Hid (ListS w.heap.size 46 1 (Cr w.heap.size) x.whn (.slice uo x.whn.length uc) w') → Hid (Chg [] w w') → R (.returned (.tuple #[.agg #[.int .i64 (x.kind : Nat), .string ⟨x.name.toArray⟩, .slice uo x.whn.length uc, .int .i64 (x.n : Nat), .int .i64 (x.r.1 : Nat), .int .i64 (x.r.2 : Nat), .int .i64 (x.s.1 : Nat), .int .i64 (x.s.2 : Nat), .int .i64 (x.at_ : Nat)], .agg #[.slice ao' s'.l.length cap', .int .i64 (en : Int), .int .i64 (s'.err : Int), .int .i64 (s'.at_ : Int)]])) w') :
    Calls Tryd.prog 26 #[.agg #[.slice ao s.l.length cap, .int .i64 (en : Int), .int .i64 (s.err : Int), .int .i64 (s.at_ : Int)]] w R := by
  by_cases h0 : RSt.lastIs s 1 Rl.kindsL 1 0 = 0
  · exact item_0 HT HSM HN (Lib.hid h0) h
  · by_cases h1 : RSt.lastIs s 1 Rl.kindsL 1 0 = 1
    · exact item_1 HT HSM HN (Lib.hid h1) h
    · by_cases h3 : RSt.lastIs s 1 Rl.kindsL 1 0 = 3
      · exact item_3 HT HSM HN (Lib.hid h3) h
      · by_cases h4 : RSt.lastIs s 1 Rl.kindsL 1 0 = 4
        · exact item_4 HT HSM HN (Lib.hid h4) h
        · by_cases h5 : RSt.lastIs s 1 Rl.kindsL 1 0 = 5
          · exact item_5 HT HSM HN (Lib.hid h5) h
          · exact item_x HT HSM HN (Lib.hid ⟨h0, h1, h3, h4, h5⟩) h
theorem ritem_less {en : Nat} {s s' : RSt} {x : Rl.Itm} (h : s.item en = (x, s')) (h0 : s'.err = 0) : s'.l.length + 1 ≤ s.l.length := by
  by_cases hk : s.lastIs 1 Rl.kindsL 1 0 = 0
  · unfold RSt.item at h
    rw [if_pos hk] at h
    simp only [Prod.mk.injEq] at h
    rw [← h.2] at h0
    unfold RSt.fail at h0
    split at h0
    · exact absurd h0 (Rl.code_ne 4 s.l (by decide))
    · rename_i h1
      exact absurd h0 h1
  · obtain ⟨_, t, r, hl⟩ := lastIs_cons (s := s) (k := 1) (l := Rl.kindsL) (i := 1) (o := 0) hk
    have h1 : s'.l <:+ s.tl.l := by
      unfold RSt.item at h
      rw [if_neg hk] at h
      simp only [Prod.mk.injEq] at h
      rw [← h.2]
      have h2 := rtake_suf en s.tl 1
      generalize s.tl.take en 1 = y at h2 ⊢
      have h3 := rrest_suf en y.2 (s.lastIs 1 Rl.kindsL 1 0)
      have h4 := rwhn_suf en (y.2.rest en (s.lastIs 1 Rl.kindsL 1 0)).2
      exact (rword_suf _ _ _).trans (h4.trans (h3.trans h2))
    have h5 := h1.length_le
    unfold RSt.tl at h5
    rw [hl] at h5 ⊢
    simp at h5 ⊢
    omega
/-- How far the loop has still to go. -/
def muP (b : Nat) (w : World) : Nat := match w.cell? ⟨b, 2, none⟩, w.cell? ⟨b, 0, none⟩ with
  | some (.int _ e), some (.slice _ n _) => if e = 0 then n + 1 else 0
  | _, _ => 0
theorem muP_eq {w : World} {b : Nat} {s : RSt} {ao : Option Addr} {cap en : Nat} {T : TypeId} (h : Blk w b [.slice ao s.l.length cap, .int .i64 (en : Int), .int .i64 (s.err : Int), .int .i64 (s.at_ : Int)] T) : muP b w = if s.err = 0 then s.l.length + 1 else 0 := by
  unfold muP
  rw [h.cell (i := 2) rfl, h.cell (i := 0) rfl]
  simp only
  by_cases h0 : s.err = 0
  · rw [if_pos h0, if_pos (by omega)]
  · rw [if_neg h0, if_neg (by omega)]
set_option maxHeartbeats 4000000 in
set_option maxRecDepth 100000 in
theorem refparse_spec (w : World) (s : Bytes) (hs : s.length ≤ 100000) : Calls Tryd.prog 12 #[.string ⟨s.toArray⟩] w (Parsed w (RSt.parse s)) := by
  obtain ⟨ii, hii, iz0, iz1, iz2⟩ := info_parts info_item
  go_enter Tryd.func12, Tryd.ntmps12
  go_upto_region 1 with fail
  obtain ⟨W1, hW⟩ : ∃ W, W = (w.alloc (.cells #[.slice none 0 0] 25)) := ⟨_, rfl⟩
  rw [← hW]
  obtain ⟨X2, hX2⟩ : ∃ T, T = w.heap.size := ⟨_, rfl⟩
  try rw [← hX2]
  have OX2 : Hid (w.heap.size ≤ X2) := Lib.hid (by rw [hX2]; exact Nat.le_refl _)
  have HX2_1 : Hid (Blk W1 X2 [.slice none 0 0] 25) := Lib.hid (by
    have h1 := Blk.new w [.slice none 0 0] 25
    have h2 : w.heap.size = X2 := by simp [hX2]
    rw [h2] at h1
    rw [hW]
    exact h1)
  have C1 : Hid (Chg [] w W1) := Lib.hid (by rw [hW]; exact ((Chg.refl [] w).alloc _))
  clear hW hX2
  go_wp2_with fail
  refine (ref_spec _ s (by omega)).mono ?_
  rintro e w1 ⟨v, rfl, ht, hc⟩
  obtain ⟨ao, cap, rfl⟩ := ht.frm
  obtain ⟨L, hL⟩ : ∃ L, L = (Lx.lex s).1 := ⟨_, rfl⟩
  obtain ⟨E, hE⟩ : ∃ E, E = (Lx.lex s).2.1 := ⟨_, rfl⟩
  obtain ⟨A, hA⟩ : ∃ A, A = (Lx.lex s).2.2 := ⟨_, rfl⟩
  rw [← hL] at ht ⊢
  rw [← hE, ← hA]
  have HT := Lib.hid ht
  have D1 := Lib.hid hc
  have hln : L.length ≤ 100000 := by rw [hL]; exact Nat.le_trans (lex_length s) hs
  have HN := Lib.hid hln
  have HSM : Hid (Sm L) := Lib.hid (by rw [hL]; exact sm_lex s hs)
  have HLE := Lib.hid (And.intro hL (And.intro hE hA))
  clear ht hc hL hE hA hln
  have HX2_2 : Hid (Blk w1 X2 [.slice none 0 0] 25) := Lib.hid (D1.out.blk HX2_1.out (by simp))
  have C2 : Hid (Chg [] w w1) := Lib.hid (C1.out.trans D1.out (by simp))
  by_cases hE0 : E = 0
  · skip
    have q0 : ((E : Int) != 0) = false := by rw [hE0]; rfl
    have HE0 := Lib.hid hE0
    clear hE0
    have HPR : Hid (∀ y, RSt.items s.length (L.length + 2) ⟨L, 0, 0⟩ [] = y → RSt.parse s = if y.2.err ≠ 0 then ([], y.2.err, (y.2.at_ : Int)) else (y.1, 0, 0)) := Lib.hid (fun y hy => by
      unfold RSt.parse
      rw [if_neg (by rw [← HLE.out.2.1, HE0.out]; simp), ← HLE.out.1, hy])
    go_upto_region 5 with fail
    obtain ⟨W3, hW⟩ : ∃ W, W = (w1.alloc (.cells #[.slice ao L.length cap, .int .i64 (s.length : Int), .int .i64 0, .int .i64 0] 63)) := ⟨_, rfl⟩
    rw [← hW]
    obtain ⟨X8, hX8⟩ : ∃ T, T = w1.heap.size := ⟨_, rfl⟩
    try rw [← hX8]
    have OX8 : Hid (X2 < X8) := Lib.hid (by rw [hX8]; exact HX2_2.out.lt)
    have HX2_3 : Hid (Blk W3 X2 [.slice none 0 0] 25) := Lib.hid (by rw [hW]; exact (HX2_2.out.alloc _))
    have HX8_3 : Hid (Blk W3 X8 [.slice ao L.length cap, .int .i64 (s.length : Int), .int .i64 0, .int .i64 0] 63) := Lib.hid (by
      have h1 := Blk.new w1 [.slice ao L.length cap, .int .i64 (s.length : Int), .int .i64 0, .int .i64 0] 63
      have h2 : w1.heap.size = X8 := by simp [hX8]
      rw [h2] at h1
      rw [hW]
      exact h1)
    have C3 : Hid (Chg [] w W3) := Lib.hid (by rw [hW]; exact (C2.out.alloc _))
    have Kw1_3 : Hid (Chg [] w1 W3) := Lib.hid (by rw [hW]; exact ((Chg.refl [] w1).alloc _))
    have Mw1_X8 : Hid (w1.heap.size ≤ X8) := Lib.hid (by rw [hX8]; have h1 := (Chg.refl [] w1).size; omega)
    clear hW hX8
    go_upto_block 0 with fail
    obtain ⟨W4, hW⟩ : ∃ W, W = (W3.alloc (.cells #[.slice none 0 0] 25)) := ⟨_, rfl⟩
    rw [← hW]
    obtain ⟨X9, hX9⟩ : ∃ T, T = W3.heap.size := ⟨_, rfl⟩
    try rw [← hX9]
    have OX9 : Hid (X8 < X9) := Lib.hid (by rw [hX9]; exact HX8_3.out.lt)
    have HX2_4 : Hid (Blk W4 X2 [.slice none 0 0] 25) := Lib.hid (by rw [hW]; exact (HX2_3.out.alloc _))
    have HX8_4 : Hid (Blk W4 X8 [.slice ao L.length cap, .int .i64 (s.length : Int), .int .i64 0, .int .i64 0] 63) := Lib.hid (by rw [hW]; exact (HX8_3.out.alloc _))
    have HX9_4 : Hid (Blk W4 X9 [.slice none 0 0] 25) := Lib.hid (by
      have h1 := Blk.new W3 [.slice none 0 0] 25
      have h2 : W3.heap.size = X9 := by simp [hX9]
      rw [h2] at h1
      rw [hW]
      exact h1)
    have C4 : Hid (Chg [] w W4) := Lib.hid (by rw [hW]; exact (C3.out.alloc _))
    have Kw1_4 : Hid (Chg [] w1 W4) := Lib.hid (by rw [hW]; exact (Kw1_3.out.alloc _))
    have Mw1_X9 : Hid (w1.heap.size ≤ X9) := Lib.hid (by rw [hX9]; have h1 := Kw1_3.out.size; omega)
    clear hW hX9
    have HX8L : Hid (X8 < W4.heap.size) := Lib.hid HX8_4.out.lt
    have HX9L : Hid (X9 < W4.heap.size) := Lib.hid HX9_4.out.lt
    have HX2L : Hid (X2 < W4.heap.size) := Lib.hid HX2_4.out.lt
    have HWL : Hid (w.heap.size ≤ W4.heap.size) := Lib.hid C4.out.size
    have HX8s : Hid (Blk W4 X8 [.slice ao (⟨L, 0, 0⟩ : RSt).l.length cap, .int .i64 (s.length : Int), .int .i64 ((⟨L, 0, 0⟩ : RSt).err : Int), .int .i64 ((⟨L, 0, 0⟩ : RSt).at_ : Int)] 63) := HX8_4
    go_wp2_with fail
    go_loopw [] (fun wr => ∃ (k : Nat) (s1 : RSt) (ao1 : Option Addr) (cap1 : Nat) (out : List Rl.Itm) (vo : Option Addr) (vc : Nat), Hid (RSt.items s.length k s1 out = RSt.items s.length (L.length + 2) ⟨L, 0, 0⟩ [] ∧ (s1.err = 0 → s1.l.length < k) ∧ out.length + s1.l.length ≤ L.length + 1 ∧ (s1.err = 0 → out.length + s1.l.length ≤ L.length) ∧ s1.l <:+ L) ∧ Hid (Suf ao cap L ao1 cap1 s1.l) ∧ Hid (Blk wr X8 [.slice ao1 s1.l.length cap1, .int .i64 (s.length : Int), .int .i64 (s1.err : Int), .int .i64 (s1.at_ : Int)] 63) ∧ Hid (Blk wr X9 [.slice vo out.length vc] 25) ∧ Hid (ListS W4.heap.size 42 9 (Ci W4.heap.size) out (.slice vo out.length vc) wr) ∧ Hid (Chg [X8, X9] W4 wr)) (fun wr => muP X8 wr)
    case atStart => exact ⟨L.length + 2, ⟨L, 0, 0⟩, ao, cap, [], none, 0, Lib.hid ⟨rfl, fun _ => by show L.length < _; omega, by simp, fun _ => by simp, List.suffix_refl _⟩, Lib.hid (fun v hv => hv), HX8s, HX9_4, Lib.hid (ListS.nil _ _ _ _ _), Lib.hid (Chg.refl _ _)⟩
    case round =>
      obtain ⟨k, s1, ao1, cap1, out, vo, vc, HI, HS1, HX8, HX9, HL, HCL⟩ := hrel
      obtain ⟨wo, hwn⟩ : ∃ x, x = wr := ⟨_, rfl⟩
      subst hwn
      have NX2_X8 : X2 ≠ X8 := by have OX2_ := OX2.out; have OX8_ := OX8.out; have OX9_ := OX9.out; omega
      have NX8_X2 : X8 ≠ X2 := NX2_X8.symm
      have NX2_X9 : X2 ≠ X9 := by have OX2_ := OX2.out; have OX8_ := OX8.out; have OX9_ := OX9.out; omega
      have NX9_X2 : X9 ≠ X2 := NX2_X9.symm
      have NX8_X9 : X8 ≠ X9 := by have OX2_ := OX2.out; have OX8_ := OX8.out; have OX9_ := OX9.out; omega
      have NX9_X8 : X9 ≠ X8 := NX8_X9.symm
      have HX2_5 : Hid (Blk wo X2 [.slice none 0 0] 25) := Lib.hid (HCL.out.blk HX2_4.out (by simp [NX2_X8, NX2_X9]))
      have C5 : Hid (Chg [] w wo) := Lib.hid (C4.out.trans HCL.out (fun k hk => .inr (by have OX2_ := OX2.out; have OX8_ := OX8.out; have OX9_ := OX9.out; simp only [List.mem_cons, List.not_mem_nil, or_false] at hk; omega)))
      have Kw1_5 : Hid (Chg [] w1 wo) := Lib.hid (by exact (Kw1_4.out.trans HCL.out (fun k hk => by simp only [List.mem_cons, List.not_mem_nil, or_false] at hk; rcases hk with rfl | rfl; exact .inr Mw1_X8.out; exact .inr Mw1_X9.out)))
      have KL_5 : Hid (Chg [X8, X9] W4 wo) := Lib.hid (by exact ((Chg.refl [X8, X9] W4).trans HCL.out (fun k hk => by simp only [List.mem_cons, List.not_mem_nil, or_false] at hk; rcases hk with rfl | rfl; exact .inl (by simp); exact .inl (by simp))))
      have hol : out.length ≤ 100001 := by have h1 := HI.out.2.2.1; have h2 := HN.out; omega
      by_cases he : s1.err = 0
      · have q : ((s1.err : Int) == 0) = true := by rw [he]; rfl
        have HE1 := Lib.hid he
        clear he
        by_cases hl : s1.l = []
        · have q1 : ¬ (0 : Int) < (s1.l.length : Int) := by rw [hl]; decide
          have hps : RSt.parse s = (out, 0, 0) := by
            have h1 := HI.out.1
            have h2 : RSt.items s.length k s1 out = (out, s1) := by
              cases k with
              | zero => rfl
              | succ k =>
                show (if s1.err = 0 ∧ s1.l ≠ [] then _ else (out, s1)) = _
                rw [if_neg (fun h => h.2 hl)]
            rw [h2] at h1
            rw [HPR.out _ h1.symm, if_neg (by rw [HE1.out]; simp)]
          have HPS := Lib.hid hps
          clear hps hl
          have q2 : ((s1.err : Int) != 0) = false := by rw [HE1.out]; rfl
          have cX8_0 := HX8.out.cell (i := 0) rfl
          have cX8_1 := HX8.out.cell (i := 1) rfl
          have cX8_2 := HX8.out.cell (i := 2) rfl
          have cX8_3 := HX8.out.cell (i := 3) rfl
          go_upto_region 13 with fail
          clear q q1 q2 cX8_0 cX8_1 cX8_2 cX8_3
          have cX9_0 := HX9.out.cell (i := 0) rfl
          have cX2_0 := HX2_5.out.cell (i := 0) rfl
          have cX2_f0 := HX2_5.out.free 0
          go_wp2_with fail
          clear cX9_0 cX2_0 cX2_f0
          obtain ⟨W6, hW⟩ : ∃ W, W = (wo.setCell ⟨X2, 0, none⟩ (.slice vo out.length vc)) := ⟨_, rfl⟩
          rw [← hW]
          have HX2_6 : Hid (Blk W6 X2 [.slice vo out.length vc] 25) := Lib.hid (by rw [hW]; exact (HX2_5.out.set 0 (.slice vo out.length vc)))
          have C6 : Hid (Chg [] w W6) := Lib.hid (by rw [hW]; exact (C5.out.setCell _ _ (.inr (by have OX2_ := OX2.out; have OX8_ := OX8.out; have OX9_ := OX9.out; show w.heap.size ≤ X2; omega))))
          have Kzz_6 : Hid (Chg [X2] wo W6) := Lib.hid (by rw [hW]; exact ((Chg.refl [X2] wo).setCell _ _ (.inl (by simp))))
          clear hW
          have ZZ := Kzz_6
          (try simp only [Exit.inBlock, Exit.then])
          refine bodyPost_ret (results_row_tmps rfl _ (.int .i64 0) (.int .i64 0) rfl rfl _ X2 25 #[.slice vo out.length vc] (0, 0) _ rfl HX2_6.out Tryd.underlying25 rfl (by kernel_rfl)) rfl ?_
          refine ⟨.slice vo out.length vc, ?_, ?_, C6.out⟩
          · rw [HPS.out]; rfl
          · rw [HPS.out]
            exact (HL.out.keep (kp_i _) ZZ.out (TyB.lower (by intro b hb; simp only [List.mem_cons, List.not_mem_nil, or_false] at hb; subst hb; exact HX2L.out) _)).mono HWL.out (mono_i HWL.out)
        · have q1 : (0 : Int) < (s1.l.length : Int) := by have := List.length_pos_iff.2 hl; omega
          have HNL := Lib.hid hl
          clear hl
          have cX8_0 := HX8.out.cell (i := 0) rfl
          have cX8_1 := HX8.out.cell (i := 1) rfl
          have cX8_2 := HX8.out.cell (i := 2) rfl
          have cX8_3 := HX8.out.cell (i := 3) rfl
          have cX9_0 := HX9.out.cell (i := 0) rfl
          go_wp2_with fail
          clear q q1 cX8_0 cX8_1 cX8_2 cX8_3 cX9_0
          refine limit_r (Lib.hid (HS1.out.to HT.out Kw1_5.out)) out.length 200 (fun sL wL HEL HSL DL => ?_)
          have HX8_6 : Hid (Blk wL X8 [.slice ao1 s1.l.length cap1, .int .i64 (s.length : Int), .int .i64 (s1.err : Int), .int .i64 (s1.at_ : Int)] 63) := Lib.hid (DL.out.blk HX8.out (by simp))
          have HX9_6 : Hid (Blk wL X9 [.slice vo out.length vc] 25) := Lib.hid (DL.out.blk HX9.out (by simp))
          have Kw1_6 : Hid (Chg [] w1 wL) := Lib.hid (by exact (Kw1_5.out.trans DL.out (by simp)))
          have KL_6 : Hid (Chg [X8, X9] W4 wL) := Lib.hid (by exact (KL_5.out.trans DL.out (by simp)))
          have Ko_6 : Hid (Chg [X8, X9] wo wL) := Lib.hid (by exact ((Chg.refl [X8, X9] wo).trans DL.out (by simp)))
          have cX8_0 := HX8_6.out.cell (i := 0) rfl
          have cX8_1 := HX8_6.out.cell (i := 1) rfl
          have cX8_2 := HX8_6.out.cell (i := 2) rfl
          have cX8_3 := HX8_6.out.cell (i := 3) rfl
          have cX8_f0 := HX8_6.out.free 0
          have cX8_f1 := HX8_6.out.free 1
          have cX8_f2 := HX8_6.out.free 2
          have cX8_f3 := HX8_6.out.free 3
          go_upto_region 8 with fail
          clear cX8_0 cX8_1 cX8_2 cX8_3 cX8_f0 cX8_f1 cX8_f2 cX8_f3
          obtain ⟨W7, hW⟩ : ∃ W, W = ((((wL.setCell ⟨X8, 0, none⟩ (.slice ao1 sL.l.length cap1)).setCell ⟨X8, 1, none⟩ (.int .i64 (s.length : Int))).setCell ⟨X8, 2, none⟩ (.int .i64 (sL.err : Int))).setCell ⟨X8, 3, none⟩ (.int .i64 (sL.at_ : Int))) := ⟨_, rfl⟩
          rw [← hW]
          have HX8_7 : Hid (Blk W7 X8 [.slice ao1 sL.l.length cap1, .int .i64 (s.length : Int), .int .i64 (sL.err : Int), .int .i64 (sL.at_ : Int)] 63) := Lib.hid (by rw [hW]; exact ((((HX8_6.out.set 0 (.slice ao1 sL.l.length cap1)).set 1 (.int .i64 (s.length : Int))).set 2 (.int .i64 (sL.err : Int))).set 3 (.int .i64 (sL.at_ : Int))))
          have HX9_7 : Hid (Blk W7 X9 [.slice vo out.length vc] 25) := Lib.hid (by rw [hW]; exact ((((HX9_6.out.other _ _ NX9_X8).other _ _ NX9_X8).other _ _ NX9_X8).other _ _ NX9_X8))
          have Kw1_7 : Hid (Chg [] w1 W7) := Lib.hid (by rw [hW]; exact ((((Kw1_6.out.setCell _ _ (.inr (by have := Mw1_X8.out; omega))).setCell _ _ (.inr (by have := Mw1_X8.out; omega))).setCell _ _ (.inr (by have := Mw1_X8.out; omega))).setCell _ _ (.inr (by have := Mw1_X8.out; omega))))
          have KL_7 : Hid (Chg [X8, X9] W4 W7) := Lib.hid (by rw [hW]; exact ((((KL_6.out.setCell _ _ (.inl (by simp))).setCell _ _ (.inl (by simp))).setCell _ _ (.inl (by simp))).setCell _ _ (.inl (by simp))))
          have Ko_7 : Hid (Chg [X8, X9] wo W7) := Lib.hid (by rw [hW]; exact ((((Ko_6.out.setCell _ _ (.inl (by simp))).setCell _ _ (.inl (by simp))).setCell _ _ (.inl (by simp))).setCell _ _ (.inl (by simp))))
          clear hW
          have HLL : Hid (sL.l <:+ L) := Lib.hid (by rw [← HEL.out, lim_l]; exact HI.out.2.2.2.2)
          have cX8_0 := HX8_7.out.cell (i := 0) rfl
          have cX8_1 := HX8_7.out.cell (i := 1) rfl
          have cX8_2 := HX8_7.out.cell (i := 2) rfl
          have cX8_3 := HX8_7.out.cell (i := 3) rfl
          go_wp2_with fail
          clear cX8_0 cX8_1 cX8_2 cX8_3
          refine item_r (Lib.hid ((HS1.out.trans HSL.out).to HT.out Kw1_7.out)) (Lib.hid (HSM.out.sfx HLL.out)) (Lib.hid (Nat.le_trans HLL.out.length_le HN.out)) (fun x uo uc sI aoI capI wI HEI HSI HLI DI => ?_)
          have HWB : Hid (W4.heap.size ≤ W7.heap.size) := Lib.hid KL_7.out.size
          have HX8_8 : Hid (Blk wI X8 [.slice ao1 sL.l.length cap1, .int .i64 (s.length : Int), .int .i64 (sL.err : Int), .int .i64 (sL.at_ : Int)] 63) := Lib.hid (DI.out.blk HX8_7.out (by simp))
          have HX9_8 : Hid (Blk wI X9 [.slice vo out.length vc] 25) := Lib.hid (DI.out.blk HX9_7.out (by simp))
          have KL_8 : Hid (Chg [X8, X9] W4 wI) := Lib.hid (by exact (KL_7.out.trans DI.out (by simp)))
          have Ko_8 : Hid (Chg [X8, X9] wo wI) := Lib.hid (by exact (Ko_7.out.trans DI.out (by simp)))
          go_upto_region 9 with fail
          obtain ⟨W9, hW⟩ : ∃ W, W = ((wI.alloc (.cells #[.int .i64 (x.kind : Nat), .string ⟨x.name.toArray⟩, .slice uo x.whn.length uc, .int .i64 (x.n : Nat), .int .i64 (x.r.1 : Nat), .int .i64 (x.r.2 : Nat), .int .i64 (x.s.1 : Nat), .int .i64 (x.s.2 : Nat), .int .i64 (x.at_ : Nat)] 42)).alloc (.cells #[.slice aoI sI.l.length capI, .int .i64 (s.length : Int), .int .i64 (sI.err : Int), .int .i64 (sI.at_ : Int)] 63)) := ⟨_, rfl⟩
          rw [← hW]
          obtain ⟨T11, hT11⟩ : ∃ T, T = wI.heap.size + 1 := ⟨_, rfl⟩
          try rw [← hT11]
          obtain ⟨T10, hT10⟩ : ∃ T, T = wI.heap.size := ⟨_, rfl⟩
          try rw [← hT10]
          have OT10 : Hid (X9 < T10) := Lib.hid (by rw [hT10]; exact HX9_8.out.lt)
          have OT11 : Hid (T10 < T11) := Lib.hid (by rw [hT11, hT10]; omega)
          have HX8_9 : Hid (Blk W9 X8 [.slice ao1 sL.l.length cap1, .int .i64 (s.length : Int), .int .i64 (sL.err : Int), .int .i64 (sL.at_ : Int)] 63) := Lib.hid (by rw [hW]; exact ((HX8_8.out.alloc _).alloc _))
          have HX9_9 : Hid (Blk W9 X9 [.slice vo out.length vc] 25) := Lib.hid (by rw [hW]; exact ((HX9_8.out.alloc _).alloc _))
          have HT10_9 : Hid (Blk W9 T10 [.int .i64 (x.kind : Nat), .string ⟨x.name.toArray⟩, .slice uo x.whn.length uc, .int .i64 (x.n : Nat), .int .i64 (x.r.1 : Nat), .int .i64 (x.r.2 : Nat), .int .i64 (x.s.1 : Nat), .int .i64 (x.s.2 : Nat), .int .i64 (x.at_ : Nat)] 42) := Lib.hid (by
            have h1 := Blk.new wI [.int .i64 (x.kind : Nat), .string ⟨x.name.toArray⟩, .slice uo x.whn.length uc, .int .i64 (x.n : Nat), .int .i64 (x.r.1 : Nat), .int .i64 (x.r.2 : Nat), .int .i64 (x.s.1 : Nat), .int .i64 (x.s.2 : Nat), .int .i64 (x.at_ : Nat)] 42
            have h2 : wI.heap.size = T10 := by simp [hT10]
            rw [h2] at h1
            rw [hW]
            exact (h1.alloc _))
          have HT11_9 : Hid (Blk W9 T11 [.slice aoI sI.l.length capI, .int .i64 (s.length : Int), .int .i64 (sI.err : Int), .int .i64 (sI.at_ : Int)] 63) := Lib.hid (by
            have h1 := Blk.new (wI.alloc (.cells #[.int .i64 (x.kind : Nat), .string ⟨x.name.toArray⟩, .slice uo x.whn.length uc, .int .i64 (x.n : Nat), .int .i64 (x.r.1 : Nat), .int .i64 (x.r.2 : Nat), .int .i64 (x.s.1 : Nat), .int .i64 (x.s.2 : Nat), .int .i64 (x.at_ : Nat)] 42)) [.slice aoI sI.l.length capI, .int .i64 (s.length : Int), .int .i64 (sI.err : Int), .int .i64 (sI.at_ : Int)] 63
            have h2 : (wI.alloc (.cells #[.int .i64 (x.kind : Nat), .string ⟨x.name.toArray⟩, .slice uo x.whn.length uc, .int .i64 (x.n : Nat), .int .i64 (x.r.1 : Nat), .int .i64 (x.r.2 : Nat), .int .i64 (x.s.1 : Nat), .int .i64 (x.s.2 : Nat), .int .i64 (x.at_ : Nat)] 42)).heap.size = T11 := by simp [hT11]
            rw [h2] at h1
            rw [hW]
            exact h1)
          have KL_9 : Hid (Chg [X8, X9] W4 W9) := Lib.hid (by rw [hW]; exact ((KL_8.out.alloc _).alloc _))
          have Ko_9 : Hid (Chg [X8, X9] wo W9) := Lib.hid (by rw [hW]; exact ((Ko_8.out.alloc _).alloc _))
          have Ki_9 : Hid (Chg [X8] wI W9) := Lib.hid (by rw [hW]; exact (((Chg.refl [X8] wI).alloc _).alloc _))
          clear hW hT10 hT11
          have cT11_0 := HT11_9.out.cell (i := 0) rfl
          have cT11_1 := HT11_9.out.cell (i := 1) rfl
          have cT11_2 := HT11_9.out.cell (i := 2) rfl
          have cT11_3 := HT11_9.out.cell (i := 3) rfl
          have cX8_0 := HX8_9.out.cell (i := 0) rfl
          have cX8_1 := HX8_9.out.cell (i := 1) rfl
          have cX8_2 := HX8_9.out.cell (i := 2) rfl
          have cX8_3 := HX8_9.out.cell (i := 3) rfl
          have cX8_f0 := HX8_9.out.free 0
          have cX8_f1 := HX8_9.out.free 1
          have cX8_f2 := HX8_9.out.free 2
          have cX8_f3 := HX8_9.out.free 3
          go_upto_region 10 with fail
          clear cT11_0 cT11_1 cT11_2 cT11_3 cX8_0 cX8_1 cX8_2 cX8_3 cX8_f0 cX8_f1 cX8_f2 cX8_f3
          have NT10_X8 : T10 ≠ X8 := by have OX2_ := OX2.out; have OX8_ := OX8.out; have OX9_ := OX9.out; have OT10_ := OT10.out; have OT11_ := OT11.out; omega
          have NX8_T10 : X8 ≠ T10 := NT10_X8.symm
          have NT11_X8 : T11 ≠ X8 := by have OX2_ := OX2.out; have OX8_ := OX8.out; have OX9_ := OX9.out; have OT10_ := OT10.out; have OT11_ := OT11.out; omega
          have NX8_T11 : X8 ≠ T11 := NT11_X8.symm
          obtain ⟨W10, hW⟩ : ∃ W, W = ((((W9.setCell ⟨X8, 0, none⟩ (.slice aoI sI.l.length capI)).setCell ⟨X8, 1, none⟩ (.int .i64 (s.length : Int))).setCell ⟨X8, 2, none⟩ (.int .i64 (sI.err : Int))).setCell ⟨X8, 3, none⟩ (.int .i64 (sI.at_ : Int))) := ⟨_, rfl⟩
          rw [← hW]
          have HX8_10 : Hid (Blk W10 X8 [.slice aoI sI.l.length capI, .int .i64 (s.length : Int), .int .i64 (sI.err : Int), .int .i64 (sI.at_ : Int)] 63) := Lib.hid (by rw [hW]; exact ((((HX8_9.out.set 0 (.slice aoI sI.l.length capI)).set 1 (.int .i64 (s.length : Int))).set 2 (.int .i64 (sI.err : Int))).set 3 (.int .i64 (sI.at_ : Int))))
          have HX9_10 : Hid (Blk W10 X9 [.slice vo out.length vc] 25) := Lib.hid (by rw [hW]; exact ((((HX9_9.out.other _ _ NX9_X8).other _ _ NX9_X8).other _ _ NX9_X8).other _ _ NX9_X8))
          have HT10_10 : Hid (Blk W10 T10 [.int .i64 (x.kind : Nat), .string ⟨x.name.toArray⟩, .slice uo x.whn.length uc, .int .i64 (x.n : Nat), .int .i64 (x.r.1 : Nat), .int .i64 (x.r.2 : Nat), .int .i64 (x.s.1 : Nat), .int .i64 (x.s.2 : Nat), .int .i64 (x.at_ : Nat)] 42) := Lib.hid (by rw [hW]; exact ((((HT10_9.out.other _ _ NT10_X8).other _ _ NT10_X8).other _ _ NT10_X8).other _ _ NT10_X8))
          have KL_10 : Hid (Chg [X8, X9] W4 W10) := Lib.hid (by rw [hW]; exact ((((KL_9.out.setCell _ _ (.inl (by simp))).setCell _ _ (.inl (by simp))).setCell _ _ (.inl (by simp))).setCell _ _ (.inl (by simp))))
          have Ko_10 : Hid (Chg [X8, X9] wo W10) := Lib.hid (by rw [hW]; exact ((((Ko_9.out.setCell _ _ (.inl (by simp))).setCell _ _ (.inl (by simp))).setCell _ _ (.inl (by simp))).setCell _ _ (.inl (by simp))))
          have Ki_10 : Hid (Chg [X8] wI W10) := Lib.hid (by rw [hW]; exact ((((Ki_9.out.setCell _ _ (.inl (by simp))).setCell _ _ (.inl (by simp))).setCell _ _ (.inl (by simp))).setCell _ _ (.inl (by simp))))
          clear hW
          have HUZ : Hid (ListS W4.heap.size 46 1 (Cr W4.heap.size) x.whn (.slice uo x.whn.length uc) (W10.alloc (.cells #[.int .i64 (x.kind : Nat), .string ⟨x.name.toArray⟩, .slice uo x.whn.length uc, .int .i64 (x.n : Nat), .int .i64 (x.r.1 : Nat), .int .i64 (x.r.2 : Nat), .int .i64 (x.s.1 : Nat), .int .i64 (x.s.2 : Nat), .int .i64 (x.at_ : Nat)] 42))) := Lib.hid ((HLI.out.mono HWB.out (mono_r HWB.out)).keep (kp_r _) (Ki_10.out.alloc _) (TyB.lower (by intro b hb; simp only [List.mem_cons, List.not_mem_nil, or_false] at hb; subst hb; exact HX8L.out) _))
          have HLZ : Hid (ListS W4.heap.size 42 9 (Ci W4.heap.size) out (.slice vo out.length vc) (W10.alloc (.cells #[.int .i64 (x.kind : Nat), .string ⟨x.name.toArray⟩, .slice uo x.whn.length uc, .int .i64 (x.n : Nat), .int .i64 (x.r.1 : Nat), .int .i64 (x.r.2 : Nat), .int .i64 (x.s.1 : Nat), .int .i64 (x.s.2 : Nat), .int .i64 (x.at_ : Nat)] 42))) := Lib.hid (HL.out.keep (kp_i _) (Ko_10.out.alloc _) (TyB.lower (by intro b hb; simp only [List.mem_cons, List.not_mem_nil, or_false] at hb; rcases hb with rfl | rfl <;> first | exact HX8L.out | exact HX9L.out) _))
          have hcz : Hid (Chg [X8, X9] W4 (W10.alloc (.cells #[.int .i64 (x.kind : Nat), .string ⟨x.name.toArray⟩, .slice uo x.whn.length uc, .int .i64 (x.n : Nat), .int .i64 (x.r.1 : Nat), .int .i64 (x.r.2 : Nat), .int .i64 (x.s.1 : Nat), .int .i64 (x.s.2 : Nat), .int .i64 (x.at_ : Nat)] 42))) := Lib.hid (KL_10.out.alloc _)
          have cX9_0 := HX9_10.out.cell (i := 0) rfl
          have cT10_0 := HT10_10.out.cell (i := 0) rfl
          have cT10_1 := HT10_10.out.cell (i := 1) rfl
          have cT10_2 := HT10_10.out.cell (i := 2) rfl
          have cT10_3 := HT10_10.out.cell (i := 3) rfl
          have cT10_4 := HT10_10.out.cell (i := 4) rfl
          have cT10_5 := HT10_10.out.cell (i := 5) rfl
          have cT10_6 := HT10_10.out.cell (i := 6) rfl
          have cT10_7 := HT10_10.out.cell (i := 7) rfl
          have cT10_8 := HT10_10.out.cell (i := 8) rfl
          go_wp2_with (at_builtin; refine wpList_snoc rfl (.tmp 48) (.tmp 50) 23 rfl 42 ii (.agg #[.int .i64 0, .string ⟨#[]⟩, .slice none 0 0, .int .i64 0, .int .i64 0, .int .i64 0, .int .i64 0, .int .i64 0, .int .i64 0]) 9 96 Tryd.underlying23 hii iz0 iz1 iz2 rfl (by decide) (C := Ci W4.heap.size) (Es := [46, 48]) (.slice vo out.length vc) out.length rfl HLZ.out rfl (kp_i _) (by decide) x [.int .i64 (x.kind : Nat), .string ⟨x.name.toArray⟩, .slice uo x.whn.length uc, .int .i64 (x.n : Nat), .int .i64 (x.r.1 : Nat), .int .i64 (x.r.2 : Nat), .int .i64 (x.s.1 : Nat), .int .i64 (x.s.2 : Nat), .int .i64 (x.at_ : Nat)] ⟨.slice uo x.whn.length uc, rfl, HUZ.out⟩ rfl (by intro u hu; simp at hu; rcases hu with rfl | rfl | rfl | rfl | rfl | rfl | rfl | rfl | rfl <;> rfl) W10.heap.size rfl (Blk.new W10 [.int .i64 (x.kind : Nat), .string ⟨x.name.toArray⟩, .slice uo x.whn.length uc, .int .i64 (x.n : Nat), .int .i64 (x.r.1 : Nat), .int .i64 (x.r.2 : Nat), .int .i64 (x.s.1 : Nat), .int .i64 (x.s.2 : Nat), .int .i64 (x.at_ : Nat)] 42) (by unfold maxLen; omega) (by omega) hcz.out.size ?kk)
          case kk =>
            intro lo9 lc9 v9 hl9 hc9 hb9
            have HL9 := Lib.hid hl9
            have HC9 := Lib.hid hc9
            have HB9 := Lib.hid hb9
            clear hl9 hc9 hb9 hcz cX9_0 cT10_0 cT10_1 cT10_2 cT10_3 cT10_4 cT10_5 cT10_6 cT10_7 cT10_8
            have HX8_11 : Hid (Blk v9 X8 [.slice aoI sI.l.length capI, .int .i64 (s.length : Int), .int .i64 (sI.err : Int), .int .i64 (sI.at_ : Int)] 63) := Lib.hid (HB9.out _ _ _ (HX8_10.out.alloc _) (.inr (by decide)))
            have HX9_11 : Hid (Blk v9 X9 [.slice vo out.length vc] 25) := Lib.hid (HB9.out _ _ _ (HX9_10.out.alloc _) (.inr (by decide)))
            have KL_11 : Hid (Chg [X8, X9] W4 v9) := Lib.hid (by exact (HC9.out _ _ (KL_10.out.alloc _) (Nat.le_refl _)))
            have cX9_0 := HX9_11.out.cell (i := 0) rfl
            have cX9_f0 := HX9_11.out.free 0
            go_wp2_with fail
            clear cX9_0 cX9_f0
            have NT11_X9 : T11 ≠ X9 := by have OX2_ := OX2.out; have OX8_ := OX8.out; have OX9_ := OX9.out; have OT10_ := OT10.out; have OT11_ := OT11.out; omega
            have NX9_T11 : X9 ≠ T11 := NT11_X9.symm
            obtain ⟨W12, hW⟩ : ∃ W, W = (v9.setCell ⟨X9, 0, none⟩ (.slice lo9 (out.length + 1) lc9)) := ⟨_, rfl⟩
            rw [← hW]
            have HX8_12 : Hid (Blk W12 X8 [.slice aoI sI.l.length capI, .int .i64 (s.length : Int), .int .i64 (sI.err : Int), .int .i64 (sI.at_ : Int)] 63) := Lib.hid (by rw [hW]; exact (HX8_11.out.other _ _ NX8_X9))
            have HX9_12 : Hid (Blk W12 X9 [.slice lo9 (out.length + 1) lc9] 25) := Lib.hid (by rw [hW]; exact (HX9_11.out.set 0 (.slice lo9 (out.length + 1) lc9)))
            have KL_12 : Hid (Chg [X8, X9] W4 W12) := Lib.hid (by rw [hW]; exact (KL_11.out.setCell _ _ (.inl (by simp))))
            have Ks_12 : Hid (Chg [X9] v9 W12) := Lib.hid (by rw [hW]; exact ((Chg.refl [X9] v9).setCell _ _ (.inl (by simp))))
            clear hW
            have ZS := Ks_12
            have HL10 : Hid (ListS W4.heap.size 42 9 (Ci W4.heap.size) (out ++ [x]) (.slice lo9 (out ++ [x]).length lc9) W12) := Lib.hid (by rw [List.length_append]; exact HL9.out.keep (kp_i _) ZS.out (TyB.lower (by intro b hb; simp only [List.mem_cons, List.not_mem_nil, or_false] at hb; subst hb; exact HX9L.out) _))
            have HX10 : Hid (Blk W12 X9 [.slice lo9 (out ++ [x]).length lc9] 25) := Lib.hid (by rw [List.length_append]; exact HX9_12.out)
            obtain ⟨k', hk'⟩ : ∃ k', k = k' + 1 := ⟨k - 1, by have := HI.out.2.1 HE1.out; omega⟩
            have HKK := Lib.hid hk'
            clear hk'
            have hst : RSt.items s.length k' sI (out ++ [x]) = RSt.items s.length (L.length + 2) ⟨L, 0, 0⟩ [] := by
              have h1 := HI.out.1
              rw [HKK.out] at h1
              rw [← h1]
              show _ = if s1.err = 0 ∧ s1.l ≠ [] then _ else _
              rw [if_pos ⟨HE1.out, HNL.out⟩, HEL.out, HEI.out]
            have hlx : sI.l.length ≤ s1.l.length := by have h1 := (ritem_suf s.length sL).length_le; rw [HEI.out, ← HEL.out, lim_l] at h1; exact h1
            have hlt : sI.err = 0 → sI.l.length + 1 ≤ s1.l.length := fun h => by have h1 := ritem_less HEI.out h; rw [← HEL.out, lim_l] at h1; exact h1
            have h2 := HI.out.2.1 HE1.out
            have h3 := HI.out.2.2.2.1 HE1.out
            have hkk := HKK.out
            have HI9 : Hid (RSt.items s.length k' sI (out ++ [x]) = RSt.items s.length (L.length + 2) ⟨L, 0, 0⟩ [] ∧ (sI.err = 0 → sI.l.length < k') ∧ (out ++ [x]).length + sI.l.length ≤ L.length + 1 ∧ (sI.err = 0 → (out ++ [x]).length + sI.l.length ≤ L.length) ∧ sI.l <:+ L) := Lib.hid ⟨hst, fun h => by have := hlt h; omega, by simp only [List.length_append, List.length_singleton]; omega, fun h => by have := hlt h; simp only [List.length_append, List.length_singleton]; omega, by have h1 := ritem_suf s.length sL; rw [HEI.out] at h1; exact h1.trans HLL.out⟩
            have HMU : Hid (muP X8 W12 < muP X8 wo) := Lib.hid (by rw [muP_eq HX8_12.out, muP_eq HX8.out, if_pos HE1.out]; by_cases h : sI.err = 0; (rw [if_pos h]; have := hlt h; omega); (rw [if_neg h]; omega))
            clear hst hlx hlt h2 h3 hkk
            have HSU : Hid (Suf ao cap L aoI capI sI.l) := Lib.hid ((HS1.out.trans HSL.out).trans HSI.out)
            refine ⟨?_, HMU.out⟩
            first | exact ⟨k', sI, aoI, capI, out ++ [x], lo9, lc9, HI9, HSU, HX8_12, HX10, HL10, KL_12⟩ | ((repeat apply Exists.intro); exact ⟨⟨k', sI, aoI, capI, out ++ [x], lo9, lc9, HI9, HSU, HX8_12, HX10, HL10, KL_12⟩, rfl⟩)
      · have q : ((s1.err : Int) == 0) = false := beq_eq_false_iff_ne.2 (by omega)
        have q2 : ((s1.err : Int) != 0) = true := bne_iff_ne.2 (by omega)
        have hps : RSt.parse s = ([], s1.err, (s1.at_ : Int)) := by
          have h1 := HI.out.1
          rw [Rl.items_err he] at h1
          rw [HPR.out _ h1.symm, if_pos he]
        have HPS := Lib.hid hps
        clear hps he
        have cX8_0 := HX8.out.cell (i := 0) rfl
        have cX8_1 := HX8.out.cell (i := 1) rfl
        have cX8_2 := HX8.out.cell (i := 2) rfl
        have cX8_3 := HX8.out.cell (i := 3) rfl
        go_upto_region 12 with fail
        clear q q2 cX8_0 cX8_1 cX8_2 cX8_3
        have MeX8_2 : X8 ∉ [X2] := by simp [NX8_X2]
        have MeX8_4 : X8 ∉ [X2] := by simp [NX8_X2]
        refine wp_region_held_drew (S := fun W' => Chg [X2] wo W') (by kernel_rfl) (Chg.refl _ _).drew (fun hHeld => ?_)
        refine wpAnyH_take (i := 0) (v := ?ve0) rfl (by kernel_rfl) (by kernel_rfl) (by kernel_rfl) (fun _ _ _ h => h) (Or.inl ⟨by kernel_rfl, ?hye0⟩) (by assumption) ?rse0
        case hye0 => (intro w9 hSw; skip; go_simp; try with_reducible rfl)
        try simp only [Act.put, List.setIfInBounds_toArray, List.set_cons_zero, List.set_cons_succ, List.getElem_toArray, List.getElem_cons_succ, List.getElem_cons_zero]
        refine wpAnyH_take (i := 1) (v := ?ve1) rfl (by kernel_rfl) (by kernel_rfl) (by kernel_rfl) (fun _ _ _ h => h) (Or.inl ⟨by kernel_rfl, ?hye1⟩) (by assumption) ?rse1
        case hye1 => (intro w9 hSw; skip; go_simp; try with_reducible rfl)
        try simp only [Act.put, List.setIfInBounds_toArray, List.set_cons_zero, List.set_cons_succ, List.getElem_toArray, List.getElem_cons_succ, List.getElem_cons_zero]
        refine wpAnyH_take (i := 2) (v := ?ve2) rfl (by kernel_rfl) (by kernel_rfl) (by kernel_rfl) (fun _ _ _ h => h) (Or.inl ⟨by kernel_rfl, ?hye2⟩) (by assumption) ?rse2
        case hye2 => (intro w9 hSw; have e0 := cell_quiet hSw (HX8.out.cell (i := 0) rfl) MeX8_2; have e1 := cell_quiet hSw (HX8.out.cell (i := 1) rfl) MeX8_2; have e2 := cell_quiet hSw (HX8.out.cell (i := 2) rfl) MeX8_2; have e3 := cell_quiet hSw (HX8.out.cell (i := 3) rfl) MeX8_2; go_simp; try with_reducible rfl)
        try simp only [Act.put, List.setIfInBounds_toArray, List.set_cons_zero, List.set_cons_succ, List.getElem_toArray, List.getElem_cons_succ, List.getElem_cons_zero]
        refine wpAnyH_take (i := 3) (v := ?ve3) rfl (by kernel_rfl) (by kernel_rfl) (by kernel_rfl) (fun _ _ _ h => h) (Or.inl ⟨by kernel_rfl, ?hye3⟩) (by assumption) ?rse3
        case hye3 => (intro w9 hSw; skip; go_simp; try with_reducible rfl)
        try simp only [Act.put, List.setIfInBounds_toArray, List.set_cons_zero, List.set_cons_succ, List.getElem_toArray, List.getElem_cons_succ, List.getElem_cons_zero]
        refine wpAnyH_take (i := 4) (v := ?ve4) rfl (by kernel_rfl) (by kernel_rfl) (by kernel_rfl) (fun _ _ _ h => h) (Or.inl ⟨by kernel_rfl, ?hye4⟩) (by assumption) ?rse4
        case hye4 => (intro w9 hSw; have e0 := cell_quiet hSw (HX8.out.cell (i := 0) rfl) MeX8_4; have e1 := cell_quiet hSw (HX8.out.cell (i := 1) rfl) MeX8_4; have e2 := cell_quiet hSw (HX8.out.cell (i := 2) rfl) MeX8_4; have e3 := cell_quiet hSw (HX8.out.cell (i := 3) rfl) MeX8_4; go_simp; try with_reducible rfl)
        try simp only [Act.put, List.setIfInBounds_toArray, List.set_cons_zero, List.set_cons_succ, List.getElem_toArray, List.getElem_cons_succ, List.getElem_cons_zero]
        obtain ⟨Ze0, hZ⟩ : ∃ Z, Z = wo.drew := ⟨_, rfl⟩
        rw [← hZ] at hHeld ⊢
        have QeX2_0 : Hid (Blk Ze0 X2 [.slice none 0 0] 25) := Lib.hid (by rw [hZ]; exact HX2_5.out.drew)
        clear hZ
        refine wpAnyH_ready (rs := [5]) (by kernel_rfl) (by simp) (AllReadyH.cons rfl (fun K hK => ?_) AllReadyH.nil)
        have x0 := QeX2_0.out.cell (i := 0) rfl
        have xf0 := QeX2_0.out.free 0
        go_simp
        refine hK.out _ _ (hHeld.setCell _ _ (.inl (by simp))) (fun hHeld => ?_)
        clear hK K x0 xf0
        try simp only [Act.put, List.setIfInBounds_toArray, List.set_cons_zero, List.set_cons_succ, List.getElem_toArray, List.getElem_cons_succ, List.getElem_cons_zero]
        obtain ⟨Ze1, hZ⟩ : ∃ Z, Z = (Ze0.setCell ⟨X2, 0, none⟩ (.slice none 0 0)) := ⟨_, rfl⟩
        rw [← hZ] at hHeld ⊢
        have QeX2_1 : Hid (Blk Ze1 X2 [.slice none 0 0] 25) := Lib.hid (by rw [hZ]; exact (QeX2_0.out.set 0 (.slice none 0 0)))
        clear hZ
        refine wpAnyH_take (i := 6) (v := ?ve6) rfl (by kernel_rfl) (by kernel_rfl) (by kernel_rfl) (fun _ _ _ h => h) (Or.inl ⟨by kernel_rfl, ?hye6⟩) (by assumption) ?rse6
        case hye6 => (intro w9 hSw; skip; go_simp; try with_reducible rfl)
        try simp only [Act.put, List.setIfInBounds_toArray, List.set_cons_zero, List.set_cons_succ, List.getElem_toArray, List.getElem_cons_succ, List.getElem_cons_zero]
        refine wpAnyH_take (i := 7) (v := ?ve7) rfl (by kernel_rfl) (by kernel_rfl) (by kernel_rfl) (fun _ _ _ h => h) (Or.inl ⟨by kernel_rfl, ?hye7⟩) (by assumption) ?rse7
        case hye7 => (intro w9 hSw; skip; go_simp; try with_reducible rfl)
        try simp only [Act.put, List.setIfInBounds_toArray, List.set_cons_zero, List.set_cons_succ, List.getElem_toArray, List.getElem_cons_succ, List.getElem_cons_zero]
        refine wpAnyH_done (by kernel_rfl) ?_ _
        try simp only [Act.put, List.setIfInBounds_toArray, List.set_cons_zero, List.set_cons_succ, List.getElem_toArray, List.getElem_cons_succ, List.getElem_cons_zero]
        have HH := Lib.hid hHeld
        clear hHeld
        go_wp2_with fail
        (try simp only [Exit.inBlock, Exit.then])
        have CF : Hid (Chg [] w Ze1) := Lib.hid (C5.out.trans HH.out (fun k hk => .inr (by have OX2_ := OX2.out; have OX8_ := OX8.out; have OX9_ := OX9.out; simp only [List.mem_cons, List.not_mem_nil, or_false] at hk; omega)))
        refine bodyPost_ret (results_row_tmps rfl _ (.int .i64 (s1.err : Int)) (.int .i64 (s1.at_ : Int)) rfl rfl _ X2 25 #[.slice none 0 0] (0, 0) _ rfl QeX2_1.out Tryd.underlying25 rfl (by kernel_rfl)) rfl ?_
        refine ⟨.slice none 0 0, ?_, ?_, CF.out⟩
        · rw [HPS.out]
        · rw [HPS.out]
          exact ListS.nil _ _ _ _ _
  · have q0 : ((E : Int) != 0) = true := bne_iff_ne.2 (by omega)
    have hps : RSt.parse s = ([], E, A) := by
      unfold RSt.parse
      rw [if_pos (by rw [← HLE.out.2.1]; exact hE0), ← HLE.out.2.1, ← HLE.out.2.2]
    have HPS := Lib.hid hps
    clear hps hE0
    have cX2_0 := HX2_2.out.cell (i := 0) rfl
    have cX2_f0 := HX2_2.out.free 0
    go_wp2_with fail
    clear q0 cX2_0 cX2_f0
    obtain ⟨W3, hW⟩ : ∃ W, W = (w1.setCell ⟨X2, 0, none⟩ (.slice none 0 0)) := ⟨_, rfl⟩
    rw [← hW]
    have HX2_3 : Hid (Blk W3 X2 [.slice none 0 0] 25) := Lib.hid (by rw [hW]; exact (HX2_2.out.set 0 (.slice none 0 0)))
    have C3 : Hid (Chg [] w W3) := Lib.hid (by rw [hW]; exact (C2.out.setCell _ _ (.inr (by have OX2_ := OX2.out; show w.heap.size ≤ X2; omega))))
    clear hW
    (try simp only [Exit.inBlock, Exit.then])
    refine bodyPost_ret (results_row_tmps rfl _ (.int .i64 (E : Int)) (.int .i64 A) rfl rfl _ X2 25 #[.slice none 0 0] (0, 0) _ rfl HX2_3.out Tryd.underlying25 rfl (by kernel_rfl)) rfl ?_
    refine ⟨.slice none 0 0, ?_, ?_, C3.out⟩
    · rw [HPS.out]
    · rw [HPS.out]
      exact ListS.nil _ _ _ _ _
end Go.Proofs.YtmfjebpefneboaaDoor

