/-
 Plan, the reference, layer 7: Parse. Printed by genpqg06.py.
-/
import Derived.Test.YtocadlcglgpdcaaDoorPqF
import Derived.Test.YtocadlcglgpdcaaDoorPqLu
import Derived.Test.YtocadlcglgpdcaaDoorLxP
namespace Go.Proofs.YtocadlcglgpdcaaDoor
set_option linter.unusedVariables false
set_option linter.unusedSimpArgs false
open Go Go.RowKit Go.Shelf
open Lx (Tk)
attribute [local go_sem ↓] Go.wp_at_zero Go.wp_at_succ
attribute [local irreducible] Go.wpStill
theorem results_row_tmps6 {P : Program} {fn : Func} {p q r : Tmp} {ty2 : TypeId} (h : fn.results = #[.cell q ty2, .tmp p, .tmp r]) (tmps : Array Value) (v u : Value) (hv : tmps.getD p undef = v) (hu : tmps.getD r undef = u) (w : World) (g2 : Nat) (t2 : TypeId) (cs2 : Array Value) (fr2 : Nat × Nat) (d2 : TypeDesc)
 (hq : tmps.getD q undef = .pointer (some ⟨g2, 0, none⟩)) (hg2 : w.heap[g2]? = some (.cells cs2 t2 fr2))
 (hu2 : P.underlying ty2 = some d2) (hd2 : (match d2 with | .struct _ | .array _ _ => true | _ => false) = true) (hi2 : (P.info? ty2).map (·.size) = some cs2.size) :
 (results fn tmps).run P w = .ok (.tuple #[.agg cs2, v, u]) w := by
 have hv' : tmps[p]?.getD undef = v := by simpa using hv
 have hu' : tmps[r]?.getD undef = u := by simpa using hu
 have hq' : tmps[q]?.getD undef = .pointer (some ⟨g2, 0, none⟩) := by simpa using hq
 simp [results, h, hv', hu', hq', asAddr, Sem.run_bind, Result.andThen, run_loadVar_row w g2 t2 ty2 cs2 fr2 d2 hg2 hu2 hd2 hi2]
theorem fin_mem6 : ∀ (l : List (Tk × Nat)) (k : Nat) (out : List Tk), ∀ t ∈ (Lx.fin k out l).1, t ∈ out ∨ ∃ x ∈ l, x.1 = t ∧ x.2 = 0
 | [], k, out, t, h => .inl h
 | (u, e) :: r, k, out, t, h => by
  unfold Lx.fin at h
  split at h
  · simp at h
  · rename_i he
    split at h
    · simp at h
    · rcases fin_mem6 r _ _ t h with h1 | ⟨x, h1, h2⟩
      · rcases List.mem_append.1 h1 with h2 | h2
        · exact .inl h2
        · exact .inr ⟨(u, e), by simp, (List.mem_singleton.1 h2).symm, by simpa using he⟩
      · exact .inr ⟨x, by simp [h1], h2⟩
theorem words_lex {s : Bytes} : ∀ t ∈ (Lx.lex s).1, ∀ b : Bytes, (Lx.tok b).1 = 1 → t.text = b → t.kind = 1 := fun t ht b hb he => by
 unfold Lx.lex at ht
 split at ht
 · simp at ht
 · rcases fin_mem6 _ _ _ t ht with h1 | ⟨x, h1, rfl, h2⟩
   · simp at h1
   · have h3 := Lx.sc_ones _ 0 s rfl x h1 h2
     have h4 := h3.tok [] (fun c r h => by cases h)
     rw [List.append_nil, he] at h4
     rw [h4] at hb
     exact hb
theorem wk_lex {x : Bytes} : ∀ t ∈ (Lx.lex x).1, Pn.Wk t := fun t ht b hb he => words_lex t ht b (by
 simp only [Pn.marksL, List.mem_cons, List.not_mem_nil, or_false] at hb
 rcases hb with rfl | rfl | rfl | rfl <;> decide) he
theorem wz_lex {x : Bytes} : ∀ t ∈ (Lx.lex x).1, Pn.Wz t := fun t ht b hb he => by
 rw [words_lex t ht b (by
  simp only [Pn.sortsL, List.mem_cons, List.not_mem_nil, or_false] at hb
  rcases hb with rfl | rfl | rfl | rfl | rfl <;> decide) he]
 decide
def Pn.hallB (l : List Tk) : Rl.Out Pn.Hl :=
 (Pn.must Pn.wHall l).bind fun _ l1 => (Pn.name l1).bind fun nm l2 => (Pn.must Pn.wStage l2).bind fun _ l3 => (Pn.num l3).bind fun x l4 => (Pn.num l4).bind fun y l5 => (Pn.must Pn.cOpen l5).bind fun _ l6 => (Pn.braced Pn.level l6).bind fun ls l7 => .ok ⟨nm, x, y, ls⟩ l7
theorem hall_B (l : List Tk) : Pn.hall l = (Pn.hallB l).bind fun h r => if r = [] then .ok h r else .bad 4 r := by
 unfold Pn.hall Pn.hallB Pn.num2
 simp only [Pn.bind_assoc]
 rfl
/-- With no error: the hall is there. -/
theorem fin_good {s : Bytes} {h : Pn.Hl} {q' : List Tk} {er' a' : Nat} (hr : RR Pn.hallB s.length (Lx.lex s).1 0 0 h q' er' a') (h0 : (Lx.lex s).2.1 = 0) (he : er' = 0) (hq : q' = []) : Pn.parse s = (h, 0, 0) := by
 unfold Pn.parse
 rw [if_neg (by rw [h0]; simp), hall_B]
 have h1 := hr.2 rfl
 cases hh : Pn.hallB (Lx.lex s).1 with
 | bad c r => rw [hh] at h1; exact absurd he h1.2.2
 | ok y r =>
  rw [hh] at h1
  obtain ⟨rfl, rfl, -⟩ := h1
  show Pn.fin s.length (if q' = [] then _ else _) = _
  rw [if_pos hq]
  rfl
/-- With tokens left behind the hall. -/
theorem fin_left {s : Bytes} {h : Pn.Hl} {q' : List Tk} {er' a' e2 a2 : Nat} (hr : RR Pn.hallB s.length (Lx.lex s).1 0 0 h q' er' a') (h0 : (Lx.lex s).2.1 = 0) (he : er' = 0) (hq : q' ≠ []) (hf : FR s.length q' er' a' e2 a2) : Pn.parse s = (Pn.hl0, e2, (a2 : Int)) ∧ e2 ≠ 0 := by
 obtain ⟨k1, k2⟩ := hf.2 he
 refine ⟨?_, by rw [k1]; exact code4_ne q'⟩
 unfold Pn.parse
 rw [if_neg (by rw [h0]; simp), hall_B]
 have h1 := hr.2 rfl
 cases hh : Pn.hallB (Lx.lex s).1 with
 | bad c r => rw [hh] at h1; exact absurd he h1.2.2
 | ok y r =>
  rw [hh] at h1
  obtain ⟨rfl, rfl, -⟩ := h1
  show Pn.fin s.length (if q' = [] then _ else _) = _
  rw [if_neg hq, k1, k2]
  rfl
/-- With an error. -/
theorem fin_bad {s : Bytes} {h : Pn.Hl} {q' : List Tk} {er' a' : Nat} (hr : RR Pn.hallB s.length (Lx.lex s).1 0 0 h q' er' a') (h0 : (Lx.lex s).2.1 = 0) (he : er' ≠ 0) : Pn.parse s = (Pn.hl0, er', (a' : Int)) := by
 unfold Pn.parse
 rw [if_neg (by rw [h0]; simp), hall_B]
 have h1 := hr.2 rfl
 cases hh : Pn.hallB (Lx.lex s).1 with
 | ok y r => rw [hh] at h1; exact absurd h1.2.2 he
 | bad c r =>
  rw [hh] at h1
  obtain ⟨k1, k2, -⟩ := h1
  rw [k1, k2]
  rfl
theorem rlevel_r {w : World} {b er a en : Nat} {q : List Tk} (HP : Hid (Rp w b q er a en)) (HWK : Hid (∀ t ∈ q, Pn.Wk t)) (HWZ : Hid (∀ t ∈ q, Pn.Wz t)) (B : Nat) (hB : B ≤ w.heap.size) {R : Ending → World → Prop}
 (h : ∀ (x : Pn.Lv) (s1 s2 s3 s4 s5 : Option Addr × Nat × Nat) (q' : List Tk) (er' a' : Nat) (w' : World), Hid (RR Pn.level en q er a x q' er' a') → Hid (Rp w' b q' er' a' en) → Hid (Chg [b] w w') → Hid (LvL B x (.slice s1.1 s1.2.1 s1.2.2) (.slice s2.1 s2.2.1 s2.2.2) (.slice s3.1 s3.2.1 s3.2.2) (.slice s4.1 s4.2.1 s4.2.2) (.slice s5.1 s5.2.1 s5.2.2) w') → R (.returned (.agg #[.string ⟨x.name.toArray⟩, .int .i64 (x.height : Nat), .slice s1.1 s1.2.1 s1.2.2, .slice s2.1 s2.2.1 s2.2.2, .slice s3.1 s3.2.1 s3.2.2, .slice s4.1 s4.2.1 s4.2.2, .slice s5.1 s5.2.1 s5.2.2, .int .i64 (x.at_ : Nat)])) w') :
 Calls Tryd.prog 30 #[.pointer (some ⟨b, 0, none⟩)] w R :=
 (rlevel_spec w b er a en q HP HWK HWZ).mono fun e w' hx => by
  obtain ⟨x, u1, u2, u3, u4, u5, q', er', a', rfl, h1, h2, h3, h4, -⟩ := hx
  obtain ⟨o1, c1, rfl⟩ := h4.1.form
  obtain ⟨o2, c2, rfl⟩ := h4.2.1.form
  obtain ⟨o3, c3, rfl⟩ := h4.2.2.1.form
  obtain ⟨o4, c4, rfl⟩ := h4.2.2.2.1.form
  obtain ⟨o5, c5, rfl⟩ := h4.2.2.2.2.form
  exact h x (o1, _, c1) (o2, _, c2) (o3, _, c3) (o4, _, c4) (o5, _, c5) q' er' a' w' (hd h1) (hd h2) (hd h3) (hd (h4.mono hB))
set_option maxHeartbeats 8000000 in
set_option maxRecDepth 100000 in
theorem refparse_spec (w : World) (s : Bytes) (hs : s.length ≤ 1000000) : Calls Tryd.prog 11 #[.string ⟨s.toArray⟩] w (Parsed w (Pn.parse s)) := by
 obtain ⟨il, hil, lz0, lz1, lz2⟩ := info_parts info_level
 obtain ⟨sb, hsb⟩ : ∃ sb : ByteArray, sb = ⟨s.toArray⟩ := ⟨_, rfl⟩
 have hsz : (sb.size : Int) = (s.length : Int) := by rw [hsb]; show ((s.toArray.size : Nat) : Int) = _; simp
 rw [← hsb]
 have HSB := hd hsb
 clear hsb
 go_enter Tryd.func11, Tryd.ntmps11
 go_upto_region 1 with fail
 obtain ⟨W0, hW⟩ : ∃ W, W = w.alloc (.cells #[.string ⟨#[]⟩, .int .i64 0, .int .i64 0, .slice none 0 0] 27) := ⟨_, rfl⟩
 rw [← hW]
 obtain ⟨X2, hX2⟩ : ∃ X, X = w.heap.size := ⟨_, rfl⟩
 try rw [← hX2]
 have HX2 : Hid (Blk W0 X2 [.string ⟨#[]⟩, .int .i64 0, .int .i64 0, .slice none 0 0] 27) := hd (by rw [hW, hX2]; exact Blk.new w _ _)
 have HC0 : Hid (Chg [] w W0) := hd (by rw [hW]; exact (Chg.refl _ _).alloc _)
 have HOX : Hid (w.heap.size ≤ X2) := hd (by omega)
 clear hW hX2
 go_wp2_with fail
 rw [HSB.out]
 refine (ref_spec _ s hs).mono ?_
 rintro e w1 ⟨v, rfl, ht, hc⟩
 rw [← HSB.out]
 obtain ⟨ao, cap, rfl⟩ := ht.frm
 have HT := hd ht
 have HC1 := hd hc
 have HX21 := hd (hc.blk HX2.out (by simp))
 obtain ⟨E, hE⟩ : ∃ E, (Lx.lex s).2.1 = E := ⟨_, rfl⟩
 obtain ⟨A, hA⟩ : ∃ A, (Lx.lex s).2.2 = A := ⟨_, rfl⟩
 rw [hE, hA]
 have HE := hd hE
 have HA := hd hA
 clear ht hc hE hA
 by_cases hE0 : E = 0
 · have q0 : ((E : Int) != 0) = false := by rw [hE0]; rfl
   have HE0 := hd (HE.out.trans hE0)
   clear hE0
   obtain ⟨L, hL⟩ : ∃ L, L = (Lx.lex s).1 := ⟨_, rfl⟩
   rw [← hL] at HT
   rw [← hL]
   have hll : L.length ≤ 5000 := by rw [hL]; exact Lx.lex_len s
   have HWK : Hid (∀ t ∈ L, Pn.Wk t) := hd (by rw [hL]; exact wk_lex)
   have HWZ : Hid (∀ t ∈ L, Pn.Wz t) := hd (by rw [hL]; exact wz_lex)
   have HLL := hd hL
   have HLN := hd hll
   clear hL hll
   go_upto_region 5 with fail
   obtain ⟨w3, hw3⟩ : ∃ W, W = w1.alloc (.cells #[.slice ao L.length cap, .int .i64 0, .int .i64 0, .int .i64 0, .int .i64 (s.length : Int)] 77) := ⟨_, rfl⟩
   rw [← hw3]
   obtain ⟨b, hb⟩ : ∃ X, X = w1.heap.size := ⟨_, rfl⟩
   try rw [← hb]
   have HBB : Hid (Blk w3 b [.slice ao L.length cap, .int .i64 0, .int .i64 0, .int .i64 0, .int .i64 (s.length : Int)] 77) := hd (by rw [hw3, hb]; exact Blk.new w1 _ _)
   have HC3 : Hid (Chg [] w1 w3) := hd (by rw [hw3]; exact (Chg.refl _ _).alloc _)
   have HX23 := hd (HC3.out.blk HX21.out (by simp))
   have HBW : Hid (b < w3.heap.size) := hd HBB.out.lt
   have HCW3 : Hid (Chg [] w w3) := hd ((HC0.out.trans HC1.out (by simp)).trans HC3.out (by simp))
   have HBO : Hid (w.heap.size ≤ b) := hd (by have h1 := (HC0.out.trans HC1.out (by simp)).size; omega)
   have N2b : X2 ≠ b := by have h1 := HX21.out.lt; omega
   obtain ⟨en, hen⟩ : ∃ en, en = s.length := ⟨_, rfl⟩
   have HEN := hd hen
   have HP : Hid (Rp w3 b L 0 0 en) := hd ⟨L, 0, ao, cap, rfl, Nat.zero_le _, by have h1 := HLN.out; omega, by rw [hen]; exact HBB.out, HT.out.keep HC3.out (fun _ _ _ h => by simp at h), fun hne ad had => by
    obtain ⟨g, off, rfl, hg⟩ := toks_lt HT.out hne
    cases had
    rw [hb]
    exact hg⟩
   have HX2L : Hid (X2 < w3.heap.size) := hd HX23.out.lt
   clear hw3 hb hen q0 hsz
   go_upto_region 6 with fail
   obtain ⟨W1, hW⟩ : ∃ W, W = (w3.alloc (.cells #[.string ⟨#[]⟩, .int .i64 0, .int .i64 0, .slice none 0 0] 27)) := ⟨_, rfl⟩
   rw [← hW]
   obtain ⟨X6, hX6⟩ : ∃ T, T = w3.heap.size := ⟨_, rfl⟩
   try rw [← hX6]
   have OX6 : Hid (w3.heap.size ≤ X6) := hd (by rw [hX6]; exact Nat.le_refl _)
   have HX6_1 : Hid (Blk W1 X6 [.string ⟨#[]⟩, .int .i64 0, .int .i64 0, .slice none 0 0] 27) := hd (by
    have h1 := Blk.new w3 [.string ⟨#[]⟩, .int .i64 0, .int .i64 0, .slice none 0 0] 27
    have h2 : w3.heap.size = X6 := by simp [hX6]
    rw [h2] at h1
    rw [hW]
    exact h1)
   have BX6 : Hid (b < X6) := hd (by have h1 := HBW.out; have OX6_ := OX6.out; omega)
   have C1 : Hid (Chg [b] w3 W1) := hd (by rw [hW]; exact ((Chg.refl [b] w3).alloc _))
   have KP_1 : Hid (Chg [] w3 W1) := hd (by rw [hW]; exact ((Chg.refl [] w3).alloc _))
   clear hW hX6
   go_wp2_with fail
   refine rmust_r (hd (HP.out.keep KP_1.out (by simp))) [104, 97, 108, 108] (fun q11 e11 a11 w11 HR11 HP11 HC11 => ?_)
   have NX6_b : X6 ≠ b := by have h1 := HBW.out; have OX6_ := OX6.out; omega
   have Nb_X6 : b ≠ X6 := NX6_b.symm
   have HX6_2 : Hid (Blk w11 X6 [.string ⟨#[]⟩, .int .i64 0, .int .i64 0, .slice none 0 0] 27) := hd (HC11.out.blk HX6_1.out (by simp [NX6_b]))
   have C2 := hd (C1.out.trans HC11.out (al1 (.inl (by simp))))
   go_wp2_with fail
   refine rname_r (hd HP11.out) (fun x12 q12 e12 a12 w12 HR12 HP12 HC12 => ?_)
   have HX6_3 := hd (HC12.out.blk HX6_2.out (by simp [NX6_b]))
   have C3 := hd (C2.out.trans HC12.out (al1 (.inl (by simp))))
   obtain ⟨cX6_0, cX6_1, cX6_2, cX6_3⟩ := HX6_3.out.c4
   obtain ⟨cX6_f0, cX6_f1, cX6_f2, cX6_f3⟩ := HX6_3.out.f4
   go_upto_region 8 with fail
   clear cX6_0 cX6_1 cX6_2 cX6_3 cX6_f0 cX6_f1 cX6_f2 cX6_f3
   obtain ⟨W4, hW⟩ : ∃ W, W = (w12.setCell ⟨X6, 0, none⟩ (.string ⟨x12.toArray⟩)) := ⟨_, rfl⟩
   rw [← hW]
   have HX6_4 : Hid (Blk W4 X6 [.string ⟨x12.toArray⟩, .int .i64 0, .int .i64 0, .slice none 0 0] 27) := hd (by rw [hW]; exact (HX6_3.out.set 0 (.string ⟨x12.toArray⟩)))
   have C4 := hd (C3.out.s1 hW (.inr (by have OX6_ := OX6.out; show w3.heap.size ≤ X6; omega)))
   have KP_4 := hd ((Chg.refl [X6] w12).s1 hW (.inl (by simp)))
   clear hW
   go_wp2_with fail
   refine rmust_r (hd (HP12.out.keep KP_4.out (al1 BX6.out))) [115, 116, 97, 103, 101] (fun q13 e13 a13 w13 HR13 HP13 HC13 => ?_)
   have HX6_5 := hd (HC13.out.blk HX6_4.out (by simp [NX6_b]))
   have C5 := hd (C4.out.trans HC13.out (al1 (.inl (by simp))))
   go_wp2_with fail
   refine rnum_r (hd HP13.out) (fun x4 q4 e4 a4 w4 HR4 HP4 HC4 => ?_)
   have HX6_6 := hd (HC4.out.blk HX6_5.out (by simp [NX6_b]))
   have C6 := hd (C5.out.trans HC4.out (al1 (.inl (by simp))))
   obtain ⟨cX6_0, cX6_1, cX6_2, cX6_3⟩ := HX6_6.out.c4
   obtain ⟨cX6_f0, cX6_f1, cX6_f2, cX6_f3⟩ := HX6_6.out.f4
   go_upto_region 10 with fail
   clear cX6_0 cX6_1 cX6_2 cX6_3 cX6_f0 cX6_f1 cX6_f2 cX6_f3
   obtain ⟨W7, hW⟩ : ∃ W, W = (w4.setCell ⟨X6, 1, none⟩ (.int .i64 (x4 : Nat))) := ⟨_, rfl⟩
   rw [← hW]
   have HX6_7 : Hid (Blk W7 X6 [.string ⟨x12.toArray⟩, .int .i64 (x4 : Nat), .int .i64 0, .slice none 0 0] 27) := hd (by rw [hW]; exact (HX6_6.out.set 1 (.int .i64 (x4 : Nat))))
   have C7 := hd (C6.out.s1 hW (.inr (by have OX6_ := OX6.out; show w3.heap.size ≤ X6; omega)))
   have KP_7 := hd ((Chg.refl [X6] w4).s1 hW (.inl (by simp)))
   clear hW
   go_wp2_with fail
   refine rnum_r (hd (HP4.out.keep KP_7.out (al1 BX6.out))) (fun x5 q5 e5 a5 w5 HR5 HP5 HC5 => ?_)
   have HX6_8 := hd (HC5.out.blk HX6_7.out (by simp [NX6_b]))
   have C8 := hd (C7.out.trans HC5.out (al1 (.inl (by simp))))
   obtain ⟨cX6_0, cX6_1, cX6_2, cX6_3⟩ := HX6_8.out.c4
   obtain ⟨cX6_f0, cX6_f1, cX6_f2, cX6_f3⟩ := HX6_8.out.f4
   go_upto_region 11 with fail
   clear cX6_0 cX6_1 cX6_2 cX6_3 cX6_f0 cX6_f1 cX6_f2 cX6_f3
   obtain ⟨W9, hW⟩ : ∃ W, W = (w5.setCell ⟨X6, 2, none⟩ (.int .i64 (x5 : Nat))) := ⟨_, rfl⟩
   rw [← hW]
   have HX6_9 : Hid (Blk W9 X6 [.string ⟨x12.toArray⟩, .int .i64 (x4 : Nat), .int .i64 (x5 : Nat), .slice none 0 0] 27) := hd (by rw [hW]; exact (HX6_8.out.set 2 (.int .i64 (x5 : Nat))))
   have C9 := hd (C8.out.s1 hW (.inr (by have OX6_ := OX6.out; show w3.heap.size ≤ X6; omega)))
   have KP_9 := hd ((Chg.refl [X6] w5).s1 hW (.inl (by simp)))
   clear hW
   go_wp2_with fail
   refine rmust_r (hd (HP5.out.keep KP_9.out (al1 BX6.out))) [123] (fun q6 e6 a6 w6 HR6 HP6 HC6 => ?_)
   have HX6_10 := hd (HC6.out.blk HX6_9.out (by simp [NX6_b]))
   have C10 := hd (C9.out.trans HC6.out (al1 (.inl (by simp))))
   have HP0 : Hid (Rp w6 b q6 e6 a6 en) := hd HP6.out
   have HSF : Hid (Sf L 0 q6 e6) := hd ((((((HR11.out.sf (Pn.nice_must _)).trans (HR12.out.sf Pn.nice_name)).trans (HR13.out.sf (Pn.nice_must _))).trans (HR4.out.sf Pn.nice_num)).trans (HR5.out.sf Pn.nice_num)).trans (HR6.out.sf (Pn.nice_must _)))
   have HRL := hd HP6.out.small
   have HXL : Hid (X6 < w6.heap.size) := hd HX6_10.out.lt
   have HWL : Hid (w3.heap.size ≤ w6.heap.size) := hd C10.out.size
   have HbL : Hid (b < w6.heap.size) := hd (Nat.lt_of_lt_of_le HBW.out HWL.out)
   go_wp2_with fail
   go_loopw [] (fun wr => ∃ (ls : List Pn.Lv) (q1 : List Tk) (er1 a1 : Nat) (vo : Option Addr) (vc : Nat), Hid (Blk wr X6 [.string ⟨x12.toArray⟩, .int .i64 (x4 : Nat), .int .i64 (x5 : Nat), .slice vo ls.length vc] 27) ∧ Hid (ListS w6.heap.size 47 8 (Clv w6.heap.size) ls (.slice vo ls.length vc) wr) ∧ Hid (Rp wr b q1 er1 a1 en) ∧ Hid (GLI Pn.level en q6 e6 a6 ls q1 er1 a1) ∧ Hid (Chg [b, X6] w6 wr)) (fun wr => mz b wr)
   case atStart => exact ⟨[], q6, e6, a6, none, 0, HX6_10, hd (ListS.nil _ _ _ _ _), HP0, hd (gli_start _ _ _ _ _), hd (Chg.refl _ _)⟩
   case round =>
    obtain ⟨ls, q1, er1, a1, vo, vc, HX6, HL1, HPq, HMI, HCL⟩ := hrel
    obtain ⟨wo, hwn⟩ : ∃ x, x = wr := ⟨_, rfl⟩
    subst hwn
    have C11 := hd (C10.out.trans HCL.out (al2 (.inl (by simp)) (.inr (by have OX6_ := OX6.out; show w3.heap.size ≤ X6; omega))))
    have KL_11 := hd ((Chg.refl [b, X6] w6).trans HCL.out (al2 (.inl (by simp)) (.inl (by simp))))
    have hmlr : ls.length ≤ 1000001 := by have h1 := HMI.out.2.2; have h2 := HRL.out; omega
    obtain ⟨nb, ib, aob, capb, hbb⟩ := HPq.out.any
    have cb2 := hbb.cell (i := 2) rfl
    clear hbb
    by_cases he : er1 = 0
    · have e0 : ((er1 : Int) == 0) = true := by rw [he]; rfl
      have HE := hd he
      clear he
      go_wp2_with fail
      refine sees_r (hd HPq.out) [125] (fun bo w21 HB HPs HCs => ?_)
      clear cb2 e0
      have HX6_12 : Hid (Blk w21 X6 [.string ⟨x12.toArray⟩, .int .i64 (x4 : Nat), .int .i64 (x5 : Nat), .slice vo ls.length vc] 27) := hd (HCs.out.blk HX6.out (by simp))
      have C12 := hd (C11.out.trans HCs.out (by simp))
      have KL_12 := hd (KL_11.out.trans HCs.out (by simp))
      have Ko_12 := hd ((Chg.refl [b, X6] wo).trans HCs.out (by simp))
      cases bo with
      | true =>
       go_wp2_with fail
       refine rmust_r (hd HPs.out) [125] (fun q9 e9 a9 w9 HR9 HP9 HC9 => ?_)
       have HX6_13 := hd (HC9.out.blk HX6_12.out (by simp [NX6_b]))
       have C13 := hd (C12.out.trans HC9.out (al1 (.inl (by simp))))
       have Ko_13 := hd (Ko_12.out.trans HC9.out (al1 (.inl (by simp))))
       have HRF := hd (gli_close HMI.out HE.out (sees_true HB.out).2 HR9.out)
       have HRH : Hid (RR Pn.hallB en L 0 0 (⟨x12, x4, x5, ls⟩ : Pn.Hl) q9 e9 a9) := hd (HR11.out.bind (HR12.out.bind (HR13.out.bind (HR4.out.bind (HR5.out.bind (HR6.out.bind (HRF.out.map (fun ls => (⟨x12, x4, x5, ls⟩ : Pn.Hl)))))))))
       rw [HEN.out, HLL.out] at HRH
       by_cases hz : e9 = 0
       · have y0 : ((e9 : Int) == 0) = true := by rw [hz]; rfl
         have HZ := hd hz
         clear hz
         by_cases hq : q9 = []
         · have HQ := hd hq
           obtain ⟨n7, i7, ao7, cap7, hb7⟩ := (HP9.out).any
           have hin : i7 = n7 := by
            obtain ⟨n8, ao8, cap8, hb8⟩ := (show Rp w9 b [] e9 a9 en by have h := HP9.out; rw [hq] at h; exact h).nil
            have h1 := hb7.cell (i := 0) rfl
            have h2 := hb8.cell (i := 0) rfl
            have h3 := hb7.cell (i := 1) rfl
            have h4 := hb8.cell (i := 1) rfl
            rw [h1] at h2
            rw [h3] at h4
            cases h2
            have h5 : ((i7 : Nat) : Int) = ((n7 : Nat) : Int) := by injection (Option.some.inj h4)
            omega
           subst hin
           have d0 := hb7.cell (i := 0) rfl
           have d1 := hb7.cell (i := 1) rfl
           have d2 := hb7.cell (i := 2) rfl
           have y1 : ¬ ((i7 : Nat) : Int) < ((i7 : Nat) : Int) := by omega
           clear hq hb7
           go_upto_region 15 with fail
           go_quiet (fail)
           clear d0 d1
           obtain ⟨v7, hv7⟩ : ∃ V, V = w9.drewN nq := ⟨_, rfl⟩
           try rw [← hv7]
           have HC7 : Hid (Chg [] w9 v7) := hd (by rw [hv7]; exact chg_drewN _ _)
           clear hv7
           have HX6_14 := hd (HC7.out.blk HX6_13.out (by simp))
           have C14 := hd (C13.out.trans HC7.out (by simp))
           have Ko_14 := hd (Ko_13.out.trans HC7.out (by simp))
           have KP_14 := hd ((Chg.refl [X6] w9).trans HC7.out (by simp))
           obtain ⟨n9, i9, ao9, cap9, hb9⟩ := ((HP9.out.keep KP_14.out (al1 BX6.out))).any
           have d2' := hb9.cell (i := 2) rfl
           clear d2 hb9
           have y2 : ((e9 : Int) != 0) = false := by rw [HZ.out]; rfl
           have HPS : Hid (Pn.parse s = (⟨x12, x4, x5, ls⟩, 0, 0)) := hd (fin_good HRH.out HE0.out HZ.out HQ.out)
           have HX2c : Hid (Blk v7 X2 [.string ⟨#[]⟩, .int .i64 0, .int .i64 0, .slice none 0 0] 27) := hd (C14.out.blk HX23.out (by simp [N2b]))
           obtain ⟨cX6_0, cX6_1, cX6_2, cX6_3⟩ := HX6_14.out.c4
           have f20 := HX2c.out.free 0
           have g20 := HX2c.out.cell (i := 0) rfl
           have f21 := HX2c.out.free 1
           have g21 := HX2c.out.cell (i := 1) rfl
           have f22 := HX2c.out.free 2
           have g22 := HX2c.out.cell (i := 2) rfl
           have f23 := HX2c.out.free 3
           have g23 := HX2c.out.cell (i := 3) rfl
           go_wp2_with fail
           (try simp only [Exit.inBlock, Exit.then])
           have HX2f : Hid (Blk ((((v7.setCell ⟨X2, 0, none⟩ (.string ⟨x12.toArray⟩)).setCell ⟨X2, 1, none⟩ (.int .i64 (x4 : Nat))).setCell ⟨X2, 2, none⟩ (.int .i64 (x5 : Nat))).setCell ⟨X2, 3, none⟩ (.slice vo ls.length vc)) X2 [.string ⟨x12.toArray⟩, .int .i64 (x4 : Nat), .int .i64 (x5 : Nat), .slice vo ls.length vc] 27) := hd ((((HX2c.out.set 0 _).set 1 _).set 2 _).set 3 _)
           have HCf : Hid (Chg [X2] v7 ((((v7.setCell ⟨X2, 0, none⟩ (.string ⟨x12.toArray⟩)).setCell ⟨X2, 1, none⟩ (.int .i64 (x4 : Nat))).setCell ⟨X2, 2, none⟩ (.int .i64 (x5 : Nat))).setCell ⟨X2, 3, none⟩ (.slice vo ls.length vc))) := hd (((((Chg.refl _ _).setCell _ _ (.inl (by simp))).setCell _ _ (.inl (by simp))).setCell _ _ (.inl (by simp))).setCell _ _ (.inl (by simp)))
           have HLf : Hid (ListS w.heap.size 47 8 (Clv w.heap.size) ls (.slice vo ls.length vc) ((((v7.setCell ⟨X2, 0, none⟩ (.string ⟨x12.toArray⟩)).setCell ⟨X2, 1, none⟩ (.int .i64 (x4 : Nat))).setCell ⟨X2, 2, none⟩ (.int .i64 (x5 : Nat))).setCell ⟨X2, 3, none⟩ (.slice vo ls.length vc))) := hd ((((HL1.out.keep (kp_lv _) Ko_14.out (TyB.lower (by intro z hz; simp only [List.mem_cons, List.not_mem_nil, or_false] at hz; rcases hz with h9 | h9; (rw [h9]; exact HbL.out); (rw [h9]; exact HXL.out)) _)).keep (kp_lv _) HCf.out (TyB.lower (by intro z hz; simp only [List.mem_cons, List.not_mem_nil, or_false] at hz; rw [hz]; exact Nat.lt_of_lt_of_le HX2L.out HWL.out) _)).mono (Nat.le_trans HCW3.out.size HWL.out) (mono_lv (Nat.le_trans HCW3.out.size HWL.out))))
           have HCF : Hid (Chg [] w ((((v7.setCell ⟨X2, 0, none⟩ (.string ⟨x12.toArray⟩)).setCell ⟨X2, 1, none⟩ (.int .i64 (x4 : Nat))).setCell ⟨X2, 2, none⟩ (.int .i64 (x5 : Nat))).setCell ⟨X2, 3, none⟩ (.slice vo ls.length vc))) := hd ((HCW3.out.trans C14.out (fun k hk => .inr (by simp only [List.mem_cons, List.not_mem_nil, or_false] at hk; rw [hk]; exact HBO.out))).trans HCf.out (fun k hk => .inr (by simp only [List.mem_cons, List.not_mem_nil, or_false] at hk; rw [hk]; exact HOX.out)))
           refine bodyPost_ret (results_row_tmps6 rfl _ (.int .i64 0) (.int .i64 0) rfl rfl _ X2 27 #[.string ⟨x12.toArray⟩, .int .i64 (x4 : Nat), .int .i64 (x5 : Nat), .slice vo ls.length vc] (0, 0) _ rfl HX2f.out Tryd.underlying27 rfl (by kernel_rfl)) rfl ⟨.slice vo ls.length vc, by rw [HPS.out]; rfl, by rw [HPS.out]; exact HLf.out, HCF.out⟩
         · have HQ := hd hq
           obtain ⟨t7, r7, hq7⟩ := List.exists_cons_of_ne_nil hq
           obtain ⟨n7, i7, g7, off7, cap7, hi7, hn7, hb7, -⟩ := (show Rp w9 b (t7 :: r7) e9 a9 en by have h := HP9.out; rw [hq7] at h; exact h).cons
           have d0 := hb7.cell (i := 0) rfl
           have d1 := hb7.cell (i := 1) rfl
           have d2 := hb7.cell (i := 2) rfl
           have y1 : ((i7 : Nat) : Int) < ((n7 : Nat) : Int) := by omega
           clear hq hb7 hq7 hn7
           go_upto_region 15 with fail
           go_quiet (fail)
           clear d0 d1 d2
           obtain ⟨v7, hv7⟩ : ∃ V, V = w9.drewN nq := ⟨_, rfl⟩
           try rw [← hv7]
           have HC7 : Hid (Chg [] w9 v7) := hd (by rw [hv7]; exact chg_drewN _ _)
           clear hv7
           have C14 := hd (C13.out.trans HC7.out (by simp))
           have KP_14 := hd ((Chg.refl [X6] w9).trans HC7.out (by simp))
           go_wp2_with fail
           refine rfail_r (hd (HP9.out.keep KP_14.out (al1 BX6.out))) (fun e8 a8 w8 HF8 HP8 HC8 => ?_)
           clear y1
           have C15 := hd (C14.out.trans HC8.out (al1 (.inl (by simp))))
           obtain ⟨hp8, hn8⟩ := fin_left HRH.out HE0.out HZ.out HQ.out (by have h := HF8.out; rw [HEN.out] at h; exact h)
           have HPS := hd hp8
           have y2 : ((e8 : Int) != 0) = true := bne_iff_ne.2 (by omega)
           have HNZ := hd hn8
           clear hp8 hn8
           have HX2c : Hid (Blk w8 X2 [.string ⟨#[]⟩, .int .i64 0, .int .i64 0, .slice none 0 0] 27) := hd (C15.out.blk HX23.out (by simp [N2b]))
           obtain ⟨n9, i9, ao9, cap9, hb9⟩ := (HP8.out).any
           have d2 := hb9.cell (i := 2) rfl
           have HB9 := hd hb9
           clear hb9
           go_upto_region 18 with fail
           clear d2 y2
           refine wp_region_held_drew (S := fun W' => Chg [X2] w8 W') (by kernel_rfl) (Chg.refl _ _).drew (fun hHeld => ?_)
           refine tk 0 (v := ?vz1_0) rfl (by kernel_rfl) (fun _ _ _ h => h) ?hyz1_0 (by assumption) ?rsz1_0
           case hyz1_0 => (intro w9 hSw; go_simp; try with_reducible rfl)
           try simp only [qq, qr]
           refine tk 1 (v := ?vz1_1) rfl (by kernel_rfl) (fun _ _ _ h => h) ?hyz1_1 (by assumption) ?rsz1_1
           case hyz1_1 => (intro w9 hSw; go_simp; try with_reducible rfl)
           try simp only [qq, qr]
           refine tk 2 (v := ?vz1_2) rfl (by kernel_rfl) (fun _ _ _ h => h) ?hyz1_2 (by assumption) ?rsz1_2
           case hyz1_2 => (intro w9 hSw; go_simp; try with_reducible rfl)
           try simp only [qq, qr]
           refine tk 3 (v := ?vz1_3) rfl (by kernel_rfl) (fun _ _ _ h => h) ?hyz1_3 (by assumption) ?rsz1_3
           case hyz1_3 => (intro w9 hSw; go_simp; try with_reducible rfl)
           try simp only [qq, qr]
           refine tk 4 (v := ?vz1_4) rfl (by kernel_rfl) (fun _ _ _ h => h) ?hyz1_4 (by assumption) ?rsz1_4
           case hyz1_4 => (intro w9 hSw; have d2 := cell_quiet hSw (HB9.out.cell (i := 2) rfl) (by simp [N2b.symm]); have d3 := cell_quiet hSw (HB9.out.cell (i := 3) rfl) (by simp [N2b.symm]); go_simp; try with_reducible rfl)
           try simp only [qq, qr]
           refine tk 5 (v := ?vz1_5) rfl (by kernel_rfl) (fun _ _ _ h => h) ?hyz1_5 (by assumption) ?rsz1_5
           case hyz1_5 => (intro w9 hSw; go_simp; try with_reducible rfl)
           try simp only [qq, qr]
           refine tk 6 (v := ?vz1_6) rfl (by kernel_rfl) (fun _ _ _ h => h) ?hyz1_6 (by assumption) ?rsz1_6
           case hyz1_6 => (intro w9 hSw; go_simp; try with_reducible rfl)
           try simp only [qq, qr]
           refine tk 7 (v := ?vz1_7) rfl (by kernel_rfl) (fun _ _ _ h => h) ?hyz1_7 (by assumption) ?rsz1_7
           case hyz1_7 => (intro w9 hSw; go_simp; try with_reducible rfl)
           try simp only [qq, qr]
           refine tk 8 (v := ?vz1_8) rfl (by kernel_rfl) (fun _ _ _ h => h) ?hyz1_8 (by assumption) ?rsz1_8
           case hyz1_8 => (intro w9 hSw; have d2 := cell_quiet hSw (HB9.out.cell (i := 2) rfl) (by simp [N2b.symm]); have d3 := cell_quiet hSw (HB9.out.cell (i := 3) rfl) (by simp [N2b.symm]); go_simp; try with_reducible rfl)
           try simp only [qq, qr]
           obtain ⟨Z0, hZ⟩ : ∃ Z, Z = w8.drew := ⟨_, rfl⟩
           rw [← hZ] at hHeld ⊢
           have HX2z : Hid (Blk Z0 X2 [.string ⟨#[]⟩, .int .i64 0, .int .i64 0, .slice none 0 0] 27) := hd (by rw [hZ]; exact HX2c.out.drew)
           clear hZ
           refine rd1 9 (by kernel_rfl) rfl (fun K hK => ?_)
           have f20 := HX2z.out.free 0
           have g20 := HX2z.out.cell (i := 0) rfl
           have f21 := HX2z.out.free 1
           have g21 := HX2z.out.cell (i := 1) rfl
           have f22 := HX2z.out.free 2
           have g22 := HX2z.out.cell (i := 2) rfl
           have f23 := HX2z.out.free 3
           have g23 := HX2z.out.cell (i := 3) rfl
           go_simp
           refine hK.out _ _ ((((hHeld.setCell _ _ (.inl (by simp))).setCell _ _ (.inl (by simp))).setCell _ _ (.inl (by simp))).setCell _ _ (.inl (by simp))) (fun hHeld => ?_)
           clear hK K f20 g20 f21 g21 f22 g22 f23 g23
           try simp only [qq, qr]
           refine tk 10 (v := ?vz1_10) rfl (by kernel_rfl) (fun _ _ _ h => h) ?hyz1_10 (by assumption) ?rsz1_10
           case hyz1_10 => (intro w9 hSw; go_simp; try with_reducible rfl)
           try simp only [qq, qr]
           refine tk 11 (v := ?vz1_11) rfl (by kernel_rfl) (fun _ _ _ h => h) ?hyz1_11 (by assumption) ?rsz1_11
           case hyz1_11 => (intro w9 hSw; go_simp; try with_reducible rfl)
           try simp only [qq, qr]
           refine wpAnyH_done (by kernel_rfl) ?_ _
           try simp only [qq, qr]
           have HCf := hd hHeld
           clear hHeld
           go_wp2_with fail
           (try simp only [Exit.inBlock, Exit.then])
           have HX2f : Hid (Blk ((((Z0.setCell ⟨X2, 0, none⟩ (.string ⟨#[]⟩)).setCell ⟨X2, 1, none⟩ (.int .i64 0)).setCell ⟨X2, 2, none⟩ (.int .i64 0)).setCell ⟨X2, 3, none⟩ (.slice none 0 0)) X2 [.string ⟨#[]⟩, .int .i64 0, .int .i64 0, .slice none 0 0] 27) := hd ((((HX2z.out.set 0 _).set 1 _).set 2 _).set 3 _)
           have HCF : Hid (Chg [] w ((((Z0.setCell ⟨X2, 0, none⟩ (.string ⟨#[]⟩)).setCell ⟨X2, 1, none⟩ (.int .i64 0)).setCell ⟨X2, 2, none⟩ (.int .i64 0)).setCell ⟨X2, 3, none⟩ (.slice none 0 0))) := hd ((HCW3.out.trans C15.out (fun k hk => .inr (by simp only [List.mem_cons, List.not_mem_nil, or_false] at hk; rw [hk]; exact HBO.out))).trans HCf.out (fun k hk => .inr (by simp only [List.mem_cons, List.not_mem_nil, or_false] at hk; rw [hk]; exact HOX.out)))
           refine bodyPost_ret (results_row_tmps6 rfl _ (.int .i64 (e8 : Nat)) (.int .i64 (a8 : Nat)) rfl rfl _ X2 27 #[.string ⟨#[]⟩, .int .i64 0, .int .i64 0, .slice none 0 0] (0, 0) _ rfl HX2f.out Tryd.underlying27 rfl (by kernel_rfl)) rfl ⟨.slice none 0 0, by rw [HPS.out]; rfl, by rw [HPS.out]; exact ListS.nil _ _ _ _ _, HCF.out⟩
       · have y0 : ((e9 : Int) == 0) = false := beq_eq_false_iff_ne.2 (by omega)
         have y2 : ((e9 : Int) != 0) = true := bne_iff_ne.2 (by omega)
         have HPS := hd (fin_bad HRH.out HE0.out hz)
         have HNZ := hd hz
         clear hz
         obtain ⟨n7, i7, ao7, cap7, hb7⟩ := (HP9.out).any
         have d2 := hb7.cell (i := 2) rfl
         clear hb7
         go_upto_region 15 with fail
         go_quiet (fail)
         clear d2
         obtain ⟨v7, hv7⟩ : ∃ V, V = w9.drewN nq := ⟨_, rfl⟩
         try rw [← hv7]
         have HC7 : Hid (Chg [] w9 v7) := hd (by rw [hv7]; exact chg_drewN _ _)
         clear hv7
         have C14 := hd (C13.out.trans HC7.out (by simp))
         have KP_14 := hd ((Chg.refl [X6] w9).trans HC7.out (by simp))
         have HX2c : Hid (Blk v7 X2 [.string ⟨#[]⟩, .int .i64 0, .int .i64 0, .slice none 0 0] 27) := hd (C14.out.blk HX23.out (by simp [N2b]))
         obtain ⟨n9, i9, ao9, cap9, hb9⟩ := ((HP9.out.keep KP_14.out (al1 BX6.out))).any
         have d2 := hb9.cell (i := 2) rfl
         have HB9 := hd hb9
         clear hb9
         go_upto_region 18 with fail
         clear d2 y2
         refine wp_region_held_drew (S := fun W' => Chg [X2] v7 W') (by kernel_rfl) (Chg.refl _ _).drew (fun hHeld => ?_)
         refine tk 0 (v := ?vz2_0) rfl (by kernel_rfl) (fun _ _ _ h => h) ?hyz2_0 (by assumption) ?rsz2_0
         case hyz2_0 => (intro w9 hSw; go_simp; try with_reducible rfl)
         try simp only [qq, qr]
         refine tk 1 (v := ?vz2_1) rfl (by kernel_rfl) (fun _ _ _ h => h) ?hyz2_1 (by assumption) ?rsz2_1
         case hyz2_1 => (intro w9 hSw; go_simp; try with_reducible rfl)
         try simp only [qq, qr]
         refine tk 2 (v := ?vz2_2) rfl (by kernel_rfl) (fun _ _ _ h => h) ?hyz2_2 (by assumption) ?rsz2_2
         case hyz2_2 => (intro w9 hSw; go_simp; try with_reducible rfl)
         try simp only [qq, qr]
         refine tk 3 (v := ?vz2_3) rfl (by kernel_rfl) (fun _ _ _ h => h) ?hyz2_3 (by assumption) ?rsz2_3
         case hyz2_3 => (intro w9 hSw; go_simp; try with_reducible rfl)
         try simp only [qq, qr]
         refine tk 4 (v := ?vz2_4) rfl (by kernel_rfl) (fun _ _ _ h => h) ?hyz2_4 (by assumption) ?rsz2_4
         case hyz2_4 => (intro w9 hSw; have d2 := cell_quiet hSw (HB9.out.cell (i := 2) rfl) (by simp [N2b.symm]); have d3 := cell_quiet hSw (HB9.out.cell (i := 3) rfl) (by simp [N2b.symm]); go_simp; try with_reducible rfl)
         try simp only [qq, qr]
         refine tk 5 (v := ?vz2_5) rfl (by kernel_rfl) (fun _ _ _ h => h) ?hyz2_5 (by assumption) ?rsz2_5
         case hyz2_5 => (intro w9 hSw; go_simp; try with_reducible rfl)
         try simp only [qq, qr]
         refine tk 6 (v := ?vz2_6) rfl (by kernel_rfl) (fun _ _ _ h => h) ?hyz2_6 (by assumption) ?rsz2_6
         case hyz2_6 => (intro w9 hSw; go_simp; try with_reducible rfl)
         try simp only [qq, qr]
         refine tk 7 (v := ?vz2_7) rfl (by kernel_rfl) (fun _ _ _ h => h) ?hyz2_7 (by assumption) ?rsz2_7
         case hyz2_7 => (intro w9 hSw; go_simp; try with_reducible rfl)
         try simp only [qq, qr]
         refine tk 8 (v := ?vz2_8) rfl (by kernel_rfl) (fun _ _ _ h => h) ?hyz2_8 (by assumption) ?rsz2_8
         case hyz2_8 => (intro w9 hSw; have d2 := cell_quiet hSw (HB9.out.cell (i := 2) rfl) (by simp [N2b.symm]); have d3 := cell_quiet hSw (HB9.out.cell (i := 3) rfl) (by simp [N2b.symm]); go_simp; try with_reducible rfl)
         try simp only [qq, qr]
         obtain ⟨Z0, hZ⟩ : ∃ Z, Z = v7.drew := ⟨_, rfl⟩
         rw [← hZ] at hHeld ⊢
         have HX2z : Hid (Blk Z0 X2 [.string ⟨#[]⟩, .int .i64 0, .int .i64 0, .slice none 0 0] 27) := hd (by rw [hZ]; exact HX2c.out.drew)
         clear hZ
         refine rd1 9 (by kernel_rfl) rfl (fun K hK => ?_)
         have f20 := HX2z.out.free 0
         have g20 := HX2z.out.cell (i := 0) rfl
         have f21 := HX2z.out.free 1
         have g21 := HX2z.out.cell (i := 1) rfl
         have f22 := HX2z.out.free 2
         have g22 := HX2z.out.cell (i := 2) rfl
         have f23 := HX2z.out.free 3
         have g23 := HX2z.out.cell (i := 3) rfl
         go_simp
         refine hK.out _ _ ((((hHeld.setCell _ _ (.inl (by simp))).setCell _ _ (.inl (by simp))).setCell _ _ (.inl (by simp))).setCell _ _ (.inl (by simp))) (fun hHeld => ?_)
         clear hK K f20 g20 f21 g21 f22 g22 f23 g23
         try simp only [qq, qr]
         refine tk 10 (v := ?vz2_10) rfl (by kernel_rfl) (fun _ _ _ h => h) ?hyz2_10 (by assumption) ?rsz2_10
         case hyz2_10 => (intro w9 hSw; go_simp; try with_reducible rfl)
         try simp only [qq, qr]
         refine tk 11 (v := ?vz2_11) rfl (by kernel_rfl) (fun _ _ _ h => h) ?hyz2_11 (by assumption) ?rsz2_11
         case hyz2_11 => (intro w9 hSw; go_simp; try with_reducible rfl)
         try simp only [qq, qr]
         refine wpAnyH_done (by kernel_rfl) ?_ _
         try simp only [qq, qr]
         have HCf := hd hHeld
         clear hHeld
         go_wp2_with fail
         (try simp only [Exit.inBlock, Exit.then])
         have HX2f : Hid (Blk ((((Z0.setCell ⟨X2, 0, none⟩ (.string ⟨#[]⟩)).setCell ⟨X2, 1, none⟩ (.int .i64 0)).setCell ⟨X2, 2, none⟩ (.int .i64 0)).setCell ⟨X2, 3, none⟩ (.slice none 0 0)) X2 [.string ⟨#[]⟩, .int .i64 0, .int .i64 0, .slice none 0 0] 27) := hd ((((HX2z.out.set 0 _).set 1 _).set 2 _).set 3 _)
         have HCF : Hid (Chg [] w ((((Z0.setCell ⟨X2, 0, none⟩ (.string ⟨#[]⟩)).setCell ⟨X2, 1, none⟩ (.int .i64 0)).setCell ⟨X2, 2, none⟩ (.int .i64 0)).setCell ⟨X2, 3, none⟩ (.slice none 0 0))) := hd ((HCW3.out.trans C14.out (fun k hk => .inr (by simp only [List.mem_cons, List.not_mem_nil, or_false] at hk; rw [hk]; exact HBO.out))).trans HCf.out (fun k hk => .inr (by simp only [List.mem_cons, List.not_mem_nil, or_false] at hk; rw [hk]; exact HOX.out)))
         refine bodyPost_ret (results_row_tmps6 rfl _ (.int .i64 (e9 : Nat)) (.int .i64 (a9 : Nat)) rfl rfl _ X2 27 #[.string ⟨#[]⟩, .int .i64 0, .int .i64 0, .slice none 0 0] (0, 0) _ rfl HX2f.out Tryd.underlying27 rfl (by kernel_rfl)) rfl ⟨.slice none 0 0, by rw [HPS.out]; rfl, by rw [HPS.out]; exact ListS.nil _ _ _ _ _, HCF.out⟩
      | false =>
       have HNS : Hid (Pn.isw Pn.cClose q1 = false) := hd (by have h1 := HB.out; unfold seesB at h1; simp [HE.out] at h1; exact h1)
       have HWQ : Hid (∀ t ∈ q1, Pn.Wk t) := hd (by obtain ⟨h1, h2⟩ := (HSF.out.trans (gli_suf HMI.out)) HE.out; exact fun t ht => HWK.out t (h2.subset ht))
       have HWY : Hid (∀ t ∈ q1, Pn.Wz t) := hd (by obtain ⟨h1, h2⟩ := (HSF.out.trans (gli_suf HMI.out)) HE.out; exact fun t ht => HWZ.out t (h2.subset ht))
       have HL3 : Hid (ListS w6.heap.size 47 8 (Clv w6.heap.size) ls (.slice vo ls.length vc) w21) := hd (HL1.out.keep (kp_lv _) Ko_12.out (TyB.lower (by intro z hz; simp only [List.mem_cons, List.not_mem_nil, or_false] at hz; rcases hz with h9 | h9; (rw [h9]; exact HbL.out); (rw [h9]; exact HXL.out)) _))
       go_upto_region 13 with fail
       refine wp_region_held_drew (S := fun W' => True) (by kernel_rfl) trivial (fun hHeld => ?_)
       refine tk 0 (v := ?vr0) rfl (by kernel_rfl) (fun _ _ _ h => h) ?hyr0 (by assumption) ?rsr0
       case hyr0 => (intro w9 hSw; go_simp; try with_reducible rfl)
       try simp only [qq, qr]
       refine tk 2 (v := ?vr2) rfl (by kernel_rfl) (fun _ _ _ h => h) ?hyr2 (by assumption) ?rsr2
       case hyr2 => (intro w9 hSw; go_simp; try with_reducible rfl)
       try simp only [qq, qr]
       refine rd2 1 3 (by kernel_rfl) rfl rfl (fun K hK => ?_) (fun K hK => ?_)
       · have x0 := (HX6_12.out.drew).cell (i := 3) rfl
         go_simp
         refine hK.out _ _ trivial (fun _ => ?_)
         clear hK K
         try simp only [qq, qr]
         clear x0
         refine rd1 3 (by kernel_rfl) rfl (fun K hK => ?_)
         go_simp
         refine rlevel_r (hd (Rp.quiet HPs.out (Chg.refl _ _).drew)) HWQ HWY w6.heap.size (Nat.le_trans KL_12.out.size (Nat.le_refl _)) (fun x s1 s2 s3 s4 s5 q7 er7 a7 wx HRx HPx HCd HUx => ?_)
         have HCx : Hid (Chg [b] w21 wx) := hd (Chg.ofDrew HCd.out)
         have HX6_13 := hd (HCx.out.blk HX6_12.out (by simp [NX6_b]))
         refine hK.out _ _ trivial (fun _ => ?_)
         clear hK K
         try simp only [qq, qr]
         refine rd1 4 (by kernel_rfl) rfl (fun K hK => ?_)
         go_simp
         refine hK.out _ _ trivial (fun _ => ?_)
         clear hK K
         try simp only [qq, qr]
         refine rd1 5 (by kernel_rfl) rfl (fun K hK => ?_)
         have HLk : Hid (ListS w6.heap.size 47 8 (Clv w6.heap.size) ls (.slice vo ls.length vc) (wx.alloc (.cells #[.string ⟨x.name.toArray⟩, .int .i64 (x.height : Nat), .slice s1.1 s1.2.1 s1.2.2, .slice s2.1 s2.2.1 s2.2.2, .slice s3.1 s3.2.1 s3.2.2, .slice s4.1 s4.2.1 s4.2.2, .slice s5.1 s5.2.1 s5.2.2, .int .i64 (x.at_ : Nat)] 47))) := hd ((HL3.out.keep (kp_lv _) HCx.out (TyB.lower (by intro z hz; simp only [List.mem_cons, List.not_mem_nil, or_false] at hz; rw [hz]; exact HbL.out) _)).keep (kp_lv _) ((Chg.refl [] _).alloc _) (TyB.nil _ _ _))
         have hcb : Hid (Chg [b, X6] w6 (wx.alloc (.cells #[.string ⟨x.name.toArray⟩, .int .i64 (x.height : Nat), .slice s1.1 s1.2.1 s1.2.2, .slice s2.1 s2.2.1 s2.2.2, .slice s3.1 s3.2.1 s3.2.2, .slice s4.1 s4.2.1 s4.2.2, .slice s5.1 s5.2.1 s5.2.2, .int .i64 (x.at_ : Nat)] 47))) := hd ((KL_12.out.trans HCx.out (fun k hk => .inl (by simp at hk; simp [hk]))).alloc _)
         refine step_snoc rfl (.tmp 55) (.tmp 58) 25 rfl 47 il _ 8 152 Tryd.underlying25 hil lz0 lz1 lz2 rfl (by decide) (C := Clv w6.heap.size) (Es := [51, 54, 64, 58, 56, 24]) (.slice vo ls.length vc) ls.length rfl HLk.out rfl (kp_lv _) (by decide) x [.string ⟨x.name.toArray⟩, .int .i64 (x.height : Nat), .slice s1.1 s1.2.1 s1.2.2, .slice s2.1 s2.2.1 s2.2.2, .slice s3.1 s3.2.1 s3.2.2, .slice s4.1 s4.2.1 s4.2.2, .slice s5.1 s5.2.1 s5.2.2, .int .i64 (x.at_ : Nat)] ⟨_, _, _, _, _, rfl, HUx.out.keep ((Chg.refl [] _).alloc _) (TyB.nil _ _ _)⟩ rfl (by intro u hu; simp at hu; rcases hu with rfl | rfl | rfl | rfl | rfl | rfl | rfl | rfl <;> rfl) wx.heap.size rfl (Blk.new wx [.string ⟨x.name.toArray⟩, .int .i64 (x.height : Nat), .slice s1.1 s1.2.1 s1.2.2, .slice s2.1 s2.2.1 s2.2.2, .slice s3.1 s3.2.1 s3.2.2, .slice s4.1 s4.2.1 s4.2.2, .slice s5.1 s5.2.1 s5.2.2, .int .i64 (x.at_ : Nat)] 47) (by unfold maxLen; omega) (by omega) hcb.out.size ?kk
         case kk =>
          intro lo8 lc8 v8 hl8 hc8 hb8
          have HL8 := hd hl8
          have HC8 := hd hc8
          have HB8 := hd hb8
          have HCv : Hid (Chg [b, X6] w6 v8) := hd (hc8 _ _ hcb.out (Nat.le_refl _))
          have HP8 : Hid (Rp v8 b q7 er7 a7 en) := hd (HPx.out.via (W := w6) (own := [b, X6]) (KL_12.out.trans HCx.out (fun k hk => .inl (by simp at hk; simp [hk]))) HCv.out (fun ds S h => hb8 _ _ _ (h.alloc _) (.inl HbL.out)) (fun z hz => by simp only [List.mem_cons, List.not_mem_nil, or_false] at hz; rcases hz with h9 | h9; (rw [h9]; exact Nat.le_refl _); (rw [h9]; exact Nat.le_of_lt BX6.out)) HbL.out)
          clear hl8 hc8 hb8
          have HX6_14 := hd (HB8.out _ _ _ (HX6_13.out.alloc _) (.inr (.inl (by decide))))
          refine hK.out _ _ trivial (fun _ => ?_)
          clear hK K
          try simp only [qq, qr]
          refine tk 6 (v := ?vwa6) rfl (by kernel_rfl) (fun _ _ _ h => h) ?hywa6 (by assumption) ?rswa6
          case hywa6 => (intro w9 hSw; go_simp; try with_reducible rfl)
          try simp only [qq, qr]
          refine rd1 7 (by kernel_rfl) rfl (fun K hK => ?_)
          obtain ⟨cX6_0, cX6_1, cX6_2, cX6_3⟩ := HX6_14.out.c4
          obtain ⟨cX6_f0, cX6_f1, cX6_f2, cX6_f3⟩ := HX6_14.out.f4
          go_simp
          refine hK.out _ _ trivial (fun _ => ?_)
          clear hK K
          try simp only [qq, qr]
          clear cX6_0 cX6_1 cX6_2 cX6_3 cX6_f0 cX6_f1 cX6_f2 cX6_f3
          obtain ⟨W15, hW⟩ : ∃ W, W = (v8.setCell ⟨X6, 3, none⟩ (.slice lo8 (ls.length + 1) lc8)) := ⟨_, rfl⟩
          rw [← hW]
          have HX6_15 : Hid (Blk W15 X6 [.string ⟨x12.toArray⟩, .int .i64 (x4 : Nat), .int .i64 (x5 : Nat), .slice lo8 (ls.length + 1) lc8] 27) := hd (by rw [hW]; exact (HX6_14.out.set 3 (.slice lo8 (ls.length + 1) lc8)))
          have KL_15 := hd (HCv.out.s1 hW (.inl (by simp)))
          have KP_15 := hd ((Chg.refl [X6] v8).s1 hW (.inl (by simp)))
          have Kv_15 := hd ((Chg.refl [b, X6] v8).s1 hW (.inl (by simp)))
          clear hW
          refine wpAnyH_done (by kernel_rfl) ?_ _
          try simp only [qq, qr]
          have HPz : Hid (Rp W15 b q7 er7 a7 en) := hd (HP8.out.keep KP_15.out (al1 BX6.out))
          have HLz := Kv_15
          have HL9 : Hid (ListS w6.heap.size 47 8 (Clv w6.heap.size) (ls ++ [x]) (.slice lo8 (ls ++ [x]).length lc8) W15) := hd (by rw [List.length_append]; exact HL8.out.keep (kp_lv _) HLz.out (TyB.lower (by intro z hz; simp only [List.mem_cons, List.not_mem_nil, or_false] at hz; rcases hz with h9 | h9; (rw [h9]; exact HbL.out); (rw [h9]; exact HXL.out)) _))
          have HX9 : Hid (Blk W15 X6 [.string ⟨x12.toArray⟩, .int .i64 (x4 : Nat), .int .i64 (x5 : Nat), .slice lo8 (ls ++ [x]).length lc8] 27) := hd (by rw [List.length_append]; exact HX6_15.out)
          obtain ⟨hm1, hm2⟩ := gli_step HMI.out HE.out HNS.out Pn.nice_level (fun y r h => by have h1 := Pn.eat_level _ _ _ h; omega) HRx.out
          have HMU : Hid (mz b W15 < mz b wo) := hd (by rw [mz_rp HPz.out, mz_rp HPq.out, if_pos HE.out]; split; (rename_i h9; have := hm2 h9; omega); omega)
          have HM9 := hd hm1
          clear hm1 hm2
          go_wp2_with fail
          refine ⟨?_, HMU.out⟩
          first | exact ⟨ls ++ [x], q7, er7, a7, lo8, lc8, HX9, HL9, HPz, HM9, KL_15⟩ | ((repeat apply Exists.intro); exact ⟨⟨ls ++ [x], q7, er7, a7, lo8, lc8, HX9, HL9, HPz, HM9, KL_15⟩, rfl⟩)
       · skip
         go_simp
         refine rlevel_r (hd (Rp.quiet HPs.out (Chg.refl _ _).drew)) HWQ HWY w6.heap.size (Nat.le_trans KL_12.out.size (Nat.le_refl _)) (fun x s1 s2 s3 s4 s5 q7 er7 a7 wx HRx HPx HCd HUx => ?_)
         have HCx : Hid (Chg [b] w21 wx) := hd (Chg.ofDrew HCd.out)
         have HX6_13 := hd (HCx.out.blk HX6_12.out (by simp [NX6_b]))
         refine hK.out _ _ trivial (fun _ => ?_)
         clear hK K
         try simp only [qq, qr]
         refine rd2 1 4 (by kernel_rfl) rfl rfl (fun K hK => ?_) (fun K hK => ?_)
         · have x0 := HX6_13.out.cell (i := 3) rfl
           go_simp
           refine hK.out _ _ trivial (fun _ => ?_)
           clear hK K
           try simp only [qq, qr]
           clear x0
           refine rd1 4 (by kernel_rfl) rfl (fun K hK => ?_)
           go_simp
           refine hK.out _ _ trivial (fun _ => ?_)
           clear hK K
           try simp only [qq, qr]
           refine rd1 5 (by kernel_rfl) rfl (fun K hK => ?_)
           have HLk : Hid (ListS w6.heap.size 47 8 (Clv w6.heap.size) ls (.slice vo ls.length vc) (wx.alloc (.cells #[.string ⟨x.name.toArray⟩, .int .i64 (x.height : Nat), .slice s1.1 s1.2.1 s1.2.2, .slice s2.1 s2.2.1 s2.2.2, .slice s3.1 s3.2.1 s3.2.2, .slice s4.1 s4.2.1 s4.2.2, .slice s5.1 s5.2.1 s5.2.2, .int .i64 (x.at_ : Nat)] 47))) := hd ((HL3.out.keep (kp_lv _) HCx.out (TyB.lower (by intro z hz; simp only [List.mem_cons, List.not_mem_nil, or_false] at hz; rw [hz]; exact HbL.out) _)).keep (kp_lv _) ((Chg.refl [] _).alloc _) (TyB.nil _ _ _))
           have hcb : Hid (Chg [b, X6] w6 (wx.alloc (.cells #[.string ⟨x.name.toArray⟩, .int .i64 (x.height : Nat), .slice s1.1 s1.2.1 s1.2.2, .slice s2.1 s2.2.1 s2.2.2, .slice s3.1 s3.2.1 s3.2.2, .slice s4.1 s4.2.1 s4.2.2, .slice s5.1 s5.2.1 s5.2.2, .int .i64 (x.at_ : Nat)] 47))) := hd ((KL_12.out.trans HCx.out (fun k hk => .inl (by simp at hk; simp [hk]))).alloc _)
           refine step_snoc rfl (.tmp 55) (.tmp 58) 25 rfl 47 il _ 8 152 Tryd.underlying25 hil lz0 lz1 lz2 rfl (by decide) (C := Clv w6.heap.size) (Es := [51, 54, 64, 58, 56, 24]) (.slice vo ls.length vc) ls.length rfl HLk.out rfl (kp_lv _) (by decide) x [.string ⟨x.name.toArray⟩, .int .i64 (x.height : Nat), .slice s1.1 s1.2.1 s1.2.2, .slice s2.1 s2.2.1 s2.2.2, .slice s3.1 s3.2.1 s3.2.2, .slice s4.1 s4.2.1 s4.2.2, .slice s5.1 s5.2.1 s5.2.2, .int .i64 (x.at_ : Nat)] ⟨_, _, _, _, _, rfl, HUx.out.keep ((Chg.refl [] _).alloc _) (TyB.nil _ _ _)⟩ rfl (by intro u hu; simp at hu; rcases hu with rfl | rfl | rfl | rfl | rfl | rfl | rfl | rfl <;> rfl) wx.heap.size rfl (Blk.new wx [.string ⟨x.name.toArray⟩, .int .i64 (x.height : Nat), .slice s1.1 s1.2.1 s1.2.2, .slice s2.1 s2.2.1 s2.2.2, .slice s3.1 s3.2.1 s3.2.2, .slice s4.1 s4.2.1 s4.2.2, .slice s5.1 s5.2.1 s5.2.2, .int .i64 (x.at_ : Nat)] 47) (by unfold maxLen; omega) (by omega) hcb.out.size ?kk
           case kk =>
            intro lo8 lc8 v8 hl8 hc8 hb8
            have HL8 := hd hl8
            have HC8 := hd hc8
            have HB8 := hd hb8
            have HCv : Hid (Chg [b, X6] w6 v8) := hd (hc8 _ _ hcb.out (Nat.le_refl _))
            have HP8 : Hid (Rp v8 b q7 er7 a7 en) := hd (HPx.out.via (W := w6) (own := [b, X6]) (KL_12.out.trans HCx.out (fun k hk => .inl (by simp at hk; simp [hk]))) HCv.out (fun ds S h => hb8 _ _ _ (h.alloc _) (.inl HbL.out)) (fun z hz => by simp only [List.mem_cons, List.not_mem_nil, or_false] at hz; rcases hz with h9 | h9; (rw [h9]; exact Nat.le_refl _); (rw [h9]; exact Nat.le_of_lt BX6.out)) HbL.out)
            clear hl8 hc8 hb8
            have HX6_14 := hd (HB8.out _ _ _ (HX6_13.out.alloc _) (.inr (.inl (by decide))))
            refine hK.out _ _ trivial (fun _ => ?_)
            clear hK K
            try simp only [qq, qr]
            refine tk 6 (v := ?vwb6) rfl (by kernel_rfl) (fun _ _ _ h => h) ?hywb6 (by assumption) ?rswb6
            case hywb6 => (intro w9 hSw; go_simp; try with_reducible rfl)
            try simp only [qq, qr]
            refine rd1 7 (by kernel_rfl) rfl (fun K hK => ?_)
            obtain ⟨cX6_0, cX6_1, cX6_2, cX6_3⟩ := HX6_14.out.c4
            obtain ⟨cX6_f0, cX6_f1, cX6_f2, cX6_f3⟩ := HX6_14.out.f4
            go_simp
            refine hK.out _ _ trivial (fun _ => ?_)
            clear hK K
            try simp only [qq, qr]
            clear cX6_0 cX6_1 cX6_2 cX6_3 cX6_f0 cX6_f1 cX6_f2 cX6_f3
            obtain ⟨W15, hW⟩ : ∃ W, W = (v8.setCell ⟨X6, 3, none⟩ (.slice lo8 (ls.length + 1) lc8)) := ⟨_, rfl⟩
            rw [← hW]
            have HX6_15 : Hid (Blk W15 X6 [.string ⟨x12.toArray⟩, .int .i64 (x4 : Nat), .int .i64 (x5 : Nat), .slice lo8 (ls.length + 1) lc8] 27) := hd (by rw [hW]; exact (HX6_14.out.set 3 (.slice lo8 (ls.length + 1) lc8)))
            have KL_15 := hd (HCv.out.s1 hW (.inl (by simp)))
            have KP_15 := hd ((Chg.refl [X6] v8).s1 hW (.inl (by simp)))
            have Kv_15 := hd ((Chg.refl [b, X6] v8).s1 hW (.inl (by simp)))
            clear hW
            refine wpAnyH_done (by kernel_rfl) ?_ _
            try simp only [qq, qr]
            have HPz : Hid (Rp W15 b q7 er7 a7 en) := hd (HP8.out.keep KP_15.out (al1 BX6.out))
            have HLz := Kv_15
            have HL9 : Hid (ListS w6.heap.size 47 8 (Clv w6.heap.size) (ls ++ [x]) (.slice lo8 (ls ++ [x]).length lc8) W15) := hd (by rw [List.length_append]; exact HL8.out.keep (kp_lv _) HLz.out (TyB.lower (by intro z hz; simp only [List.mem_cons, List.not_mem_nil, or_false] at hz; rcases hz with h9 | h9; (rw [h9]; exact HbL.out); (rw [h9]; exact HXL.out)) _))
            have HX9 : Hid (Blk W15 X6 [.string ⟨x12.toArray⟩, .int .i64 (x4 : Nat), .int .i64 (x5 : Nat), .slice lo8 (ls ++ [x]).length lc8] 27) := hd (by rw [List.length_append]; exact HX6_15.out)
            obtain ⟨hm1, hm2⟩ := gli_step HMI.out HE.out HNS.out Pn.nice_level (fun y r h => by have h1 := Pn.eat_level _ _ _ h; omega) HRx.out
            have HMU : Hid (mz b W15 < mz b wo) := hd (by rw [mz_rp HPz.out, mz_rp HPq.out, if_pos HE.out]; split; (rename_i h9; have := hm2 h9; omega); omega)
            have HM9 := hd hm1
            clear hm1 hm2
            go_wp2_with fail
            refine ⟨?_, HMU.out⟩
            first | exact ⟨ls ++ [x], q7, er7, a7, lo8, lc8, HX9, HL9, HPz, HM9, KL_15⟩ | ((repeat apply Exists.intro); exact ⟨⟨ls ++ [x], q7, er7, a7, lo8, lc8, HX9, HL9, HPz, HM9, KL_15⟩, rfl⟩)
         · skip
           go_simp
           refine hK.out _ _ trivial (fun _ => ?_)
           clear hK K
           try simp only [qq, qr]
           have x0 := (HX6_13.out.alloc (.cells #[.string ⟨x.name.toArray⟩, .int .i64 (x.height : Nat), .slice s1.1 s1.2.1 s1.2.2, .slice s2.1 s2.2.1 s2.2.2, .slice s3.1 s3.2.1 s3.2.2, .slice s4.1 s4.2.1 s4.2.2, .slice s5.1 s5.2.1 s5.2.2, .int .i64 (x.at_ : Nat)] 47)).cell (i := 3) rfl
           refine rd1 1 (by kernel_rfl) rfl (fun K hK => ?_)
           go_simp
           refine hK.out _ _ trivial (fun _ => ?_)
           clear hK K
           try simp only [qq, qr]
           clear x0
           refine rd1 5 (by kernel_rfl) rfl (fun K hK => ?_)
           have HLk : Hid (ListS w6.heap.size 47 8 (Clv w6.heap.size) ls (.slice vo ls.length vc) (wx.alloc (.cells #[.string ⟨x.name.toArray⟩, .int .i64 (x.height : Nat), .slice s1.1 s1.2.1 s1.2.2, .slice s2.1 s2.2.1 s2.2.2, .slice s3.1 s3.2.1 s3.2.2, .slice s4.1 s4.2.1 s4.2.2, .slice s5.1 s5.2.1 s5.2.2, .int .i64 (x.at_ : Nat)] 47))) := hd ((HL3.out.keep (kp_lv _) HCx.out (TyB.lower (by intro z hz; simp only [List.mem_cons, List.not_mem_nil, or_false] at hz; rw [hz]; exact HbL.out) _)).keep (kp_lv _) ((Chg.refl [] _).alloc _) (TyB.nil _ _ _))
           have hcb : Hid (Chg [b, X6] w6 (wx.alloc (.cells #[.string ⟨x.name.toArray⟩, .int .i64 (x.height : Nat), .slice s1.1 s1.2.1 s1.2.2, .slice s2.1 s2.2.1 s2.2.2, .slice s3.1 s3.2.1 s3.2.2, .slice s4.1 s4.2.1 s4.2.2, .slice s5.1 s5.2.1 s5.2.2, .int .i64 (x.at_ : Nat)] 47))) := hd ((KL_12.out.trans HCx.out (fun k hk => .inl (by simp at hk; simp [hk]))).alloc _)
           refine step_snoc rfl (.tmp 55) (.tmp 58) 25 rfl 47 il _ 8 152 Tryd.underlying25 hil lz0 lz1 lz2 rfl (by decide) (C := Clv w6.heap.size) (Es := [51, 54, 64, 58, 56, 24]) (.slice vo ls.length vc) ls.length rfl HLk.out rfl (kp_lv _) (by decide) x [.string ⟨x.name.toArray⟩, .int .i64 (x.height : Nat), .slice s1.1 s1.2.1 s1.2.2, .slice s2.1 s2.2.1 s2.2.2, .slice s3.1 s3.2.1 s3.2.2, .slice s4.1 s4.2.1 s4.2.2, .slice s5.1 s5.2.1 s5.2.2, .int .i64 (x.at_ : Nat)] ⟨_, _, _, _, _, rfl, HUx.out.keep ((Chg.refl [] _).alloc _) (TyB.nil _ _ _)⟩ rfl (by intro u hu; simp at hu; rcases hu with rfl | rfl | rfl | rfl | rfl | rfl | rfl | rfl <;> rfl) wx.heap.size rfl (Blk.new wx [.string ⟨x.name.toArray⟩, .int .i64 (x.height : Nat), .slice s1.1 s1.2.1 s1.2.2, .slice s2.1 s2.2.1 s2.2.2, .slice s3.1 s3.2.1 s3.2.2, .slice s4.1 s4.2.1 s4.2.2, .slice s5.1 s5.2.1 s5.2.2, .int .i64 (x.at_ : Nat)] 47) (by unfold maxLen; omega) (by omega) hcb.out.size ?kk
           case kk =>
            intro lo8 lc8 v8 hl8 hc8 hb8
            have HL8 := hd hl8
            have HC8 := hd hc8
            have HB8 := hd hb8
            have HCv : Hid (Chg [b, X6] w6 v8) := hd (hc8 _ _ hcb.out (Nat.le_refl _))
            have HP8 : Hid (Rp v8 b q7 er7 a7 en) := hd (HPx.out.via (W := w6) (own := [b, X6]) (KL_12.out.trans HCx.out (fun k hk => .inl (by simp at hk; simp [hk]))) HCv.out (fun ds S h => hb8 _ _ _ (h.alloc _) (.inl HbL.out)) (fun z hz => by simp only [List.mem_cons, List.not_mem_nil, or_false] at hz; rcases hz with h9 | h9; (rw [h9]; exact Nat.le_refl _); (rw [h9]; exact Nat.le_of_lt BX6.out)) HbL.out)
            clear hl8 hc8 hb8
            have HX6_14 := hd (HB8.out _ _ _ (HX6_13.out.alloc _) (.inr (.inl (by decide))))
            refine hK.out _ _ trivial (fun _ => ?_)
            clear hK K
            try simp only [qq, qr]
            refine tk 6 (v := ?vwc6) rfl (by kernel_rfl) (fun _ _ _ h => h) ?hywc6 (by assumption) ?rswc6
            case hywc6 => (intro w9 hSw; go_simp; try with_reducible rfl)
            try simp only [qq, qr]
            refine rd1 7 (by kernel_rfl) rfl (fun K hK => ?_)
            obtain ⟨cX6_0, cX6_1, cX6_2, cX6_3⟩ := HX6_14.out.c4
            obtain ⟨cX6_f0, cX6_f1, cX6_f2, cX6_f3⟩ := HX6_14.out.f4
            go_simp
            refine hK.out _ _ trivial (fun _ => ?_)
            clear hK K
            try simp only [qq, qr]
            clear cX6_0 cX6_1 cX6_2 cX6_3 cX6_f0 cX6_f1 cX6_f2 cX6_f3
            obtain ⟨W15, hW⟩ : ∃ W, W = (v8.setCell ⟨X6, 3, none⟩ (.slice lo8 (ls.length + 1) lc8)) := ⟨_, rfl⟩
            rw [← hW]
            have HX6_15 : Hid (Blk W15 X6 [.string ⟨x12.toArray⟩, .int .i64 (x4 : Nat), .int .i64 (x5 : Nat), .slice lo8 (ls.length + 1) lc8] 27) := hd (by rw [hW]; exact (HX6_14.out.set 3 (.slice lo8 (ls.length + 1) lc8)))
            have KL_15 := hd (HCv.out.s1 hW (.inl (by simp)))
            have KP_15 := hd ((Chg.refl [X6] v8).s1 hW (.inl (by simp)))
            have Kv_15 := hd ((Chg.refl [b, X6] v8).s1 hW (.inl (by simp)))
            clear hW
            refine wpAnyH_done (by kernel_rfl) ?_ _
            try simp only [qq, qr]
            have HPz : Hid (Rp W15 b q7 er7 a7 en) := hd (HP8.out.keep KP_15.out (al1 BX6.out))
            have HLz := Kv_15
            have HL9 : Hid (ListS w6.heap.size 47 8 (Clv w6.heap.size) (ls ++ [x]) (.slice lo8 (ls ++ [x]).length lc8) W15) := hd (by rw [List.length_append]; exact HL8.out.keep (kp_lv _) HLz.out (TyB.lower (by intro z hz; simp only [List.mem_cons, List.not_mem_nil, or_false] at hz; rcases hz with h9 | h9; (rw [h9]; exact HbL.out); (rw [h9]; exact HXL.out)) _))
            have HX9 : Hid (Blk W15 X6 [.string ⟨x12.toArray⟩, .int .i64 (x4 : Nat), .int .i64 (x5 : Nat), .slice lo8 (ls ++ [x]).length lc8] 27) := hd (by rw [List.length_append]; exact HX6_15.out)
            obtain ⟨hm1, hm2⟩ := gli_step HMI.out HE.out HNS.out Pn.nice_level (fun y r h => by have h1 := Pn.eat_level _ _ _ h; omega) HRx.out
            have HMU : Hid (mz b W15 < mz b wo) := hd (by rw [mz_rp HPz.out, mz_rp HPq.out, if_pos HE.out]; split; (rename_i h9; have := hm2 h9; omega); omega)
            have HM9 := hd hm1
            clear hm1 hm2
            go_wp2_with fail
            refine ⟨?_, HMU.out⟩
            first | exact ⟨ls ++ [x], q7, er7, a7, lo8, lc8, HX9, HL9, HPz, HM9, KL_15⟩ | ((repeat apply Exists.intro); exact ⟨⟨ls ++ [x], q7, er7, a7, lo8, lc8, HX9, HL9, HPz, HM9, KL_15⟩, rfl⟩)
    · have e0 : ((er1 : Int) == 0) = false := beq_eq_false_iff_ne.2 (by omega)
      have HE := hd he
      clear he
      go_wp2_with fail
      refine rmust_r (hd HPq.out) [125] (fun q9 e9 a9 w9 HR9 HP9 HC9 => ?_)
      have HX6_12 : Hid (Blk w9 X6 [.string ⟨x12.toArray⟩, .int .i64 (x4 : Nat), .int .i64 (x5 : Nat), .slice vo ls.length vc] 27) := hd (HC9.out.blk HX6.out (by simp [NX6_b]))
      have C12 := hd (C11.out.trans HC9.out (al1 (.inl (by simp))))
      have Ko_12 := hd ((Chg.refl [b, X6] wo).trans HC9.out (al1 (.inl (by simp))))
      clear cb2 e0
      have HRF := hd (gli_over HMI.out HE.out HR9.out ls)
      have HRH : Hid (RR Pn.hallB en L 0 0 (⟨x12, x4, x5, ls⟩ : Pn.Hl) q9 e9 a9) := hd (HR11.out.bind (HR12.out.bind (HR13.out.bind (HR4.out.bind (HR5.out.bind (HR6.out.bind (HRF.out.map (fun ls => (⟨x12, x4, x5, ls⟩ : Pn.Hl)))))))))
      rw [HEN.out, HLL.out] at HRH
      by_cases hz : e9 = 0
      · have y0 : ((e9 : Int) == 0) = true := by rw [hz]; rfl
        have HZ := hd hz
        clear hz
        by_cases hq : q9 = []
        · have HQ := hd hq
          obtain ⟨n7, i7, ao7, cap7, hb7⟩ := (HP9.out).any
          have hin : i7 = n7 := by
           obtain ⟨n8, ao8, cap8, hb8⟩ := (show Rp w9 b [] e9 a9 en by have h := HP9.out; rw [hq] at h; exact h).nil
           have h1 := hb7.cell (i := 0) rfl
           have h2 := hb8.cell (i := 0) rfl
           have h3 := hb7.cell (i := 1) rfl
           have h4 := hb8.cell (i := 1) rfl
           rw [h1] at h2
           rw [h3] at h4
           cases h2
           have h5 : ((i7 : Nat) : Int) = ((n7 : Nat) : Int) := by injection (Option.some.inj h4)
           omega
          subst hin
          have d0 := hb7.cell (i := 0) rfl
          have d1 := hb7.cell (i := 1) rfl
          have d2 := hb7.cell (i := 2) rfl
          have y1 : ¬ ((i7 : Nat) : Int) < ((i7 : Nat) : Int) := by omega
          clear hq hb7
          go_upto_region 15 with fail
          go_quiet (fail)
          clear d0 d1
          obtain ⟨v7, hv7⟩ : ∃ V, V = w9.drewN nq := ⟨_, rfl⟩
          try rw [← hv7]
          have HC7 : Hid (Chg [] w9 v7) := hd (by rw [hv7]; exact chg_drewN _ _)
          clear hv7
          have HX6_13 := hd (HC7.out.blk HX6_12.out (by simp))
          have C13 := hd (C12.out.trans HC7.out (by simp))
          have Ko_13 := hd (Ko_12.out.trans HC7.out (by simp))
          have KP_13 := hd ((Chg.refl [X6] w9).trans HC7.out (by simp))
          obtain ⟨n9, i9, ao9, cap9, hb9⟩ := ((HP9.out.keep KP_13.out (al1 BX6.out))).any
          have d2' := hb9.cell (i := 2) rfl
          clear d2 hb9
          have y2 : ((e9 : Int) != 0) = false := by rw [HZ.out]; rfl
          have HPS : Hid (Pn.parse s = (⟨x12, x4, x5, ls⟩, 0, 0)) := hd (fin_good HRH.out HE0.out HZ.out HQ.out)
          have HX2c : Hid (Blk v7 X2 [.string ⟨#[]⟩, .int .i64 0, .int .i64 0, .slice none 0 0] 27) := hd (C13.out.blk HX23.out (by simp [N2b]))
          obtain ⟨cX6_0, cX6_1, cX6_2, cX6_3⟩ := HX6_13.out.c4
          have f20 := HX2c.out.free 0
          have g20 := HX2c.out.cell (i := 0) rfl
          have f21 := HX2c.out.free 1
          have g21 := HX2c.out.cell (i := 1) rfl
          have f22 := HX2c.out.free 2
          have g22 := HX2c.out.cell (i := 2) rfl
          have f23 := HX2c.out.free 3
          have g23 := HX2c.out.cell (i := 3) rfl
          go_wp2_with fail
          (try simp only [Exit.inBlock, Exit.then])
          have HX2f : Hid (Blk ((((v7.setCell ⟨X2, 0, none⟩ (.string ⟨x12.toArray⟩)).setCell ⟨X2, 1, none⟩ (.int .i64 (x4 : Nat))).setCell ⟨X2, 2, none⟩ (.int .i64 (x5 : Nat))).setCell ⟨X2, 3, none⟩ (.slice vo ls.length vc)) X2 [.string ⟨x12.toArray⟩, .int .i64 (x4 : Nat), .int .i64 (x5 : Nat), .slice vo ls.length vc] 27) := hd ((((HX2c.out.set 0 _).set 1 _).set 2 _).set 3 _)
          have HCf : Hid (Chg [X2] v7 ((((v7.setCell ⟨X2, 0, none⟩ (.string ⟨x12.toArray⟩)).setCell ⟨X2, 1, none⟩ (.int .i64 (x4 : Nat))).setCell ⟨X2, 2, none⟩ (.int .i64 (x5 : Nat))).setCell ⟨X2, 3, none⟩ (.slice vo ls.length vc))) := hd (((((Chg.refl _ _).setCell _ _ (.inl (by simp))).setCell _ _ (.inl (by simp))).setCell _ _ (.inl (by simp))).setCell _ _ (.inl (by simp)))
          have HLf : Hid (ListS w.heap.size 47 8 (Clv w.heap.size) ls (.slice vo ls.length vc) ((((v7.setCell ⟨X2, 0, none⟩ (.string ⟨x12.toArray⟩)).setCell ⟨X2, 1, none⟩ (.int .i64 (x4 : Nat))).setCell ⟨X2, 2, none⟩ (.int .i64 (x5 : Nat))).setCell ⟨X2, 3, none⟩ (.slice vo ls.length vc))) := hd ((((HL1.out.keep (kp_lv _) Ko_13.out (TyB.lower (by intro z hz; simp only [List.mem_cons, List.not_mem_nil, or_false] at hz; rcases hz with h9 | h9; (rw [h9]; exact HbL.out); (rw [h9]; exact HXL.out)) _)).keep (kp_lv _) HCf.out (TyB.lower (by intro z hz; simp only [List.mem_cons, List.not_mem_nil, or_false] at hz; rw [hz]; exact Nat.lt_of_lt_of_le HX2L.out HWL.out) _)).mono (Nat.le_trans HCW3.out.size HWL.out) (mono_lv (Nat.le_trans HCW3.out.size HWL.out))))
          have HCF : Hid (Chg [] w ((((v7.setCell ⟨X2, 0, none⟩ (.string ⟨x12.toArray⟩)).setCell ⟨X2, 1, none⟩ (.int .i64 (x4 : Nat))).setCell ⟨X2, 2, none⟩ (.int .i64 (x5 : Nat))).setCell ⟨X2, 3, none⟩ (.slice vo ls.length vc))) := hd ((HCW3.out.trans C13.out (fun k hk => .inr (by simp only [List.mem_cons, List.not_mem_nil, or_false] at hk; rw [hk]; exact HBO.out))).trans HCf.out (fun k hk => .inr (by simp only [List.mem_cons, List.not_mem_nil, or_false] at hk; rw [hk]; exact HOX.out)))
          refine bodyPost_ret (results_row_tmps6 rfl _ (.int .i64 0) (.int .i64 0) rfl rfl _ X2 27 #[.string ⟨x12.toArray⟩, .int .i64 (x4 : Nat), .int .i64 (x5 : Nat), .slice vo ls.length vc] (0, 0) _ rfl HX2f.out Tryd.underlying27 rfl (by kernel_rfl)) rfl ⟨.slice vo ls.length vc, by rw [HPS.out]; rfl, by rw [HPS.out]; exact HLf.out, HCF.out⟩
        · have HQ := hd hq
          obtain ⟨t7, r7, hq7⟩ := List.exists_cons_of_ne_nil hq
          obtain ⟨n7, i7, g7, off7, cap7, hi7, hn7, hb7, -⟩ := (show Rp w9 b (t7 :: r7) e9 a9 en by have h := HP9.out; rw [hq7] at h; exact h).cons
          have d0 := hb7.cell (i := 0) rfl
          have d1 := hb7.cell (i := 1) rfl
          have d2 := hb7.cell (i := 2) rfl
          have y1 : ((i7 : Nat) : Int) < ((n7 : Nat) : Int) := by omega
          clear hq hb7 hq7 hn7
          go_upto_region 15 with fail
          go_quiet (fail)
          clear d0 d1 d2
          obtain ⟨v7, hv7⟩ : ∃ V, V = w9.drewN nq := ⟨_, rfl⟩
          try rw [← hv7]
          have HC7 : Hid (Chg [] w9 v7) := hd (by rw [hv7]; exact chg_drewN _ _)
          clear hv7
          have C13 := hd (C12.out.trans HC7.out (by simp))
          have KP_13 := hd ((Chg.refl [X6] w9).trans HC7.out (by simp))
          go_wp2_with fail
          refine rfail_r (hd (HP9.out.keep KP_13.out (al1 BX6.out))) (fun e8 a8 w8 HF8 HP8 HC8 => ?_)
          clear y1
          have C14 := hd (C13.out.trans HC8.out (al1 (.inl (by simp))))
          obtain ⟨hp8, hn8⟩ := fin_left HRH.out HE0.out HZ.out HQ.out (by have h := HF8.out; rw [HEN.out] at h; exact h)
          have HPS := hd hp8
          have y2 : ((e8 : Int) != 0) = true := bne_iff_ne.2 (by omega)
          have HNZ := hd hn8
          clear hp8 hn8
          have HX2c : Hid (Blk w8 X2 [.string ⟨#[]⟩, .int .i64 0, .int .i64 0, .slice none 0 0] 27) := hd (C14.out.blk HX23.out (by simp [N2b]))
          obtain ⟨n9, i9, ao9, cap9, hb9⟩ := (HP8.out).any
          have d2 := hb9.cell (i := 2) rfl
          have HB9 := hd hb9
          clear hb9
          go_upto_region 18 with fail
          clear d2 y2
          refine wp_region_held_drew (S := fun W' => Chg [X2] w8 W') (by kernel_rfl) (Chg.refl _ _).drew (fun hHeld => ?_)
          refine tk 0 (v := ?vz3_0) rfl (by kernel_rfl) (fun _ _ _ h => h) ?hyz3_0 (by assumption) ?rsz3_0
          case hyz3_0 => (intro w9 hSw; go_simp; try with_reducible rfl)
          try simp only [qq, qr]
          refine tk 1 (v := ?vz3_1) rfl (by kernel_rfl) (fun _ _ _ h => h) ?hyz3_1 (by assumption) ?rsz3_1
          case hyz3_1 => (intro w9 hSw; go_simp; try with_reducible rfl)
          try simp only [qq, qr]
          refine tk 2 (v := ?vz3_2) rfl (by kernel_rfl) (fun _ _ _ h => h) ?hyz3_2 (by assumption) ?rsz3_2
          case hyz3_2 => (intro w9 hSw; go_simp; try with_reducible rfl)
          try simp only [qq, qr]
          refine tk 3 (v := ?vz3_3) rfl (by kernel_rfl) (fun _ _ _ h => h) ?hyz3_3 (by assumption) ?rsz3_3
          case hyz3_3 => (intro w9 hSw; go_simp; try with_reducible rfl)
          try simp only [qq, qr]
          refine tk 4 (v := ?vz3_4) rfl (by kernel_rfl) (fun _ _ _ h => h) ?hyz3_4 (by assumption) ?rsz3_4
          case hyz3_4 => (intro w9 hSw; have d2 := cell_quiet hSw (HB9.out.cell (i := 2) rfl) (by simp [N2b.symm]); have d3 := cell_quiet hSw (HB9.out.cell (i := 3) rfl) (by simp [N2b.symm]); go_simp; try with_reducible rfl)
          try simp only [qq, qr]
          refine tk 5 (v := ?vz3_5) rfl (by kernel_rfl) (fun _ _ _ h => h) ?hyz3_5 (by assumption) ?rsz3_5
          case hyz3_5 => (intro w9 hSw; go_simp; try with_reducible rfl)
          try simp only [qq, qr]
          refine tk 6 (v := ?vz3_6) rfl (by kernel_rfl) (fun _ _ _ h => h) ?hyz3_6 (by assumption) ?rsz3_6
          case hyz3_6 => (intro w9 hSw; go_simp; try with_reducible rfl)
          try simp only [qq, qr]
          refine tk 7 (v := ?vz3_7) rfl (by kernel_rfl) (fun _ _ _ h => h) ?hyz3_7 (by assumption) ?rsz3_7
          case hyz3_7 => (intro w9 hSw; go_simp; try with_reducible rfl)
          try simp only [qq, qr]
          refine tk 8 (v := ?vz3_8) rfl (by kernel_rfl) (fun _ _ _ h => h) ?hyz3_8 (by assumption) ?rsz3_8
          case hyz3_8 => (intro w9 hSw; have d2 := cell_quiet hSw (HB9.out.cell (i := 2) rfl) (by simp [N2b.symm]); have d3 := cell_quiet hSw (HB9.out.cell (i := 3) rfl) (by simp [N2b.symm]); go_simp; try with_reducible rfl)
          try simp only [qq, qr]
          obtain ⟨Z0, hZ⟩ : ∃ Z, Z = w8.drew := ⟨_, rfl⟩
          rw [← hZ] at hHeld ⊢
          have HX2z : Hid (Blk Z0 X2 [.string ⟨#[]⟩, .int .i64 0, .int .i64 0, .slice none 0 0] 27) := hd (by rw [hZ]; exact HX2c.out.drew)
          clear hZ
          refine rd1 9 (by kernel_rfl) rfl (fun K hK => ?_)
          have f20 := HX2z.out.free 0
          have g20 := HX2z.out.cell (i := 0) rfl
          have f21 := HX2z.out.free 1
          have g21 := HX2z.out.cell (i := 1) rfl
          have f22 := HX2z.out.free 2
          have g22 := HX2z.out.cell (i := 2) rfl
          have f23 := HX2z.out.free 3
          have g23 := HX2z.out.cell (i := 3) rfl
          go_simp
          refine hK.out _ _ ((((hHeld.setCell _ _ (.inl (by simp))).setCell _ _ (.inl (by simp))).setCell _ _ (.inl (by simp))).setCell _ _ (.inl (by simp))) (fun hHeld => ?_)
          clear hK K f20 g20 f21 g21 f22 g22 f23 g23
          try simp only [qq, qr]
          refine tk 10 (v := ?vz3_10) rfl (by kernel_rfl) (fun _ _ _ h => h) ?hyz3_10 (by assumption) ?rsz3_10
          case hyz3_10 => (intro w9 hSw; go_simp; try with_reducible rfl)
          try simp only [qq, qr]
          refine tk 11 (v := ?vz3_11) rfl (by kernel_rfl) (fun _ _ _ h => h) ?hyz3_11 (by assumption) ?rsz3_11
          case hyz3_11 => (intro w9 hSw; go_simp; try with_reducible rfl)
          try simp only [qq, qr]
          refine wpAnyH_done (by kernel_rfl) ?_ _
          try simp only [qq, qr]
          have HCf := hd hHeld
          clear hHeld
          go_wp2_with fail
          (try simp only [Exit.inBlock, Exit.then])
          have HX2f : Hid (Blk ((((Z0.setCell ⟨X2, 0, none⟩ (.string ⟨#[]⟩)).setCell ⟨X2, 1, none⟩ (.int .i64 0)).setCell ⟨X2, 2, none⟩ (.int .i64 0)).setCell ⟨X2, 3, none⟩ (.slice none 0 0)) X2 [.string ⟨#[]⟩, .int .i64 0, .int .i64 0, .slice none 0 0] 27) := hd ((((HX2z.out.set 0 _).set 1 _).set 2 _).set 3 _)
          have HCF : Hid (Chg [] w ((((Z0.setCell ⟨X2, 0, none⟩ (.string ⟨#[]⟩)).setCell ⟨X2, 1, none⟩ (.int .i64 0)).setCell ⟨X2, 2, none⟩ (.int .i64 0)).setCell ⟨X2, 3, none⟩ (.slice none 0 0))) := hd ((HCW3.out.trans C14.out (fun k hk => .inr (by simp only [List.mem_cons, List.not_mem_nil, or_false] at hk; rw [hk]; exact HBO.out))).trans HCf.out (fun k hk => .inr (by simp only [List.mem_cons, List.not_mem_nil, or_false] at hk; rw [hk]; exact HOX.out)))
          refine bodyPost_ret (results_row_tmps6 rfl _ (.int .i64 (e8 : Nat)) (.int .i64 (a8 : Nat)) rfl rfl _ X2 27 #[.string ⟨#[]⟩, .int .i64 0, .int .i64 0, .slice none 0 0] (0, 0) _ rfl HX2f.out Tryd.underlying27 rfl (by kernel_rfl)) rfl ⟨.slice none 0 0, by rw [HPS.out]; rfl, by rw [HPS.out]; exact ListS.nil _ _ _ _ _, HCF.out⟩
      · have y0 : ((e9 : Int) == 0) = false := beq_eq_false_iff_ne.2 (by omega)
        have y2 : ((e9 : Int) != 0) = true := bne_iff_ne.2 (by omega)
        have HPS := hd (fin_bad HRH.out HE0.out hz)
        have HNZ := hd hz
        clear hz
        obtain ⟨n7, i7, ao7, cap7, hb7⟩ := (HP9.out).any
        have d2 := hb7.cell (i := 2) rfl
        clear hb7
        go_upto_region 15 with fail
        go_quiet (fail)
        clear d2
        obtain ⟨v7, hv7⟩ : ∃ V, V = w9.drewN nq := ⟨_, rfl⟩
        try rw [← hv7]
        have HC7 : Hid (Chg [] w9 v7) := hd (by rw [hv7]; exact chg_drewN _ _)
        clear hv7
        have C13 := hd (C12.out.trans HC7.out (by simp))
        have KP_13 := hd ((Chg.refl [X6] w9).trans HC7.out (by simp))
        have HX2c : Hid (Blk v7 X2 [.string ⟨#[]⟩, .int .i64 0, .int .i64 0, .slice none 0 0] 27) := hd (C13.out.blk HX23.out (by simp [N2b]))
        obtain ⟨n9, i9, ao9, cap9, hb9⟩ := ((HP9.out.keep KP_13.out (al1 BX6.out))).any
        have d2 := hb9.cell (i := 2) rfl
        have HB9 := hd hb9
        clear hb9
        go_upto_region 18 with fail
        clear d2 y2
        refine wp_region_held_drew (S := fun W' => Chg [X2] v7 W') (by kernel_rfl) (Chg.refl _ _).drew (fun hHeld => ?_)
        refine tk 0 (v := ?vz4_0) rfl (by kernel_rfl) (fun _ _ _ h => h) ?hyz4_0 (by assumption) ?rsz4_0
        case hyz4_0 => (intro w9 hSw; go_simp; try with_reducible rfl)
        try simp only [qq, qr]
        refine tk 1 (v := ?vz4_1) rfl (by kernel_rfl) (fun _ _ _ h => h) ?hyz4_1 (by assumption) ?rsz4_1
        case hyz4_1 => (intro w9 hSw; go_simp; try with_reducible rfl)
        try simp only [qq, qr]
        refine tk 2 (v := ?vz4_2) rfl (by kernel_rfl) (fun _ _ _ h => h) ?hyz4_2 (by assumption) ?rsz4_2
        case hyz4_2 => (intro w9 hSw; go_simp; try with_reducible rfl)
        try simp only [qq, qr]
        refine tk 3 (v := ?vz4_3) rfl (by kernel_rfl) (fun _ _ _ h => h) ?hyz4_3 (by assumption) ?rsz4_3
        case hyz4_3 => (intro w9 hSw; go_simp; try with_reducible rfl)
        try simp only [qq, qr]
        refine tk 4 (v := ?vz4_4) rfl (by kernel_rfl) (fun _ _ _ h => h) ?hyz4_4 (by assumption) ?rsz4_4
        case hyz4_4 => (intro w9 hSw; have d2 := cell_quiet hSw (HB9.out.cell (i := 2) rfl) (by simp [N2b.symm]); have d3 := cell_quiet hSw (HB9.out.cell (i := 3) rfl) (by simp [N2b.symm]); go_simp; try with_reducible rfl)
        try simp only [qq, qr]
        refine tk 5 (v := ?vz4_5) rfl (by kernel_rfl) (fun _ _ _ h => h) ?hyz4_5 (by assumption) ?rsz4_5
        case hyz4_5 => (intro w9 hSw; go_simp; try with_reducible rfl)
        try simp only [qq, qr]
        refine tk 6 (v := ?vz4_6) rfl (by kernel_rfl) (fun _ _ _ h => h) ?hyz4_6 (by assumption) ?rsz4_6
        case hyz4_6 => (intro w9 hSw; go_simp; try with_reducible rfl)
        try simp only [qq, qr]
        refine tk 7 (v := ?vz4_7) rfl (by kernel_rfl) (fun _ _ _ h => h) ?hyz4_7 (by assumption) ?rsz4_7
        case hyz4_7 => (intro w9 hSw; go_simp; try with_reducible rfl)
        try simp only [qq, qr]
        refine tk 8 (v := ?vz4_8) rfl (by kernel_rfl) (fun _ _ _ h => h) ?hyz4_8 (by assumption) ?rsz4_8
        case hyz4_8 => (intro w9 hSw; have d2 := cell_quiet hSw (HB9.out.cell (i := 2) rfl) (by simp [N2b.symm]); have d3 := cell_quiet hSw (HB9.out.cell (i := 3) rfl) (by simp [N2b.symm]); go_simp; try with_reducible rfl)
        try simp only [qq, qr]
        obtain ⟨Z0, hZ⟩ : ∃ Z, Z = v7.drew := ⟨_, rfl⟩
        rw [← hZ] at hHeld ⊢
        have HX2z : Hid (Blk Z0 X2 [.string ⟨#[]⟩, .int .i64 0, .int .i64 0, .slice none 0 0] 27) := hd (by rw [hZ]; exact HX2c.out.drew)
        clear hZ
        refine rd1 9 (by kernel_rfl) rfl (fun K hK => ?_)
        have f20 := HX2z.out.free 0
        have g20 := HX2z.out.cell (i := 0) rfl
        have f21 := HX2z.out.free 1
        have g21 := HX2z.out.cell (i := 1) rfl
        have f22 := HX2z.out.free 2
        have g22 := HX2z.out.cell (i := 2) rfl
        have f23 := HX2z.out.free 3
        have g23 := HX2z.out.cell (i := 3) rfl
        go_simp
        refine hK.out _ _ ((((hHeld.setCell _ _ (.inl (by simp))).setCell _ _ (.inl (by simp))).setCell _ _ (.inl (by simp))).setCell _ _ (.inl (by simp))) (fun hHeld => ?_)
        clear hK K f20 g20 f21 g21 f22 g22 f23 g23
        try simp only [qq, qr]
        refine tk 10 (v := ?vz4_10) rfl (by kernel_rfl) (fun _ _ _ h => h) ?hyz4_10 (by assumption) ?rsz4_10
        case hyz4_10 => (intro w9 hSw; go_simp; try with_reducible rfl)
        try simp only [qq, qr]
        refine tk 11 (v := ?vz4_11) rfl (by kernel_rfl) (fun _ _ _ h => h) ?hyz4_11 (by assumption) ?rsz4_11
        case hyz4_11 => (intro w9 hSw; go_simp; try with_reducible rfl)
        try simp only [qq, qr]
        refine wpAnyH_done (by kernel_rfl) ?_ _
        try simp only [qq, qr]
        have HCf := hd hHeld
        clear hHeld
        go_wp2_with fail
        (try simp only [Exit.inBlock, Exit.then])
        have HX2f : Hid (Blk ((((Z0.setCell ⟨X2, 0, none⟩ (.string ⟨#[]⟩)).setCell ⟨X2, 1, none⟩ (.int .i64 0)).setCell ⟨X2, 2, none⟩ (.int .i64 0)).setCell ⟨X2, 3, none⟩ (.slice none 0 0)) X2 [.string ⟨#[]⟩, .int .i64 0, .int .i64 0, .slice none 0 0] 27) := hd ((((HX2z.out.set 0 _).set 1 _).set 2 _).set 3 _)
        have HCF : Hid (Chg [] w ((((Z0.setCell ⟨X2, 0, none⟩ (.string ⟨#[]⟩)).setCell ⟨X2, 1, none⟩ (.int .i64 0)).setCell ⟨X2, 2, none⟩ (.int .i64 0)).setCell ⟨X2, 3, none⟩ (.slice none 0 0))) := hd ((HCW3.out.trans C13.out (fun k hk => .inr (by simp only [List.mem_cons, List.not_mem_nil, or_false] at hk; rw [hk]; exact HBO.out))).trans HCf.out (fun k hk => .inr (by simp only [List.mem_cons, List.not_mem_nil, or_false] at hk; rw [hk]; exact HOX.out)))
        refine bodyPost_ret (results_row_tmps6 rfl _ (.int .i64 (e9 : Nat)) (.int .i64 (a9 : Nat)) rfl rfl _ X2 27 #[.string ⟨#[]⟩, .int .i64 0, .int .i64 0, .slice none 0 0] (0, 0) _ rfl HX2f.out Tryd.underlying27 rfl (by kernel_rfl)) rfl ⟨.slice none 0 0, by rw [HPS.out]; rfl, by rw [HPS.out]; exact ListS.nil _ _ _ _ _, HCF.out⟩
 · have q0 : ((E : Int) != 0) = true := bne_iff_ne.2 (by omega)
   have HPS : Hid (Pn.parse s = (Pn.hl0, E, A)) := hd (by unfold Pn.parse; rw [HE.out, if_pos hE0, HA.out])
   clear hE0 hsz
   have f20 := HX21.out.free 0
   have g20 := HX21.out.cell (i := 0) rfl
   have f21 := HX21.out.free 1
   have g21 := HX21.out.cell (i := 1) rfl
   have f22 := HX21.out.free 2
   have g22 := HX21.out.cell (i := 2) rfl
   have f23 := HX21.out.free 3
   have g23 := HX21.out.cell (i := 3) rfl
   go_wp2_with fail
   (try simp only [Exit.inBlock, Exit.then])
   have HX2f := hd ((((HX21.out.set 0 (.string ⟨#[]⟩)).set 1 (.int .i64 0)).set 2 (.int .i64 0)).set 3 (.slice none 0 0))
   have HCf : Hid (Chg [X2] w1 ((((w1.setCell ⟨X2, 0, none⟩ (.string ⟨#[]⟩)).setCell ⟨X2, 1, none⟩ (.int .i64 0)).setCell ⟨X2, 2, none⟩ (.int .i64 0)).setCell ⟨X2, 3, none⟩ (.slice none 0 0))) := hd (((((Chg.refl _ _).setCell _ _ (.inl (by simp))).setCell _ _ (.inl (by simp))).setCell _ _ (.inl (by simp))).setCell _ _ (.inl (by simp)))
   have HCF := hd ((HC0.out.trans HC1.out (by simp)).trans HCf.out (fun k hk => .inr (by simp only [List.mem_cons, List.not_mem_nil, or_false] at hk; rw [hk]; exact HOX.out)))
   exact bodyPost_ret (results_row_tmps6 rfl _ (.int .i64 (E : Nat)) (.int .i64 A) rfl rfl _ X2 27 #[.string ⟨#[]⟩, .int .i64 0, .int .i64 0, .slice none 0 0] (0, 0) _ rfl HX2f.out Tryd.underlying27 rfl (by kernel_rfl)) rfl ⟨.slice none 0 0, by rw [HPS.out]; rfl, by rw [HPS.out]; exact ListS.nil _ _ _ _ _, HCF.out⟩
end Go.Proofs.YtocadlcglgpdcaaDoor
