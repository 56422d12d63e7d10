/-
 PnG, PnH, PnI in one text.
-/
import Derived.Test.YtocadlcglgpdcaaDoorPnBF
import Derived.Test.YtocadlcglgpdcaaDoorMpA
namespace Go.Proofs.YtocadlcglgpdcaaDoor
set_option linter.unusedVariables false
set_option linter.unusedSimpArgs false
open Go Go.RowKit Go.Shelf
open Lx (Tk)
def bxc (x : Pn.Bx) : List Value := [.int .i64 (x.x : Nat), .int .i64 (x.y : Nat), .int .i64 (x.x2 : Nat), .int .i64 (x.y2 : Nat)]
def BoxV (x : Pn.Bx) (v : Value) (w : World) : Prop := v = .agg #[.int .i64 (x.x : Nat), .int .i64 (x.y : Nat), .int .i64 (x.x2 : Nat), .int .i64 (x.y2 : Nat)]
set_option maxHeartbeats 1000000 in
theorem box_spec (w : World) (b en : Nat) (l : List Tk) (HP : Hid (Pp w b l en)) : Calls Tryd.prog 50 #[.pointer (some ⟨b, 0, none⟩)] w fun e w' => PRes w b en BoxV (Pn.box l) e w' := by
 have HBW : Hid (b < w.heap.size) := hd HP.out.lt
 go_enter Tryd.func50, Tryd.ntmps50
 go_upto_region 1 with fail
 obtain ⟨W1, hW⟩ : ∃ W, W = (w.alloc (.cells #[.int .i64 0, .int .i64 0, .int .i64 0, .int .i64 0] 56)) := ⟨_, rfl⟩
 rw [← hW]
 obtain ⟨X2, hX2⟩ : ∃ T, T = w.heap.size := ⟨_, rfl⟩
 try rw [← hX2]
 have OX2 : Hid (w.heap.size ≤ X2) := hd (by rw [hX2]; exact Nat.le_refl _)
 have HX2_1 : Hid (Blk W1 X2 [.int .i64 0, .int .i64 0, .int .i64 0, .int .i64 0] 56) := hd (by
  have h1 := Blk.new w [.int .i64 0, .int .i64 0, .int .i64 0, .int .i64 0] 56
  have h2 : w.heap.size = X2 := by simp [hX2]
  rw [h2] at h1
  rw [hW]
  exact h1)
 have BX2 : Hid (b < X2) := hd (by have h1 := HBW.out; have OX2_ := OX2.out; omega)
 have C1 : Hid (Chg [b] w W1) := hd (by rw [hW]; exact ((Chg.refl [b] w).alloc _))
 have KP_1 : Hid (Chg [] w W1) := hd (by rw [hW]; exact ((Chg.refl [] w).alloc _))
 clear hW hX2
 go_wp2_with fail
 obtain ⟨W2, hW⟩ : ∃ W, W = (W1.alloc (.cells #[.pointer (some ⟨X2, 0, none⟩), .pointer (some ⟨X2, 1, none⟩), .pointer (some ⟨X2, 2, none⟩), .pointer (some ⟨X2, 3, none⟩)] 73)) := ⟨_, rfl⟩
 rw [← hW]
 obtain ⟨G1, hG1⟩ : ∃ T, T = W1.heap.size := ⟨_, rfl⟩
 try rw [← hG1]
 have OG1 : Hid (X2 < G1) := hd (by rw [hG1]; exact HX2_1.out.lt)
 have HX2_2 : Hid (Blk W2 X2 [.int .i64 0, .int .i64 0, .int .i64 0, .int .i64 0] 56) := hd (by rw [hW]; exact (HX2_1.out.alloc _))
 have HG1_2 : Hid (Blk W2 G1 [.pointer (some ⟨X2, 0, none⟩), .pointer (some ⟨X2, 1, none⟩), .pointer (some ⟨X2, 2, none⟩), .pointer (some ⟨X2, 3, none⟩)] 73) := hd (by
  have h1 := Blk.new W1 [.pointer (some ⟨X2, 0, none⟩), .pointer (some ⟨X2, 1, none⟩), .pointer (some ⟨X2, 2, none⟩), .pointer (some ⟨X2, 3, none⟩)] 73
  have h2 : W1.heap.size = G1 := by simp [hG1]
  rw [h2] at h1
  rw [hW]
  exact h1)
 have BG1 : Hid (b < G1) := hd (by have h1 := HBW.out; have OX2_ := OX2.out; have OG1_ := OG1.out; omega)
 have C2 := hd (C1.out.alE hW)
 have KP_2 := hd (KP_1.out.alE hW)
 clear hW hG1
 have NG1_b : G1 ≠ b := by have h1 := HBW.out; have OX2_ := OX2.out; have OG1_ := OG1.out; omega
 have Nb_G1 : b ≠ G1 := NG1_b.symm
 have NG1_X2 : G1 ≠ X2 := by have h1 := OG1.out; omega
 refine num4_two (hd (HP.out.keep KP_2.out (by simp))) HG1_2 HX2_2 (hd ⟨BX2.out, NG1_b, NG1_X2⟩) (fun x r w1 HM HP1 HD1 HC1 => ?_) (fun c r w1 HM HCb => ?_)
 · skip
   have NX2_b : X2 ≠ b := by have h1 := HBW.out; have OX2_ := OX2.out; omega
   have Nb_X2 : b ≠ X2 := NX2_b.symm
   have C3 := hd (C2.out.trans HC1.out (al2 (.inl (by simp)) (.inr (by have OX2_ := OX2.out; show w.heap.size ≤ X2; omega))))
   obtain ⟨cX2_0, cX2_1, cX2_2, cX2_3⟩ := HD1.out.c4
   obtain ⟨cX2_f0, cX2_f1, cX2_f2, cX2_f3⟩ := HD1.out.f4
   go_wp2_with fail
   clear cX2_0 cX2_1 cX2_2 cX2_3 cX2_f0 cX2_f1 cX2_f2 cX2_f3
   obtain ⟨W4, hW⟩ : ∃ W, W = ((((w1.setCell ⟨X2, 0, none⟩ (.int .i64 (x.x : Nat))).setCell ⟨X2, 1, none⟩ (.int .i64 (x.y : Nat))).setCell ⟨X2, 2, none⟩ (.int .i64 (x.x2 : Nat))).setCell ⟨X2, 3, none⟩ (.int .i64 (x.y2 : Nat))) := ⟨_, rfl⟩
   rw [← hW]
   have HX2_4 : Hid (Blk W4 X2 [.int .i64 (x.x : Nat), .int .i64 (x.y : Nat), .int .i64 (x.x2 : Nat), .int .i64 (x.y2 : Nat)] 56) := hd (by rw [hW]; exact ((((HD1.out.set 0 (.int .i64 (x.x : Nat))).set 1 (.int .i64 (x.y : Nat))).set 2 (.int .i64 (x.x2 : Nat))).set 3 (.int .i64 (x.y2 : Nat))))
   have C4 := hd (C3.out.s4 hW (.inr (by have OX2_ := OX2.out; show w.heap.size ≤ X2; omega)))
   have KP_4 := hd ((Chg.refl [X2, G1] w1).s4 hW (.inl (by simp)))
   clear hW
   (try simp only [Exit.inBlock, Exit.then])
   refine bodyPost_ret (results_cell_row rfl _ _ X2 56 #[.int .i64 (x.x : Nat), .int .i64 (x.y : Nat), .int .i64 (x.x2 : Nat), .int .i64 (x.y2 : Nat)] (0, 0) _ rfl HX2_4.out Tryd.underlying56 rfl (by kernel_rfl)) rfl (pgood C4.out HM.out rfl (HP1.out.keep KP_4.out (al2 BX2.out BG1.out)))
 · go_wp2_with fail
   exact ⟨rfl, pbad (C2.out.trans HCb.out (al2 (.inl (by simp)) (.inr (by have OX2_ := OX2.out; show w.heap.size ≤ X2; omega)))) HM.out⟩
theorem box_two {w : World} {b en : Nat} {l : List Tk} (HP : Hid (Pp w b l en)) {R : Ending → World → Prop}
 (hok : ∀ (x : Pn.Bx) (r : List Tk) (w' : World), Hid (Pn.box l = .ok x r) → Hid (Pp w' b r en) → Hid (Chg [b] w w') → R (.returned (.agg #[.int .i64 (x.x : Nat), .int .i64 (x.y : Nat), .int .i64 (x.x2 : Nat), .int .i64 (x.y2 : Nat)])) w')
 (hbad : ∀ (c : Nat) (r : List Tk) (w' : World), Hid (Pn.box l = .bad c r) → Hid (Chg [b] w w') → R (.panicked [{ v := flt c r en, recovered := false }]) w') :
 Calls Tryd.prog 50 #[.pointer (some ⟨b, 0, none⟩)] w R :=
 (box_spec w b en l HP).mono fun e w' h => pres_two h (fun a r v h1 h2 h3 h4 => by rw [show v = _ from h4]; exact hok a r w' h1 h2 h3) (fun c r h1 h2 => hbad c r w' h1 h2)
end Go.Proofs.YtocadlcglgpdcaaDoor

namespace Go.Proofs.YtocadlcglgpdcaaDoor
set_option linter.unusedVariables false
set_option linter.unusedSimpArgs false
open Go Go.RowKit Go.Shelf Go.MapKept
def foundIn (d : TypeDesc) (key : Value) (es : List MapEntry) : Bool := match Instr.findNow d key es 0 with
 | some (some _) => true
 | _ => false
theorem run_look2 {P : Program} {w : World} {T K E : TypeId} {d : TypeDesc} (hu : P.underlying T = some (.map K E)) (hk : P.underlying K = some d) {z : Value} (hz : (zeroValue E).run P w = .ok z w) {b : Nat} {es : List MapEntry} {ck : Nat} (hb : MapB w b es ck)
 {key : Value} (hkey : IsKey d key) (hes : ∀ x ∈ es, IsKey d x.key) : (Instr.lookup T (.map (some b)) key true).run P w = .ok (.tuple #[lookIn d key es z, .bool (foundIn d key es)]) w := by
 have hb' : w.heap[b]? = some (.map es.toArray ck) := hb
 have h1 := run_checkKey (P := P) (w := w) hk hkey es.isEmpty 9999
 rcases findNow_spec hkey es 0 hes with ⟨hf, _⟩ | ⟨j, e, hf, _, _⟩
 · have h2 := run_findKey (P := P) (w := w) hk hf
   simp [Instr.lookup, run_underlying hu, Result.andThen, MapKept.run_getObj_map hb', h1, h2, hz, lookIn, foundIn, hf]
 · have h2 := run_findKey (P := P) (w := w) hk hf
   simp [Instr.lookup, run_underlying hu, Result.andThen, MapKept.run_getObj_map hb', h1, h2, lookIn, foundIn, hf]
theorem foundIn_kvS (t : List UInt8) : ∀ (l : List (List UInt8)) (k ck i : Nat), 0 < k → (match Instr.findNow .string (.string ⟨t.toArray⟩) (entsOf ck (kvS l k)) i with
 | some (some _) => true
 | _ => false) = decide (numIn l k t ≠ 0)
 | [], k, ck, i, _ => rfl
 | x :: l, k, ck, i, hk => by
  rw [kvS, entsOf, Instr.findNow, sameNow_str, numIn]
  by_cases h : t = x
  · rw [if_pos h, decide_eq_true h]
    simp
    omega
  · rw [if_neg h, decide_eq_false h]
    exact foundIn_kvS t l (k + 1) (ck + 1) (i + 1) (by omega)
theorem run_look2_kvS {P : Program} {w : World} {T K E : TypeId} (hu : P.underlying T = some (.map K E)) (hk : P.underlying K = some .string) (hz : (zeroValue E).run P w = .ok (.int .i64 0) w) {b ck : Nat} {l : List (List UInt8)} (hb : MapB w b (entsFrom [] 0 (kvS l 1)) ck)
 (t : List UInt8) : (Instr.lookup T (.map (some b)) (.string ⟨t.toArray⟩) true).run P w = .ok (.tuple #[.int .i64 (numIn l 1 t : Nat), .bool (decide (numIn l 1 t ≠ 0))]) w := by
 have h := run_look2 hu hk hz hb (d := .string) (key := .string ⟨t.toArray⟩) trivial (by rw [entsFrom_eq]; exact entsOf_key l 1 0)
 rw [look_kvS t l] at h
 have h2 : foundIn .string (.string ⟨t.toArray⟩) (entsFrom [] 0 (kvS l 1)) = decide (numIn l 1 t ≠ 0) := by
  rw [entsFrom_eq]
  exact foundIn_kvS t l 1 0 0 (by omega)
 rw [h2] at h
 exact h
theorem numIn_codeIn (t : List UInt8) : ∀ (l : List (List UInt8)) (k : Nat), numIn l k t = Rl.codeIn l k t
 | [], _ => rfl
 | x :: r, k => by
  rw [numIn, Rl.codeIn, numIn_codeIn t r (k + 1)]
theorem zero_int (w : World) : (zeroValue 3).run Tryd.prog w = .ok (.int .i64 0) w := by kernel_rfl
theorem look_marks {w : World} {b ck : Nat} (hb : MapB w b (entsFrom [] 0 (kvS Pn.marksL 1)) ck) (t : Bytes) : (Instr.lookup 130 (.map (some b)) (.string ⟨t.toArray⟩) true).run Tryd.prog w = .ok (.tuple #[.int .i64 (Rl.codeIn Pn.marksL 1 t : Nat), .bool (decide (Rl.codeIn Pn.marksL 1 t ≠ 0))]) w := by
 have := run_look2_kvS (P := Tryd.prog) Tryd.underlying130 Tryd.underlying9 (zero_int w) hb t
 rw [numIn_codeIn] at this
 exact this
end Go.Proofs.YtocadlcglgpdcaaDoor
namespace Go.Proofs.YtocadlcglgpdcaaDoor
set_option linter.unusedVariables false
set_option linter.unusedSimpArgs false
open Go Go.RowKit Go.Shelf
open Lx (Tk)
theorem results_row_tmp {P : Program} {fn : Func} {p q : Tmp} {ty2 : TypeId} (h : fn.results = #[.cell q ty2, .tmp p]) (tmps : Array Value) (v : Value) (hv : tmps.getD p undef = v) (w : World) (g2 : Nat) (t2 : TypeId) (cs2 : Array Value) (fr2 : Nat × Nat) (d2 : TypeDesc)
 (hq : tmps.getD q undef = .pointer (some ⟨g2, 0, none⟩)) (hg2 : w.heap[g2]? = some (.cells cs2 t2 fr2))
 (hu2 : P.underlying ty2 = some d2) (hd2 : (match d2 with | .struct _ | .array _ _ => true | _ => false) = true) (hi2 : (P.info? ty2).map (·.size) = some cs2.size) :
 (results fn tmps).run P w = .ok (.tuple #[.agg cs2, v]) w := by
 have hv' : tmps[p]?.getD undef = v := by simpa using hv
 have hq' : tmps[q]?.getD undef = .pointer (some ⟨g2, 0, none⟩) := by simpa using hq
 simp [results, h, hv', hq', asAddr, Sem.run_bind, Result.andThen, run_loadVar_row w g2 t2 ty2 cs2 fr2 d2 hg2 hu2 hd2 hi2]
theorem mkc_cons (t : Tk) (r : List Tk) (h : t.kind = 1) : Pn.mkc (t :: r) = Rl.codeIn Pn.marksL 1 t.text := by
 unfold Pn.mkc
 rw [if_pos (by simp [Rl.is, h])]
 rfl
theorem mkc_other (t : Tk) (r : List Tk) (h : t.kind ≠ 1) : Pn.mkc (t :: r) = 0 := by
 unfold Pn.mkc
 rw [if_neg (by simp [Rl.is, h])]
set_option maxHeartbeats 2000000 in
set_option maxRecDepth 100000 in
theorem mark_two {w : World} {b en : Nat} {l : List Tk} (HP : Hid (Pp w b l en)) {R : Ending → World → Prop}
 (hno : ∀ (w' : World), Hid (Pn.mkc l = 0) → Hid (Chg [] w w') → R (.returned (.tuple #[.agg #[.int .i64 0, .int .i64 0, .int .i64 0], .bool false])) w')
 (hok : ∀ (m : Pn.Mk) (r : List Tk) (w' : World), Hid (Pn.mkc l ≠ 0) → Hid (Pn.mark l = .ok m r) → Hid (Pp w' b r en) → Hid (Chg [b] w w') → R (.returned (.tuple #[.agg #[.int .i64 (m.kind : Nat), .int .i64 (m.seat : Nat), .int .i64 (m.w : Nat)], .bool true])) w')
 (hbad : ∀ (c : Nat) (r : List Tk) (w' : World), Hid (Pn.mkc l ≠ 0) → Hid (Pn.mark l = .bad c r) → Hid (Chg [b] w w') → R (.panicked [{ v := flt c r en, recovered := false }]) w') :
 Calls Tryd.prog 70 #[.pointer (some ⟨b, 0, none⟩)] w R := by
 refine (show Calls Tryd.prog 70 #[.pointer (some ⟨b, 0, none⟩)] w (fun e w' => (e = .returned (.tuple #[.agg #[.int .i64 0, .int .i64 0, .int .i64 0], .bool false]) ∧ Hid (Pn.mkc l = 0) ∧ Hid (Chg [] w w')) ∨ (∃ m r, e = .returned (.tuple #[.agg #[.int .i64 (m.kind : Nat), .int .i64 (m.seat : Nat), .int .i64 (m.w : Nat)], .bool true]) ∧ Hid (Pn.mkc l ≠ 0) ∧ Hid (Pn.mark l = .ok m r) ∧ Hid (Pp w' b r en) ∧ Hid (Chg [b] w w')) ∨ (∃ c r, e = .panicked [{ v := flt c r en, recovered := false }] ∧ Hid (Pn.mkc l ≠ 0) ∧ Hid (Pn.mark l = .bad c r) ∧ Hid (Chg [b] w w'))) from ?_).mono (fun e w' hx => by
  rcases hx with ⟨rfl, h1, h2⟩ | ⟨m, r, rfl, h1, h2, h3, h4⟩ | ⟨c, r, rfl, h1, h2, h3⟩
  · exact hno w' h1 h2
  · exact hok m r w' h1 h2 h3 h4
  · exact hbad c r w' h1 h2 h3)
 clear hno hok hbad
 have HBW : Hid (b < w.heap.size) := hd HP.out.lt
 go_enter Tryd.func70, Tryd.ntmps70
 go_upto_region 1 with fail
 obtain ⟨W1, hW⟩ : ∃ W, W = (w.alloc (.cells #[.int .i64 0, .int .i64 0, .int .i64 0] 64)) := ⟨_, rfl⟩
 rw [← hW]
 obtain ⟨X2, hX2⟩ : ∃ T, T = w.heap.size := ⟨_, rfl⟩
 try rw [← hX2]
 have OX2 : Hid (w.heap.size ≤ X2) := hd (by rw [hX2]; exact Nat.le_refl _)
 have HX2_1 : Hid (Blk W1 X2 [.int .i64 0, .int .i64 0, .int .i64 0] 64) := hd (by
  have h1 := Blk.new w [.int .i64 0, .int .i64 0, .int .i64 0] 64
  have h2 : w.heap.size = X2 := by simp [hX2]
  rw [h2] at h1
  rw [hW]
  exact h1)
 have BX2 : Hid (b < X2) := hd (by have h1 := HBW.out; have OX2_ := OX2.out; omega)
 have KE_1 : Hid (Chg [] w W1) := hd (by rw [hW]; exact ((Chg.refl [] w).alloc _))
 have KP_1 : Hid (Chg [] w W1) := hd (by rw [hW]; exact ((Chg.refl [] w).alloc _))
 clear hW hX2
 have hmm := @run_makeMap Tryd.prog
 go_upto_region 2 with (refine wpList_inserts 130 (.tmp 5) 9 3 .string Tryd.underlying130 Tryd.underlying9 _ rfl [_, _, _, _] (kvS Pn.marksL 1) _ [] 0 rfl (MapB.new _) (by intro kv h; simp [kvS, Pn.marksL] at h; rcases h with rfl | rfl | rfl | rfl <;> trivial) (by kernel_rfl) ?_; intro w3 hb3 hc3 hs3)
 obtain ⟨M, hM⟩ : ∃ M, M = W1.heap.size := ⟨_, rfl⟩
 rw [← hM] at hb3 hc3
 try rw [← hM]
 have HM : Hid (MapB w3 M (entsFrom [] 0 (kvS Pn.marksL 1)) 4) := hd hb3
 have HXM : Hid (X2 < M) := hd (by rw [hM]; exact HX2_1.out.lt)
 have HCM : Hid (Chg [] W1 w3) := hd (((Chg.refl _ _).alloc _).trans hc3 (fun k hk => .inr (by simp only [List.mem_cons, List.not_mem_nil, or_false] at hk; rw [hk, hM]; exact Nat.le_refl _)))
 clear hb3 hc3 hs3 hM hmm
 have HX2_2 : Hid (Blk w3 X2 [.int .i64 0, .int .i64 0, .int .i64 0] 64) := hd (HCM.out.blk HX2_1.out (by simp))
 have KE_2 := hd (KE_1.out.trans HCM.out (by simp))
 have KP_2 := hd (KP_1.out.trans HCM.out (by simp))
 have HP3 : Hid (Pp w3 b l en) := hd (HP.out.keep KP_2.out (by simp))
 have HCN := KE_2
 cases l with
 | nil =>
  obtain ⟨n, ao, cap, hb⟩ := HP3.out.nil
  have c0 := hb.cell (i := 0) rfl
  have c1 := hb.cell (i := 1) rfl
  have n0 : ((n : Int) == (n : Int)) = true := beq_self_eq_true _
  clear hb
  go_quiet (fail)
  obtain ⟨cX2_0, cX2_1, cX2_2⟩ := HX2_2.out.c3
  obtain ⟨cX2_f0, cX2_f1, cX2_f2⟩ := HX2_2.out.f3
  go_wp2_with fail
  clear cX2_0 cX2_1 cX2_2 cX2_f0 cX2_f1 cX2_f2
  obtain ⟨W4, hW⟩ : ∃ W, W = ((((w3.drewN nq).setCell ⟨X2, 0, none⟩ (.int .i64 0)).setCell ⟨X2, 1, none⟩ (.int .i64 0)).setCell ⟨X2, 2, none⟩ (.int .i64 0)) := ⟨_, rfl⟩
  rw [← hW]
  have HB4 : Hid (Blk W4 X2 [.int .i64 0, .int .i64 0, .int .i64 0] 64) := hd (by rw [hW]; exact ((((chg_drewN w3 nq).blk HX2_2.out (by simp)).set 0 _).set 1 _).set 2 _)
  have HC4 : Hid (Chg [] w W4) := hd (by rw [hW]; exact ((((HCN.out.trans (chg_drewN w3 nq) (by simp)).setCell _ _ (.inr OX2.out)).setCell _ _ (.inr OX2.out)).setCell _ _ (.inr OX2.out)))
  clear hW
  (try simp only [Exit.inBlock, Exit.then])
  refine bodyPost_ret (results_row_tmp rfl _ (.bool false) rfl _ X2 64 #[.int .i64 0, .int .i64 0, .int .i64 0] (0, 0) _ rfl HB4.out Tryd.underlying64 rfl (by kernel_rfl)) rfl ?_
  exact .inl ⟨rfl, hd (rfl), HC4⟩
 | cons t r =>
  obtain ⟨n, i, g, off, cap, hi, hn, hb, hcap, hgb, ⟨k0, k1, k2, k3⟩, hstep⟩ := HP3.out.cons
  have HB := hd hb
  have HST := hd hstep
  have HIN := hd (And.intro hi hn)
  have HGB := hd hgb
  have c0 := hb.cell (i := 0) rfl
  have c1 := hb.cell (i := 1) rfl
  have n0 : ((i : Int) == (n : Int)) = false := beq_eq_false_iff_ne.2 (by omega)
  have n1 : (0 : Int) ≤ (i : Int) := by omega
  have n2 : (i : Int) < (n : Int) := by omega
  have n3 : ((i : Int)).toNat = i := by omega
  have HK1 := hd k1
  clear hb hstep hgb
  by_cases hk : t.kind = 1
  · skip
    have m0 : ((t.kind : Int) != 1) = false := by rw [hk]; rfl
    obtain ⟨q, hq⟩ : ∃ q, Rl.codeIn Pn.marksL 1 t.text = q := ⟨_, rfl⟩
    have HMQ : Hid (Pn.mkc (t :: r) = q) := hd ((mkc_cons t r hk).trans hq)
    have HQE := hd hq
    clear hk hq
    go_quiet (fail)
    go_upto_region 4 with fail
    clear c0 c1 k0 k1 k2 k3 m0
    obtain ⟨W4, hW⟩ : ∃ W, W = w3.drewN nq := ⟨_, rfl⟩
    rw [← hW]
    have HCQ : Hid (Chg [] w3 W4) := hd (by rw [hW]; exact chg_drewN _ _)
    clear hW
    have NX2_b : X2 ≠ b := by have h1 := HBW.out; have OX2_ := OX2.out; omega
    have Nb_X2 : b ≠ X2 := NX2_b.symm
    have HX2_3 := hd (HCQ.out.blk HX2_2.out (by simp))
    have KP_3 := hd ((Chg.refl [X2] w3).trans HCQ.out (by simp))
    have HB4 := hd (HCQ.out.blk HB.out (by simp))
    have Z0 := hd (HB4.out.cell (i := 0) rfl)
    have Z1 := hd (HB4.out.cell (i := 1) rfl)
    have HM4 := hd (HM.out.keep HCQ.out (by simp))
    have HK14 := hd (cell_quiet HCQ.out HK1.out (by simp))
    have NgX : g ≠ X2 := by have h1 := HGB.out; have h2 := BX2.out; omega
    have NMX : M ≠ X2 := by have h1 := HXM.out; omega
    have HLK : Hid (∀ W, Chg [X2] W4 W → (Instr.lookup 130 (.map (some M)) (.string ⟨t.text.toArray⟩) true).run Tryd.prog W = .ok (.tuple #[.int .i64 (q : Nat), .bool (decide (q ≠ 0))]) W) := hd (fun W h => by rw [← HQE.out]; exact look_marks (HM4.out.keep h (by simp [NMX])) t.text)
    refine wp_region_held_drew (S := fun W' => Chg [X2] W4 W') (by kernel_rfl) (Chg.refl _ _).drew (fun hHeld => ?_)
    refine tk 0 (v := ?vt0) rfl (by kernel_rfl) (fun _ _ _ h => h) ?hyt0 (by assumption) ?rst0
    case hyt0 => (intro w9 hSw; go_simp; try with_reducible rfl)
    try simp only [qq]
    refine tk 1 (v := ?vt1) rfl (by kernel_rfl) (fun _ _ _ h => h) ?hyt1 (by assumption) ?rst1
    case hyt1 => (intro w9 hSw; go_simp; try with_reducible rfl)
    try simp only [qq]
    refine tk 2 (v := ?vt2) rfl (by kernel_rfl) (fun _ _ _ h => h) ?hyt2 (by assumption) ?rst2
    case hyt2 => (intro w9 hSw; go_simp; try with_reducible rfl)
    try simp only [qq]
    refine tk 3 (v := ?vt3) rfl (by kernel_rfl) (fun _ _ _ h => h) ?hyt3 (by assumption) ?rst3
    case hyt3 => (intro w9 hSw; go_simp; try with_reducible rfl)
    try simp only [qq]
    refine tk 4 (v := ?vt4) rfl (by kernel_rfl) (fun _ _ _ h => h) ?hyt4 (by assumption) ?rst4
    case hyt4 => (intro w9 hSw; have e0 := cell_quiet hSw Z0.out (by simp [NX2_b, NX2_b.symm]); go_simp; try with_reducible rfl)
    try simp only [qq]
    refine tk 5 (v := ?vt5) rfl (by kernel_rfl) (fun _ _ _ h => h) ?hyt5 (by assumption) ?rst5
    case hyt5 => (intro w9 hSw; go_simp; try with_reducible rfl)
    try simp only [qq]
    refine tk 6 (v := ?vt6) rfl (by kernel_rfl) (fun _ _ _ h => h) ?hyt6 (by assumption) ?rst6
    case hyt6 => (intro w9 hSw; go_simp; try with_reducible rfl)
    try simp only [qq]
    refine tk 7 (v := ?vt7) rfl (by kernel_rfl) (fun _ _ _ h => h) ?hyt7 (by assumption) ?rst7
    case hyt7 => (intro w9 hSw; go_simp; try with_reducible rfl)
    try simp only [qq]
    refine tk 8 (v := ?vt8) rfl (by kernel_rfl) (fun _ _ _ h => h) ?hyt8 (by assumption) ?rst8
    case hyt8 => (intro w9 hSw; have e0 := cell_quiet hSw Z1.out (by simp [NX2_b, NX2_b.symm]); go_simp; try with_reducible rfl)
    try simp only [qq]
    refine tk 9 (v := ?vt9) rfl (by kernel_rfl) (fun _ _ _ h => h) ?hyt9 (by assumption) ?rst9
    case hyt9 => (intro w9 hSw; go_simp; try with_reducible rfl)
    try simp only [qq]
    refine tk 10 (v := ?vt10) rfl (by kernel_rfl) (fun _ _ _ h => h) ?hyt10 (by assumption) ?rst10
    case hyt10 => (intro w9 hSw; go_simp; try with_reducible rfl)
    try simp only [qq]
    refine tk 11 (v := ?vt11) rfl (by kernel_rfl) (fun _ _ _ h => h) ?hyt11 (by assumption) ?rst11
    case hyt11 => (intro w9 hSw; have e0 := cell_quiet hSw HK14.out (by simp [NgX]); go_simp; try with_reducible rfl)
    try simp only [qq]
    refine tk 12 (v := ?vt12) rfl (by kernel_rfl) (fun _ _ _ h => h) ?hyt12 (by assumption) ?rst12
    case hyt12 => (intro w9 hSw; have e0 := HLK.out w9 hSw; go_simp; try with_reducible rfl)
    try simp only [qq]
    refine tk 13 (v := ?vt13) rfl (by kernel_rfl) (fun _ _ _ h => h) ?hyt13 (by assumption) ?rst13
    case hyt13 => (intro w9 hSw; go_simp; try with_reducible rfl)
    try simp only [qq]
    refine tk 14 (v := ?vt14) rfl (by kernel_rfl) (fun _ _ _ h => h) ?hyt14 (by assumption) ?rst14
    case hyt14 => (intro w9 hSw; go_simp; try with_reducible rfl)
    try simp only [qq]
    refine tk 15 (v := ?vt15) rfl (by kernel_rfl) (fun _ _ _ h => h) ?hyt15 (by assumption) ?rst15
    case hyt15 => (intro w9 hSw; go_simp; try with_reducible rfl)
    try simp only [qq]
    refine tk 16 (v := ?vt16) rfl (by kernel_rfl) (fun _ _ _ h => h) ?hyt16 (by assumption) ?rst16
    case hyt16 => (intro w9 hSw; go_simp; try with_reducible rfl)
    try simp only [qq]
    obtain ⟨Z, hZ⟩ : ∃ Z, Z = W4.drew := ⟨_, rfl⟩
    rw [← hZ] at hHeld ⊢
    have HQ : Hid (Blk Z X2 [.int .i64 0, .int .i64 0, .int .i64 0] 64) := hd (by rw [hZ]; exact HX2_3.out.drew)
    clear hZ
    refine rd1 17 (by kernel_rfl) rfl (fun K hK => ?_)
    have x0 := HQ.out.cell (i := 0) rfl
    have xf0 := HQ.out.free 0
    go_simp
    refine hK.out _ _ (hHeld.setCell _ _ (.inl (by simp))) (fun hHeld => ?_)
    clear hK K x0 xf0
    try simp only [qq]
    obtain ⟨Z1', hZ⟩ : ∃ W, W = Z.setCell ⟨X2, 0, none⟩ (.int .i64 (q : Nat)) := ⟨_, rfl⟩
    rw [← hZ] at hHeld ⊢
    have HQ1 : Hid (Blk Z1' X2 [.int .i64 (q : Nat), .int .i64 0, .int .i64 0] 64) := hd (by rw [hZ]; exact HQ.out.set 0 _)
    clear hZ
    refine tk 18 (v := ?vt18) rfl (by kernel_rfl) (fun _ _ _ h => h) ?hyt18 (by assumption) ?rst18
    case hyt18 => (intro w9 hSw; go_simp; try with_reducible rfl)
    try simp only [qq]
    refine wpAnyH_done (by kernel_rfl) ?_ _
    try simp only [qq]
    have HH := hd hHeld
    clear hHeld
    have HPZ : Hid (Pp Z1' b (t :: r) en) := hd (((HP3.out.keep KP_3.out (al1 BX2.out))).keep HH.out (fun k hk => by simp only [List.mem_cons, List.not_mem_nil, or_false] at hk; rw [hk]; exact BX2.out))
    have HBZ := hd (HH.out.blk HB4.out (by simp [NX2_b, NX2_b.symm]))
    have HCZ : Hid (Chg [] w Z1') := hd ((HCN.out.trans HCQ.out (by simp)).trans HH.out (fun k hk => .inr (by simp only [List.mem_cons, List.not_mem_nil, or_false] at hk; rw [hk]; exact OX2.out)))
    have HCZb : Hid (Chg [b] w Z1') := hd (HCZ.out.mono (by simp))
    by_cases hq : q = 0
    · skip
      subst hq
      skip
      obtain ⟨cX2_0, cX2_1, cX2_2⟩ := HQ1.out.c3
      obtain ⟨cX2_f0, cX2_f1, cX2_f2⟩ := HQ1.out.f3
      go_wp2_with fail
      clear cX2_0 cX2_1 cX2_2 cX2_f0 cX2_f1 cX2_f2
      obtain ⟨W6, hW⟩ : ∃ W, W = (((Z1'.setCell ⟨X2, 0, none⟩ (.int .i64 0)).setCell ⟨X2, 1, none⟩ (.int .i64 0)).setCell ⟨X2, 2, none⟩ (.int .i64 0)) := ⟨_, rfl⟩
      rw [← hW]
      have HB6 : Hid (Blk W6 X2 [.int .i64 0, .int .i64 0, .int .i64 0] 64) := hd (by rw [hW]; exact ((HQ1.out.set 0 (.int .i64 0)).set 1 (.int .i64 0)).set 2 (.int .i64 0))
      have HC6 := hd (HCZ.out.s3 hW (.inr OX2.out))
      clear hW
      (try simp only [Exit.inBlock, Exit.then])
      refine bodyPost_ret (results_row_tmp rfl _ (.bool false) rfl _ X2 64 #[.int .i64 0, .int .i64 0, .int .i64 0] (0, 0) _ rfl HB6.out Tryd.underlying64 rfl (by kernel_rfl)) rfl ?_
      exact .inl ⟨rfl, HMQ, HC6⟩
    · have HQN := hd hq
      have qd : decide (q ≠ 0) = true := decide_eq_true hq
      have hmk : Pn.mkc (t :: r) ≠ 0 := by rw [HMQ.out]; exact hq
      have HMN := hd hmk
      clear hmk hq
      have HO : Hid (Pn.mark (t :: r) = (Pn.num r).bind fun n l1 => if q = 4 then (Pn.must Pn.wOf l1).bind fun _ l2 => (Pn.num l2).bind fun w l3 => .ok ⟨q, n, w⟩ l3 else .ok ⟨q, n, 0⟩ l1) := hd (by unfold Pn.mark; rw [HMQ.out]; rfl)
      obtain ⟨n2, i2, g2, o2, cap2, hi2, hn2, hb2, hcap2, hgb2, -, hstep2⟩ := HPZ.out.cons
      have HB2' := hd hb2
      have HST2 := hd hstep2
      have z1 := hb2.cell (i := 1) rfl
      have zf1 := hb2.free 1
      clear hb2 hstep2 hcap2 hgb2
      go_upto_region 8 with fail
      clear z1 zf1 qd
      obtain ⟨W7, hW⟩ : ∃ W, W = Z1'.setCell ⟨b, 1, none⟩ (.int .i64 ((i2 : Int) + 1)) := ⟨_, rfl⟩
      rw [← hW]
      have HC7 : Hid (Chg [b] Z1' W7) := hd (by rw [hW]; exact (Chg.refl _ _).setCell _ _ (.inl (by simp)))
      have HP7 : Hid (Pp W7 b r en) := hd (HST2.out _ HC7.out (by rw [hW]; exact HB2'.out.set 1 _))
      clear hW
      have HX2_4 : Hid (Blk W7 X2 [.int .i64 (q : Nat), .int .i64 0, .int .i64 0] 64) := hd (HC7.out.blk HQ1.out (by simp [NX2_b]))
      have C4 := hd (HCZb.out.trans HC7.out (al1 (.inl (by simp))))
      go_wp2_with fail
      obtain ⟨W5, hW⟩ : ∃ W, W = (W7.alloc (.cells #[.pointer (some ⟨X2, 1, none⟩)] 73)) := ⟨_, rfl⟩
      rw [← hW]
      obtain ⟨Q8, hQ8⟩ : ∃ T, T = W7.heap.size := ⟨_, rfl⟩
      try rw [← hQ8]
      have OQ8 : Hid (X2 < Q8) := hd (by rw [hQ8]; exact HX2_4.out.lt)
      have HX2_5 := hd (HX2_4.out.alE hW)
      have HQ8_5 : Hid (Blk W5 Q8 [.pointer (some ⟨X2, 1, none⟩)] 73) := hd (by
       have h1 := Blk.new W7 [.pointer (some ⟨X2, 1, none⟩)] 73
       have h2 : W7.heap.size = Q8 := by simp [hQ8]
       rw [h2] at h1
       rw [hW]
       exact h1)
      have BQ8 : Hid (b < Q8) := hd (by have h1 := HBW.out; have OX2_ := OX2.out; have OQ8_ := OQ8.out; omega)
      have C5 := hd (C4.out.alE hW)
      have KP_5 : Hid (Chg [X2] W7 W5) := hd (by rw [hW]; exact ((Chg.refl [X2] W7).alloc _))
      clear hW hQ8
      have NQ8_b : Q8 ≠ b := by have h1 := HBW.out; have OX2_ := OX2.out; have OQ8_ := OQ8.out; omega
      have Nb_Q8 : b ≠ Q8 := NQ8_b.symm
      have NQ8_X2 : Q8 ≠ X2 := by have OQ8_ := OQ8.out; omega
      refine num1_two (o := 1) (hd (HP7.out.keep KP_5.out (al1 BX2.out))) HQ8_5 HX2_5 (by simp) (hd ⟨BX2.out, NQ8_b, NQ8_X2⟩) (fun x8 r8 w8 HM8 HP8 HD8 HC8 => ?_) (fun c r w9 HMb HCb => ?_)
      · skip
        have HQ8_6 : Hid (Blk w8 Q8 [.pointer (some ⟨X2, 1, none⟩)] 73) := hd (HC8.out.blk HQ8_5.out (by simp [NQ8_b, NQ8_X2]))
        have C6 := hd (C5.out.trans HC8.out (al2 (.inl (by simp)) (.inr (by have OX2_ := OX2.out; show w.heap.size ≤ X2; omega))))
        have HO1 := hd (good5 HO.out HM8.out)
        by_cases h4 : q = 4
        · have q4 : ((q : Int) == 4) = true := by rw [h4]; rfl
          have HO2 : Hid (Pn.mark (t :: r) = (Pn.must Pn.wOf r8).bind fun _ l2 => (Pn.num l2).bind fun w l3 => .ok ⟨q, x8, w⟩ l3) := hd (by rw [HO1.out]; (try simp only); rw [if_pos h4])
          clear h4
          obtain ⟨cX2_0, cX2_1, cX2_2⟩ := HD8.out.c3
          go_wp2_with fail
          clear q4 cX2_0 cX2_1 cX2_2
          refine must_two (hd HP8.out) [111, 102] (fun r10 w10 HM10 HP10 HC10 => ?_) (fun c r w9 HMb HCb => ?_)
          · skip
            have HX2_7 : Hid (Blk w10 X2 [.int .i64 (q : Nat), .int .i64 (x8 : Nat), .int .i64 0] 64) := hd (HC10.out.blk HD8.out (by simp [NX2_b]))
            have HQ8_7 := hd (HC10.out.blk HQ8_6.out (by simp [NQ8_b]))
            have C7 := hd (C6.out.trans HC10.out (al1 (.inl (by simp))))
            have HO3 := hd (good5 HO2.out HM10.out)
            go_wp2_with fail
            obtain ⟨W8, hW⟩ : ∃ W, W = (w10.alloc (.cells #[.pointer (some ⟨X2, 2, none⟩)] 73)) := ⟨_, rfl⟩
            rw [← hW]
            obtain ⟨Q11, hQ11⟩ : ∃ T, T = w10.heap.size := ⟨_, rfl⟩
            try rw [← hQ11]
            have OQ11 : Hid (Q8 < Q11) := hd (by rw [hQ11]; exact HQ8_7.out.lt)
            have HX2_8 := hd (HX2_7.out.alE hW)
            have HQ11_8 : Hid (Blk W8 Q11 [.pointer (some ⟨X2, 2, none⟩)] 73) := hd (by
             have h1 := Blk.new w10 [.pointer (some ⟨X2, 2, none⟩)] 73
             have h2 : w10.heap.size = Q11 := by simp [hQ11]
             rw [h2] at h1
             rw [hW]
             exact h1)
            have BQ11 : Hid (b < Q11) := hd (by have h1 := HBW.out; have OX2_ := OX2.out; have OQ8_ := OQ8.out; have OQ11_ := OQ11.out; omega)
            have C8 := hd (C7.out.alE hW)
            have KP_8 : Hid (Chg [X2, Q8] w10 W8) := hd (by rw [hW]; exact ((Chg.refl [X2, Q8] w10).alloc _))
            clear hW hQ11
            have NQ11_b : Q11 ≠ b := by have h1 := HBW.out; have OX2_ := OX2.out; have OQ8_ := OQ8.out; have OQ11_ := OQ11.out; omega
            have Nb_Q11 : b ≠ Q11 := NQ11_b.symm
            have NQ11_X2 : Q11 ≠ X2 := by have OQ8_ := OQ8.out; have OQ11_ := OQ11.out; omega
            refine num1_two (o := 2) (hd (HP10.out.keep KP_8.out (al2 BX2.out BQ8.out))) HQ11_8 HX2_8 (by simp) (hd ⟨BX2.out, NQ11_b, NQ11_X2⟩) (fun x11 r11 w11 HM11 HP11 HD11 HC11 => ?_) (fun c r w9 HMb HCb => ?_)
            · skip
              have C9 := hd (C8.out.trans HC11.out (al2 (.inl (by simp)) (.inr (by have OX2_ := OX2.out; show w.heap.size ≤ X2; omega))))
              have HO4 := hd (good5 HO3.out HM11.out)
              obtain ⟨cX2_0, cX2_1, cX2_2⟩ := HD11.out.c3
              obtain ⟨cX2_f0, cX2_f1, cX2_f2⟩ := HD11.out.f3
              go_wp2_with fail
              clear cX2_0 cX2_1 cX2_2 cX2_f0 cX2_f1 cX2_f2
              obtain ⟨W10, hW⟩ : ∃ W, W = (((w11.setCell ⟨X2, 0, none⟩ (.int .i64 (q : Nat))).setCell ⟨X2, 1, none⟩ (.int .i64 (x8 : Nat))).setCell ⟨X2, 2, none⟩ (.int .i64 (x11 : Nat))) := ⟨_, rfl⟩
              rw [← hW]
              have HX2_10 : Hid (Blk W10 X2 [.int .i64 (q : Nat), .int .i64 (x8 : Nat), .int .i64 (x11 : Nat)] 64) := hd (by rw [hW]; exact (((HD11.out.set 0 (.int .i64 (q : Nat))).set 1 (.int .i64 (x8 : Nat))).set 2 (.int .i64 (x11 : Nat))))
              have C10 := hd (C9.out.s3 hW (.inr (by have OX2_ := OX2.out; show w.heap.size ≤ X2; omega)))
              have KP_10 := hd ((Chg.refl [X2, Q8, Q11] w11).s3 hW (.inl (by simp)))
              clear hW
              (try simp only [Exit.inBlock, Exit.then])
              refine bodyPost_ret (results_row_tmp rfl _ (.bool true) rfl _ X2 64 #[.int .i64 (q : Nat), .int .i64 (x8 : Nat), .int .i64 (x11 : Nat)] (0, 0) _ rfl HX2_10.out Tryd.underlying64 rfl (by kernel_rfl)) rfl ?_
              exact .inr (.inl ⟨⟨q, x8, x11⟩, _, rfl, HMN, HO4, hd (HP11.out.keep KP_10.out (al3 BX2.out BQ8.out BQ11.out)), C10⟩)
            · go_wp2_with fail
              exact ⟨rfl, .inr (.inr ⟨c, r, rfl, HMN, hd (bad5 HO3.out HMb.out), hd (C8.out.trans HCb.out (al2 (.inl (by simp)) (.inr (by have OX2_ := OX2.out; show w.heap.size ≤ X2; omega))))⟩)⟩
          · go_wp2_with fail
            exact ⟨rfl, .inr (.inr ⟨c, r, rfl, HMN, hd (bad5 HO2.out HMb.out), hd (C6.out.trans HCb.out (al1 (.inl (by simp))))⟩)⟩
        · have q4 : ((q : Int) == 4) = false := beq_eq_false_iff_ne.2 (by omega)
          have HO2 : Hid (Pn.mark (t :: r) = .ok ⟨q, x8, 0⟩ r8) := hd (by rw [HO1.out]; (try simp only); rw [if_neg h4])
          clear h4
          obtain ⟨cX2_0, cX2_1, cX2_2⟩ := HD8.out.c3
          go_upto_region 12 with fail
          clear q4 cX2_0 cX2_1 cX2_2
          obtain ⟨cX2_0, cX2_1, cX2_2⟩ := HD8.out.c3
          obtain ⟨cX2_f0, cX2_f1, cX2_f2⟩ := HD8.out.f3
          go_wp2_with fail
          clear cX2_0 cX2_1 cX2_2 cX2_f0 cX2_f1 cX2_f2
          obtain ⟨W7, hW⟩ : ∃ W, W = (((w8.setCell ⟨X2, 0, none⟩ (.int .i64 (q : Nat))).setCell ⟨X2, 1, none⟩ (.int .i64 (x8 : Nat))).setCell ⟨X2, 2, none⟩ (.int .i64 0)) := ⟨_, rfl⟩
          rw [← hW]
          have HX2_7 : Hid (Blk W7 X2 [.int .i64 (q : Nat), .int .i64 (x8 : Nat), .int .i64 0] 64) := hd (by rw [hW]; exact (((HD8.out.set 0 (.int .i64 (q : Nat))).set 1 (.int .i64 (x8 : Nat))).set 2 (.int .i64 0)))
          have C7 := hd (C6.out.s3 hW (.inr (by have OX2_ := OX2.out; show w.heap.size ≤ X2; omega)))
          have KP_7 := hd ((Chg.refl [X2, Q8] w8).s3 hW (.inl (by simp)))
          clear hW
          (try simp only [Exit.inBlock, Exit.then])
          refine bodyPost_ret (results_row_tmp rfl _ (.bool true) rfl _ X2 64 #[.int .i64 (q : Nat), .int .i64 (x8 : Nat), .int .i64 0] (0, 0) _ rfl HX2_7.out Tryd.underlying64 rfl (by kernel_rfl)) rfl ?_
          exact .inr (.inl ⟨⟨q, x8, 0⟩, _, rfl, HMN, HO2, hd (HP8.out.keep KP_7.out (al2 BX2.out BQ8.out)), C7⟩)
      · go_wp2_with fail
        exact ⟨rfl, .inr (.inr ⟨c, r, rfl, HMN, hd (bad5 HO.out HMb.out), hd (C5.out.trans HCb.out (al2 (.inl (by simp)) (.inr (by have OX2_ := OX2.out; show w.heap.size ≤ X2; omega))))⟩)⟩
  · have m0 : ((t.kind : Int) != 1) = true := bne_iff_ne.2 (by omega)
    have hmk : Pn.mkc (t :: r) = 0 := mkc_other t r hk
    have HMK := hd hmk
    clear hk hmk
    go_quiet (fail)
    obtain ⟨cX2_0, cX2_1, cX2_2⟩ := HX2_2.out.c3
    obtain ⟨cX2_f0, cX2_f1, cX2_f2⟩ := HX2_2.out.f3
    go_wp2_with fail
    clear cX2_0 cX2_1 cX2_2 cX2_f0 cX2_f1 cX2_f2
    obtain ⟨W4, hW⟩ : ∃ W, W = ((((w3.drewN nq).setCell ⟨X2, 0, none⟩ (.int .i64 0)).setCell ⟨X2, 1, none⟩ (.int .i64 0)).setCell ⟨X2, 2, none⟩ (.int .i64 0)) := ⟨_, rfl⟩
    rw [← hW]
    have HB4 : Hid (Blk W4 X2 [.int .i64 0, .int .i64 0, .int .i64 0] 64) := hd (by rw [hW]; exact ((((chg_drewN w3 nq).blk HX2_2.out (by simp)).set 0 _).set 1 _).set 2 _)
    have HC4 : Hid (Chg [] w W4) := hd (by rw [hW]; exact ((((HCN.out.trans (chg_drewN w3 nq) (by simp)).setCell _ _ (.inr OX2.out)).setCell _ _ (.inr OX2.out)).setCell _ _ (.inr OX2.out)))
    clear hW
    (try simp only [Exit.inBlock, Exit.then])
    refine bodyPost_ret (results_row_tmp rfl _ (.bool false) rfl _ X2 64 #[.int .i64 0, .int .i64 0, .int .i64 0] (0, 0) _ rfl HB4.out Tryd.underlying64 rfl (by kernel_rfl)) rfl ?_
    exact .inl ⟨rfl, hd (HMK.out), HC4⟩
end Go.Proofs.YtocadlcglgpdcaaDoor

