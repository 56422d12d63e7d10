/-
  Rule, layer 13: head, the examples of the chapter.
-/
import Derived.Test.YtmfjebpefneboaaDoorRlL
namespace Go.Proofs.YtmfjebpefneboaaDoor
set_option linter.unusedVariables false
set_option linter.unusedSimpArgs false
open Go Go.RowKit Go.Shelf
open Lx (Tk)
attribute [local go_sem ↓] Go.wp_at_zero Go.wp_at_succ

def ita : Rl.Itm := ⟨1, [97], [[⟨[116, 105, 109, 101], 6, [], 100, 21⟩, ⟨[109, 101, 109, 98, 101, 114], 1, [], 1, 37⟩], [⟨[97, 103, 101], 3, [], 18, 51⟩]], 4, (0, 0), (0, 0), 0⟩
def itb : Rl.Itm := ⟨3, [112], [], 5000, (1, 10), (0, 1), 0⟩
def itc : Rl.Itm := ⟨2, [100], [[⟨[98, 108, 111, 99, 107], 1, [115, 116, 97, 108, 108, 115, 46, 97], 0, 12⟩]], 0, (0, 0), (0, 0), 0⟩
theorem parse_a : Rl.parse [97, 108, 108, 111, 119, 32, 97, 32, 108, 105, 109, 105, 116, 32, 52, 32, 119, 104, 101, 110, 32, 116, 105, 109, 101, 32, 62, 61, 32, 49, 48, 48, 32, 97, 110, 100, 32, 109, 101, 109, 98, 101, 114, 32, 61, 32, 49, 32, 111, 114, 32, 97, 103, 101, 32, 60, 32, 49, 56, 59] = ([ita], 0, 0) := by decide +kernel
theorem lit_a (w : World) : Calls Tryd.prog 11 #[.string ⟨#[97, 108, 108, 111, 119, 32, 97, 32, 108, 105, 109, 105, 116, 32, 52, 32, 119, 104, 101, 110, 32, 116, 105, 109, 101, 32, 62, 61, 32, 49, 48, 48, 32, 97, 110, 100, 32, 109, 101, 109, 98, 101, 114, 32, 61, 32, 49, 32, 111, 114, 32, 97, 103, 101, 32, 60, 32, 49, 56, 59]⟩] w fun e w' => ∃ ao cap, e = .returned (.tuple #[.agg #[.slice ao 1 cap], .int .i64 0, .int .i64 0]) ∧ ListS w.heap.size 42 9 (Ci w.heap.size) [ita] (.slice ao 1 cap) w' ∧ Chg [] w w' := by
  refine (parse_spec w [97, 108, 108, 111, 119, 32, 97, 32, 108, 105, 109, 105, 116, 32, 52, 32, 119, 104, 101, 110, 32, 116, 105, 109, 101, 32, 62, 61, 32, 49, 48, 48, 32, 97, 110, 100, 32, 109, 101, 109, 98, 101, 114, 32, 61, 32, 49, 32, 111, 114, 32, 97, 103, 101, 32, 60, 32, 49, 56, 59] (by decide)).mono ?_
  rintro e w' ⟨v, rfl, hl, hc⟩
  rw [parse_a] at hl ⊢
  obtain ⟨ao, cap, rfl⟩ := hl.form
  exact ⟨ao, cap, rfl, hl, hc⟩
theorem parse_b : Rl.parse [112, 114, 105, 99, 101, 32, 112, 32, 53, 48, 48, 48, 32, 102, 101, 101, 32, 49, 47, 49, 48, 59] = ([itb], 0, 0) := by decide +kernel
theorem lit_b (w : World) : Calls Tryd.prog 11 #[.string ⟨#[112, 114, 105, 99, 101, 32, 112, 32, 53, 48, 48, 48, 32, 102, 101, 101, 32, 49, 47, 49, 48, 59]⟩] w fun e w' => ∃ ao cap, e = .returned (.tuple #[.agg #[.slice ao 1 cap], .int .i64 0, .int .i64 0]) ∧ ListS w.heap.size 42 9 (Ci w.heap.size) [itb] (.slice ao 1 cap) w' ∧ Chg [] w w' := by
  refine (parse_spec w [112, 114, 105, 99, 101, 32, 112, 32, 53, 48, 48, 48, 32, 102, 101, 101, 32, 49, 47, 49, 48, 59] (by decide)).mono ?_
  rintro e w' ⟨v, rfl, hl, hc⟩
  rw [parse_b] at hl ⊢
  obtain ⟨ao, cap, rfl⟩ := hl.form
  exact ⟨ao, cap, rfl, hl, hc⟩
theorem parse_c : Rl.parse [100, 101, 110, 121, 32, 100, 32, 119, 104, 101, 110, 32, 98, 108, 111, 99, 107, 32, 61, 32, 115, 116, 97, 108, 108, 115, 46, 97, 59] = ([itc], 0, 0) := by decide +kernel
theorem lit_c (w : World) : Calls Tryd.prog 11 #[.string ⟨#[100, 101, 110, 121, 32, 100, 32, 119, 104, 101, 110, 32, 98, 108, 111, 99, 107, 32, 61, 32, 115, 116, 97, 108, 108, 115, 46, 97, 59]⟩] w fun e w' => ∃ ao cap, e = .returned (.tuple #[.agg #[.slice ao 1 cap], .int .i64 0, .int .i64 0]) ∧ ListS w.heap.size 42 9 (Ci w.heap.size) [itc] (.slice ao 1 cap) w' ∧ Chg [] w w' := by
  refine (parse_spec w [100, 101, 110, 121, 32, 100, 32, 119, 104, 101, 110, 32, 98, 108, 111, 99, 107, 32, 61, 32, 115, 116, 97, 108, 108, 115, 46, 97, 59] (by decide)).mono ?_
  rintro e w' ⟨v, rfl, hl, hc⟩
  rw [parse_c] at hl ⊢
  obtain ⟨ao, cap, rfl⟩ := hl.form
  exact ⟨ao, cap, rfl, hl, hc⟩
theorem parse_d : Rl.parse [97, 108, 108, 111, 119, 32, 97] = ([], 7, 7) := by decide +kernel
theorem lit_d (w : World) : Calls Tryd.prog 11 #[.string ⟨#[97, 108, 108, 111, 119, 32, 97]⟩] w fun e w' => ∃ ao cap, e = .returned (.tuple #[.agg #[.slice ao 0 cap], .int .i64 7, .int .i64 7]) ∧ ListS w.heap.size 42 9 (Ci w.heap.size) [] (.slice ao 0 cap) w' ∧ Chg [] w w' := by
  refine (parse_spec w [97, 108, 108, 111, 119, 32, 97] (by decide)).mono ?_
  rintro e w' ⟨v, rfl, hl, hc⟩
  rw [parse_d] at hl ⊢
  obtain ⟨ao, cap, rfl⟩ := hl.form
  exact ⟨ao, cap, rfl, hl, hc⟩
theorem parse_e : Rl.parse [97, 108, 108, 111, 119, 32, 97, 32, 119, 104, 101, 110, 32, 120, 32, 51, 59] = ([], 4, 15) := by decide +kernel
theorem lit_e (w : World) : Calls Tryd.prog 11 #[.string ⟨#[97, 108, 108, 111, 119, 32, 97, 32, 119, 104, 101, 110, 32, 120, 32, 51, 59]⟩] w fun e w' => ∃ ao cap, e = .returned (.tuple #[.agg #[.slice ao 0 cap], .int .i64 4, .int .i64 15]) ∧ ListS w.heap.size 42 9 (Ci w.heap.size) [] (.slice ao 0 cap) w' ∧ Chg [] w w' := by
  refine (parse_spec w [97, 108, 108, 111, 119, 32, 97, 32, 119, 104, 101, 110, 32, 120, 32, 51, 59] (by decide)).mono ?_
  rintro e w' ⟨v, rfl, hl, hc⟩
  rw [parse_e] at hl ⊢
  obtain ⟨ao, cap, rfl⟩ := hl.form
  exact ⟨ao, cap, rfl, hl, hc⟩
theorem itm_first {B : Nat} {w : World} {ao : Option Addr} {cap : Nat} {x : Rl.Itm} (h : ListS B 42 9 (Ci B) [x] (.slice ao 1 cap) w) :
    ∃ g uo uc, ao = some ⟨g, 0, none⟩ ∧ 1 ≤ cap ∧ ListS B 46 1 (Cr B) x.whn (.slice uo x.whn.length uc) w ∧ w.cell? ⟨g, 0, none⟩ = some (.int .i64 (x.kind : Nat)) ∧ w.cell? ⟨g, 1, none⟩ = some (.string ⟨x.name.toArray⟩) ∧
      w.cell? ⟨g, 2, none⟩ = some (.slice uo x.whn.length uc) ∧ w.cell? ⟨g, 3, none⟩ = some (.int .i64 (x.n : Nat)) ∧ w.cell? ⟨g, 4, none⟩ = some (.int .i64 (x.r.1 : Nat)) ∧ w.cell? ⟨g, 5, none⟩ = some (.int .i64 (x.r.2 : Nat)) ∧
      w.cell? ⟨g, 6, none⟩ = some (.int .i64 (x.s.1 : Nat)) ∧ w.cell? ⟨g, 7, none⟩ = some (.int .i64 (x.s.2 : Nat)) ∧ w.cell? ⟨g, 8, none⟩ = some (.int .i64 (x.at_ : Nat)) := by
  obtain ⟨g, c, uo, uc, h1, h2, h3, h4⟩ := itm_get h (i := 0) rfl
  simp only [List.length_cons, List.length_nil, Value.slice.injEq] at h1
  obtain ⟨h1, _, rfl⟩ := h1
  refine ⟨g, uo, uc, h1, h2, h3, ?_⟩
  simpa using h4
/-- A list that is written out. -/
theorem ListS.of_blk {α : Type} {w : World} {B : Nat} {E : TypeId} {size : Nat} {C : α → List Value → World → Prop} {l : List α} {g : Nat} {css : List (List Value)} (h1 : css.length = l.length) (h2 : ∀ (i : Nat) (a : α) (cs : List Value), l[i]? = some a → css[i]? = some cs → cs.length = size ∧ C a cs w)
    (hb : Blk w g css.flatten E) (hB : B ≤ g) (hm : l.length ≤ 1000000) : ListS B E size C l (.slice (some ⟨g, 0, none⟩) l.length l.length) w := by
  have hlen : css.flatten.length = l.length * size := by
    have h3 := ListS.lens h1 h2
    rw [← h1]
    clear h1 h2 hb
    induction css with
    | nil => simp
    | cons c r ih =>
      rw [List.flatten_cons, List.length_append, ih (fun x hx => h3 x (by simp [hx])), h3 c (by simp), List.length_cons, Nat.add_mul]
      omega
  exact ⟨css, h1, h2, hlen, .inr ⟨g, l.length, css.flatten.toArray, rfl, hB, hb, Nat.le_refl _, by unfold maxLen; omega, by simpa using hlen, by rw [← hlen]; exact List.take_length⟩⟩
theorem one_row {w : World} {B g : Nat} {l : List Rl.Tst} (hb : Blk w g (l.flatMap tstc) 48) (hB : B ≤ g) (hm : l.length ≤ 1000000) : ListS B 48 5 Ct l (.slice (some ⟨g, 0, none⟩) l.length l.length) w :=
  ListS.of_blk (css := l.map tstc) (by simp) (fun i a cs ha hc => by
    rw [List.getElem?_map, ha] at hc
    simp at hc
    subst hc
    exact ⟨rfl, rfl⟩) (by rw [List.flatMap_def] at hb; exact hb) hB hm

set_option maxHeartbeats 4000000 in
set_option maxRecDepth 100000 in
theorem head_spec07 (w : World) : Calls Tryd.prog 10 #[] w fun e w' => e = .returned (.bool true) ∧ Chg [] w w' := by
  go_enter Tryd.func10, Tryd.ntmps10
  go_wp2_with fail
  refine (lit_a _).mono ?_
  rintro e wa ⟨aa, ca, rfl, hla, hca⟩
  have HLa := Lib.hid hla
  have Ka := Lib.hid hca
  clear hla hca
  go_upto_region 2 with fail
  obtain ⟨Wa, hW⟩ : ∃ W, W = wa.alloc (.cells #[.slice aa 1 ca] 25) := ⟨_, rfl⟩
  rw [← hW]
  obtain ⟨Ta, hT⟩ : ∃ T, T = wa.heap.size := ⟨_, rfl⟩
  rw [← hT]
  have Ma : Hid (Chg [] wa Wa) := Lib.hid (by rw [hW]; exact (Chg.refl _ _).alloc _)
  have HTa : Hid (Blk Wa Ta [.slice aa 1 ca] 25) := Lib.hid (by rw [hW, hT]; exact Blk.new wa _ _)
  clear hW hT
  go_wp2_with fail
  refine (lit_b _).mono ?_
  rintro e wb ⟨ab, cb, rfl, hlb, hcb⟩
  have HLb := Lib.hid hlb
  have Kb := Lib.hid hcb
  clear hlb hcb
  go_upto_region 3 with fail
  obtain ⟨Wb, hW⟩ : ∃ W, W = wb.alloc (.cells #[.slice ab 1 cb] 25) := ⟨_, rfl⟩
  rw [← hW]
  obtain ⟨Tb, hT⟩ : ∃ T, T = wb.heap.size := ⟨_, rfl⟩
  rw [← hT]
  have Mb : Hid (Chg [] wb Wb) := Lib.hid (by rw [hW]; exact (Chg.refl _ _).alloc _)
  have HTb : Hid (Blk Wb Tb [.slice ab 1 cb] 25) := Lib.hid (by rw [hW, hT]; exact Blk.new wb _ _)
  clear hW hT
  go_wp2_with fail
  refine (lit_c _).mono ?_
  rintro e wc ⟨ac, cc, rfl, hlc, hcc⟩
  have HLc := Lib.hid hlc
  have Kc := Lib.hid hcc
  clear hlc hcc
  go_upto_region 4 with fail
  obtain ⟨Wc, hW⟩ : ∃ W, W = wc.alloc (.cells #[.slice ac 1 cc] 25) := ⟨_, rfl⟩
  rw [← hW]
  obtain ⟨Tc, hT⟩ : ∃ T, T = wc.heap.size := ⟨_, rfl⟩
  rw [← hT]
  have Mc : Hid (Chg [] wc Wc) := Lib.hid (by rw [hW]; exact (Chg.refl _ _).alloc _)
  have HTc : Hid (Blk Wc Tc [.slice ac 1 cc] 25) := Lib.hid (by rw [hW, hT]; exact Blk.new wc _ _)
  clear hW hT
  go_wp2_with fail
  refine (lit_d _).mono ?_
  rintro e wd ⟨ad, cd, rfl, hld, hcd⟩
  have HLd := Lib.hid hld
  have Kd := Lib.hid hcd
  clear hld hcd
  go_upto_region 5 with fail
  obtain ⟨Wd, hW⟩ : ∃ W, W = wd.alloc (.cells #[.slice ad 0 cd] 25) := ⟨_, rfl⟩
  rw [← hW]
  obtain ⟨Td, hT⟩ : ∃ T, T = wd.heap.size := ⟨_, rfl⟩
  rw [← hT]
  have Md : Hid (Chg [] wd Wd) := Lib.hid (by rw [hW]; exact (Chg.refl _ _).alloc _)
  have HTd : Hid (Blk Wd Td [.slice ad 0 cd] 25) := Lib.hid (by rw [hW, hT]; exact Blk.new wd _ _)
  clear hW hT
  go_wp2_with fail
  refine (lit_e _).mono ?_
  rintro e we ⟨ae, ce, rfl, hle, hce⟩
  have HLe := Lib.hid hle
  have Ke := Lib.hid hce
  clear hle hce
  go_upto_region 6 with fail
  obtain ⟨We, hW⟩ : ∃ W, W = we.alloc (.cells #[.slice ae 0 ce] 25) := ⟨_, rfl⟩
  rw [← hW]
  obtain ⟨Te, hT⟩ : ∃ T, T = we.heap.size := ⟨_, rfl⟩
  rw [← hT]
  have Me : Hid (Chg [] we We) := Lib.hid (by rw [hW]; exact (Chg.refl _ _).alloc _)
  have HTe : Hid (Blk We Te [.slice ae 0 ce] 25) := Lib.hid (by rw [hW, hT]; exact Blk.new we _ _)
  clear hW hT
  have xa := ((((((((Kb.out.trans Mb.out (by simp)).trans Kc.out (by simp)).trans Mc.out (by simp)).trans Kd.out (by simp)).trans Md.out (by simp)).trans Ke.out (by simp)).trans Me.out (by simp)).blk HTa.out (by simp)).cell (i := 0) rfl
  have xb := ((((((Kc.out.trans Mc.out (by simp)).trans Kd.out (by simp)).trans Md.out (by simp)).trans Ke.out (by simp)).trans Me.out (by simp)).blk HTb.out (by simp)).cell (i := 0) rfl
  have xc := ((((Kd.out.trans Md.out (by simp)).trans Ke.out (by simp)).trans Me.out (by simp)).blk HTc.out (by simp)).cell (i := 0) rfl
  go_upto_region 8 with fail
  clear xa xb xc
  go_upto_region 9 with fail
  obtain ⟨V1, hW⟩ : ∃ W, W = (We.alloc (.cells #[.string ⟨#[116, 105, 109, 101]⟩, .int .i64 6, .string ⟨#[]⟩, .int .i64 100, .int .i64 21] 48)) := ⟨_, rfl⟩
  rw [← hW]
  obtain ⟨t16, ht16⟩ : ∃ T, T = We.heap.size := ⟨_, rfl⟩
  rw [← ht16]
  have N1 : Hid (Chg [] We V1) := Lib.hid (by rw [hW]; exact ((Chg.refl _ _).alloc _))
  have Ht16 : Hid (Blk V1 t16 [.string ⟨#[116, 105, 109, 101]⟩, .int .i64 6, .string ⟨#[]⟩, .int .i64 100, .int .i64 21] 48) := Lib.hid (by rw [hW, ht16]; have := (Blk.new We [.string ⟨#[116, 105, 109, 101]⟩, .int .i64 6, .string ⟨#[]⟩, .int .i64 100, .int .i64 21] 48); simpa using this)
  clear hW ht16
  go_upto_region 10 with fail
  obtain ⟨V2, hW⟩ : ∃ W, W = (V1.alloc (.cells #[.string ⟨#[109, 101, 109, 98, 101, 114]⟩, .int .i64 1, .string ⟨#[]⟩, .int .i64 1, .int .i64 37] 48)) := ⟨_, rfl⟩
  rw [← hW]
  obtain ⟨t17, ht17⟩ : ∃ T, T = V1.heap.size := ⟨_, rfl⟩
  rw [← ht17]
  have N2 : Hid (Chg [] V1 V2) := Lib.hid (by rw [hW]; exact ((Chg.refl _ _).alloc _))
  have Ht17 : Hid (Blk V2 t17 [.string ⟨#[109, 101, 109, 98, 101, 114]⟩, .int .i64 1, .string ⟨#[]⟩, .int .i64 1, .int .i64 37] 48) := Lib.hid (by rw [hW, ht17]; have := (Blk.new V1 [.string ⟨#[109, 101, 109, 98, 101, 114]⟩, .int .i64 1, .string ⟨#[]⟩, .int .i64 1, .int .i64 37] 48); simpa using this)
  clear hW ht17
  go_upto_region 11 with fail
  obtain ⟨V3, hW⟩ : ∃ W, W = (V2.alloc (.cells #[.string ⟨#[97, 103, 101]⟩, .int .i64 3, .string ⟨#[]⟩, .int .i64 18, .int .i64 51] 48)) := ⟨_, rfl⟩
  rw [← hW]
  obtain ⟨t18, ht18⟩ : ∃ T, T = V2.heap.size := ⟨_, rfl⟩
  rw [← ht18]
  have N3 : Hid (Chg [] V2 V3) := Lib.hid (by rw [hW]; exact ((Chg.refl _ _).alloc _))
  have Ht18 : Hid (Blk V3 t18 [.string ⟨#[97, 103, 101]⟩, .int .i64 3, .string ⟨#[]⟩, .int .i64 18, .int .i64 51] 48) := Lib.hid (by rw [hW, ht18]; have := (Blk.new V2 [.string ⟨#[97, 103, 101]⟩, .int .i64 3, .string ⟨#[]⟩, .int .i64 18, .int .i64 51] 48); simpa using this)
  clear hW ht18
  have p0 := ((N2.out.trans N3.out (by simp)).blk Ht16.out (by simp)).cell (i := 0) rfl
  have p1 := ((N2.out.trans N3.out (by simp)).blk Ht16.out (by simp)).cell (i := 1) rfl
  have p2 := ((N2.out.trans N3.out (by simp)).blk Ht16.out (by simp)).cell (i := 2) rfl
  have p3 := ((N2.out.trans N3.out (by simp)).blk Ht16.out (by simp)).cell (i := 3) rfl
  have p4 := ((N2.out.trans N3.out (by simp)).blk Ht16.out (by simp)).cell (i := 4) rfl
  have q0 := (N3.out.blk Ht17.out (by simp)).cell (i := 0) rfl
  have q1 := (N3.out.blk Ht17.out (by simp)).cell (i := 1) rfl
  have q2 := (N3.out.blk Ht17.out (by simp)).cell (i := 2) rfl
  have q3 := (N3.out.blk Ht17.out (by simp)).cell (i := 3) rfl
  have q4 := (N3.out.blk Ht17.out (by simp)).cell (i := 4) rfl
  have r0 := ((Chg.refl [] _).blk Ht18.out (by simp)).cell (i := 0) rfl
  have r1 := ((Chg.refl [] _).blk Ht18.out (by simp)).cell (i := 1) rfl
  have r2 := ((Chg.refl [] _).blk Ht18.out (by simp)).cell (i := 2) rfl
  have r3 := ((Chg.refl [] _).blk Ht18.out (by simp)).cell (i := 3) rfl
  have r4 := ((Chg.refl [] _).blk Ht18.out (by simp)).cell (i := 4) rfl
  have s0 := fun o : Obj => (Ht18.out.alloc o).cell (i := 0) rfl
  have s1 := fun o : Obj => (Ht18.out.alloc o).cell (i := 1) rfl
  have s2 := fun o : Obj => (Ht18.out.alloc o).cell (i := 2) rfl
  have s3 := fun o : Obj => (Ht18.out.alloc o).cell (i := 3) rfl
  have s4 := fun o : Obj => (Ht18.out.alloc o).cell (i := 4) rfl
  go_upto_region 12 with fail
  obtain ⟨V4, hW⟩ : ∃ W, W = ((((V3.alloc (.cells #[.string ⟨#[116, 105, 109, 101]⟩, .int .i64 6, .string ⟨#[]⟩, .int .i64 100, .int .i64 21, .string ⟨#[109, 101, 109, 98, 101, 114]⟩, .int .i64 1, .string ⟨#[]⟩, .int .i64 1, .int .i64 37] 48)).alloc (.cells #[.string ⟨#[97, 103, 101]⟩, .int .i64 3, .string ⟨#[]⟩, .int .i64 18, .int .i64 51] 48)).alloc (.cells #[.slice (some ⟨V3.heap.size, 0, none⟩) 2 2, .slice (some ⟨V3.heap.size + 1, 0, none⟩) 1 1] 46)).alloc (.cells #[.int .i64 1, .string ⟨#[97]⟩, .slice (some ⟨V3.heap.size + 1 + 1, 0, none⟩) 2 2, .int .i64 4, .int .i64 0, .int .i64 0, .int .i64 0, .int .i64 0, .int .i64 0] 42)) := ⟨_, rfl⟩
  rw [← hW]
  obtain ⟨t19, ht19⟩ : ∃ T, T = V3.heap.size + 1 + 1 + 1 := ⟨_, rfl⟩
  rw [← ht19]
  obtain ⟨g3, hg3⟩ : ∃ T, T = V3.heap.size + 1 + 1 := ⟨_, rfl⟩
  rw [← hg3]
  obtain ⟨g2, hg2⟩ : ∃ T, T = V3.heap.size + 1 := ⟨_, rfl⟩
  rw [← hg2]
  obtain ⟨g1, hg1⟩ : ∃ T, T = V3.heap.size := ⟨_, rfl⟩
  rw [← hg1]
  clear s0 s1 s2 s3 s4 p0 p1 p2 p3 p4 q0 q1 q2 q3 q4 r0 r1 r2 r3 r4
  have N4 : Hid (Chg [] V3 V4) := Lib.hid (by rw [hW]; exact ((((Chg.refl _ _).alloc _).alloc _).alloc _).alloc _)
  have Hg1 : Hid (Blk V4 g1 [.string ⟨#[116, 105, 109, 101]⟩, .int .i64 6, .string ⟨#[]⟩, .int .i64 100, .int .i64 21, .string ⟨#[109, 101, 109, 98, 101, 114]⟩, .int .i64 1, .string ⟨#[]⟩, .int .i64 1, .int .i64 37] 48) := Lib.hid (by rw [hW, hg1]; have := ((((Blk.new V3 [.string ⟨#[116, 105, 109, 101]⟩, .int .i64 6, .string ⟨#[]⟩, .int .i64 100, .int .i64 21, .string ⟨#[109, 101, 109, 98, 101, 114]⟩, .int .i64 1, .string ⟨#[]⟩, .int .i64 1, .int .i64 37] 48).alloc (.cells #[.string ⟨#[97, 103, 101]⟩, .int .i64 3, .string ⟨#[]⟩, .int .i64 18, .int .i64 51] 48)).alloc (.cells #[.slice (some ⟨V3.heap.size, 0, none⟩) 2 2, .slice (some ⟨V3.heap.size + 1, 0, none⟩) 1 1] 46)).alloc (.cells #[.int .i64 1, .string ⟨#[97]⟩, .slice (some ⟨V3.heap.size + 1 + 1, 0, none⟩) 2 2, .int .i64 4, .int .i64 0, .int .i64 0, .int .i64 0, .int .i64 0, .int .i64 0] 42)); simpa using this)
  have Hg2 : Hid (Blk V4 g2 [.string ⟨#[97, 103, 101]⟩, .int .i64 3, .string ⟨#[]⟩, .int .i64 18, .int .i64 51] 48) := Lib.hid (by rw [hW, hg2]; have := (((Blk.new (V3.alloc (.cells #[.string ⟨#[116, 105, 109, 101]⟩, .int .i64 6, .string ⟨#[]⟩, .int .i64 100, .int .i64 21, .string ⟨#[109, 101, 109, 98, 101, 114]⟩, .int .i64 1, .string ⟨#[]⟩, .int .i64 1, .int .i64 37] 48)) [.string ⟨#[97, 103, 101]⟩, .int .i64 3, .string ⟨#[]⟩, .int .i64 18, .int .i64 51] 48).alloc (.cells #[.slice (some ⟨V3.heap.size, 0, none⟩) 2 2, .slice (some ⟨V3.heap.size + 1, 0, none⟩) 1 1] 46)).alloc (.cells #[.int .i64 1, .string ⟨#[97]⟩, .slice (some ⟨V3.heap.size + 1 + 1, 0, none⟩) 2 2, .int .i64 4, .int .i64 0, .int .i64 0, .int .i64 0, .int .i64 0, .int .i64 0] 42)); simpa using this)
  have Hg3 : Hid (Blk V4 g3 [.slice (some ⟨g1, 0, none⟩) 2 2, .slice (some ⟨g2, 0, none⟩) 1 1] 46) := Lib.hid (by rw [hW, hg3, hg1, hg2]; have := ((Blk.new ((V3.alloc (.cells #[.string ⟨#[116, 105, 109, 101]⟩, .int .i64 6, .string ⟨#[]⟩, .int .i64 100, .int .i64 21, .string ⟨#[109, 101, 109, 98, 101, 114]⟩, .int .i64 1, .string ⟨#[]⟩, .int .i64 1, .int .i64 37] 48)).alloc (.cells #[.string ⟨#[97, 103, 101]⟩, .int .i64 3, .string ⟨#[]⟩, .int .i64 18, .int .i64 51] 48)) [.slice (some ⟨V3.heap.size, 0, none⟩) 2 2, .slice (some ⟨V3.heap.size + 1, 0, none⟩) 1 1] 46).alloc (.cells #[.int .i64 1, .string ⟨#[97]⟩, .slice (some ⟨V3.heap.size + 1 + 1, 0, none⟩) 2 2, .int .i64 4, .int .i64 0, .int .i64 0, .int .i64 0, .int .i64 0, .int .i64 0] 42)); simpa using this)
  have Ht19 : Hid (Blk V4 t19 [.int .i64 1, .string ⟨#[97]⟩, .slice (some ⟨g3, 0, none⟩) 2 2, .int .i64 4, .int .i64 0, .int .i64 0, .int .i64 0, .int .i64 0, .int .i64 0] 42) := Lib.hid (by rw [hW, ht19, hg3]; have := (Blk.new (((V3.alloc (.cells #[.string ⟨#[116, 105, 109, 101]⟩, .int .i64 6, .string ⟨#[]⟩, .int .i64 100, .int .i64 21, .string ⟨#[109, 101, 109, 98, 101, 114]⟩, .int .i64 1, .string ⟨#[]⟩, .int .i64 1, .int .i64 37] 48)).alloc (.cells #[.string ⟨#[97, 103, 101]⟩, .int .i64 3, .string ⟨#[]⟩, .int .i64 18, .int .i64 51] 48)).alloc (.cells #[.slice (some ⟨V3.heap.size, 0, none⟩) 2 2, .slice (some ⟨V3.heap.size + 1, 0, none⟩) 1 1] 46)) [.int .i64 1, .string ⟨#[97]⟩, .slice (some ⟨V3.heap.size + 1 + 1, 0, none⟩) 2 2, .int .i64 4, .int .i64 0, .int .i64 0, .int .i64 0, .int .i64 0, .int .i64 0] 42); simpa using this)
  clear hW hg1 hg2 hg3 ht19
  go_upto_region 13 with fail
  obtain ⟨V5, hW⟩ : ∃ W, W = (V4.alloc (.cells #[.int .i64 3, .string ⟨#[112]⟩, .slice none 0 0, .int .i64 5000, .int .i64 1, .int .i64 10, .int .i64 0, .int .i64 1, .int .i64 0] 42)) := ⟨_, rfl⟩
  rw [← hW]
  obtain ⟨t20, ht20⟩ : ∃ T, T = V4.heap.size := ⟨_, rfl⟩
  rw [← ht20]
  have N5 : Hid (Chg [] V4 V5) := Lib.hid (by rw [hW]; exact ((Chg.refl _ _).alloc _))
  have Ht20 : Hid (Blk V5 t20 [.int .i64 3, .string ⟨#[112]⟩, .slice none 0 0, .int .i64 5000, .int .i64 1, .int .i64 10, .int .i64 0, .int .i64 1, .int .i64 0] 42) := Lib.hid (by rw [hW, ht20]; have := (Blk.new V4 [.int .i64 3, .string ⟨#[112]⟩, .slice none 0 0, .int .i64 5000, .int .i64 1, .int .i64 10, .int .i64 0, .int .i64 1, .int .i64 0] 42); simpa using this)
  clear hW ht20
  go_upto_region 14 with fail
  obtain ⟨V6, hW⟩ : ∃ W, W = (((V5.alloc (.cells #[.string ⟨#[98, 108, 111, 99, 107]⟩, .int .i64 1, .string ⟨#[115, 116, 97, 108, 108, 115, 46, 97]⟩, .int .i64 0, .int .i64 12] 48)).alloc (.cells #[.slice (some ⟨V5.heap.size, 0, none⟩) 1 1] 46)).alloc (.cells #[.int .i64 2, .string ⟨#[100]⟩, .slice (some ⟨V5.heap.size + 1, 0, none⟩) 1 1, .int .i64 0, .int .i64 0, .int .i64 0, .int .i64 0, .int .i64 0, .int .i64 0] 42)) := ⟨_, rfl⟩
  rw [← hW]
  obtain ⟨t21, ht21⟩ : ∃ T, T = V5.heap.size + 1 + 1 := ⟨_, rfl⟩
  rw [← ht21]
  obtain ⟨g5, hg5⟩ : ∃ T, T = V5.heap.size + 1 := ⟨_, rfl⟩
  rw [← hg5]
  obtain ⟨g4, hg4⟩ : ∃ T, T = V5.heap.size := ⟨_, rfl⟩
  rw [← hg4]
  have N6 : Hid (Chg [] V5 V6) := Lib.hid (by rw [hW]; exact (((Chg.refl _ _).alloc _).alloc _).alloc _)
  have Hg4 : Hid (Blk V6 g4 [.string ⟨#[98, 108, 111, 99, 107]⟩, .int .i64 1, .string ⟨#[115, 116, 97, 108, 108, 115, 46, 97]⟩, .int .i64 0, .int .i64 12] 48) := Lib.hid (by rw [hW, hg4]; have := (((Blk.new V5 [.string ⟨#[98, 108, 111, 99, 107]⟩, .int .i64 1, .string ⟨#[115, 116, 97, 108, 108, 115, 46, 97]⟩, .int .i64 0, .int .i64 12] 48).alloc (.cells #[.slice (some ⟨V5.heap.size, 0, none⟩) 1 1] 46)).alloc (.cells #[.int .i64 2, .string ⟨#[100]⟩, .slice (some ⟨V5.heap.size + 1, 0, none⟩) 1 1, .int .i64 0, .int .i64 0, .int .i64 0, .int .i64 0, .int .i64 0, .int .i64 0] 42)); simpa using this)
  have Hg5 : Hid (Blk V6 g5 [.slice (some ⟨g4, 0, none⟩) 1 1] 46) := Lib.hid (by rw [hW, hg5, hg4]; have := ((Blk.new (V5.alloc (.cells #[.string ⟨#[98, 108, 111, 99, 107]⟩, .int .i64 1, .string ⟨#[115, 116, 97, 108, 108, 115, 46, 97]⟩, .int .i64 0, .int .i64 12] 48)) [.slice (some ⟨V5.heap.size, 0, none⟩) 1 1] 46).alloc (.cells #[.int .i64 2, .string ⟨#[100]⟩, .slice (some ⟨V5.heap.size + 1, 0, none⟩) 1 1, .int .i64 0, .int .i64 0, .int .i64 0, .int .i64 0, .int .i64 0, .int .i64 0] 42)); simpa using this)
  have Ht21 : Hid (Blk V6 t21 [.int .i64 2, .string ⟨#[100]⟩, .slice (some ⟨g5, 0, none⟩) 1 1, .int .i64 0, .int .i64 0, .int .i64 0, .int .i64 0, .int .i64 0, .int .i64 0] 42) := Lib.hid (by rw [hW, ht21, hg5]; have := (Blk.new ((V5.alloc (.cells #[.string ⟨#[98, 108, 111, 99, 107]⟩, .int .i64 1, .string ⟨#[115, 116, 97, 108, 108, 115, 46, 97]⟩, .int .i64 0, .int .i64 12] 48)).alloc (.cells #[.slice (some ⟨V5.heap.size, 0, none⟩) 1 1] 46)) [.int .i64 2, .string ⟨#[100]⟩, .slice (some ⟨V5.heap.size + 1, 0, none⟩) 1 1, .int .i64 0, .int .i64 0, .int .i64 0, .int .i64 0, .int .i64 0, .int .i64 0] 42); simpa using this)
  clear hW hg4 hg5 ht21
  have HXa : Hid (Blk V6 Ta [.slice aa 1 ca] 25) := Lib.hid ((((((((((((((Kb.out.trans Mb.out (by simp)).trans Kc.out (by simp)).trans Mc.out (by simp)).trans Kd.out (by simp)).trans Md.out (by simp)).trans Ke.out (by simp)).trans Me.out (by simp)).trans N1.out (by simp)).trans N2.out (by simp)).trans N3.out (by simp)).trans N4.out (by simp)).trans N5.out (by simp)).trans N6.out (by simp)).blk HTa.out (by simp))
  obtain ⟨pa, ua, uca, haa, hcaa, hua, ia0, ia1, ia2, ia3, ia4, ia5, ia6, ia7, ia8⟩ := itm_first (HLa.out.keep (kp_i _) ((((((((((((((Ma.out.trans Kb.out (by simp)).trans Mb.out (by simp)).trans Kc.out (by simp)).trans Mc.out (by simp)).trans Kd.out (by simp)).trans Md.out (by simp)).trans Ke.out (by simp)).trans Me.out (by simp)).trans N1.out (by simp)).trans N2.out (by simp)).trans N3.out (by simp)).trans N4.out (by simp)).trans N5.out (by simp)).trans N6.out (by simp)) (TyB.nil _ _ _))
  subst haa
  have HUa := Lib.hid hua
  clear hua
  have Ia0 := Lib.hid ia0
  have Ia1 := Lib.hid ia1
  have Ia2 := Lib.hid ia2
  have Ia3 := Lib.hid ia3
  have Ia4 := Lib.hid ia4
  have Ia5 := Lib.hid ia5
  have Ia6 := Lib.hid ia6
  have Ia7 := Lib.hid ia7
  have Ia8 := Lib.hid ia8
  clear ia0 ia1 ia2 ia3 ia4 ia5 ia6 ia7 ia8
  have HXb : Hid (Blk V6 Tb [.slice ab 1 cb] 25) := Lib.hid ((((((((((((Kc.out.trans Mc.out (by simp)).trans Kd.out (by simp)).trans Md.out (by simp)).trans Ke.out (by simp)).trans Me.out (by simp)).trans N1.out (by simp)).trans N2.out (by simp)).trans N3.out (by simp)).trans N4.out (by simp)).trans N5.out (by simp)).trans N6.out (by simp)).blk HTb.out (by simp))
  obtain ⟨pb, ub, ucb, hab, hcab, hub, ib0, ib1, ib2, ib3, ib4, ib5, ib6, ib7, ib8⟩ := itm_first (HLb.out.keep (kp_i _) ((((((((((((Mb.out.trans Kc.out (by simp)).trans Mc.out (by simp)).trans Kd.out (by simp)).trans Md.out (by simp)).trans Ke.out (by simp)).trans Me.out (by simp)).trans N1.out (by simp)).trans N2.out (by simp)).trans N3.out (by simp)).trans N4.out (by simp)).trans N5.out (by simp)).trans N6.out (by simp)) (TyB.nil _ _ _))
  subst hab
  have HUb := Lib.hid hub
  clear hub
  have Ib0 := Lib.hid ib0
  have Ib1 := Lib.hid ib1
  have Ib2 := Lib.hid ib2
  have Ib3 := Lib.hid ib3
  have Ib4 := Lib.hid ib4
  have Ib5 := Lib.hid ib5
  have Ib6 := Lib.hid ib6
  have Ib7 := Lib.hid ib7
  have Ib8 := Lib.hid ib8
  clear ib0 ib1 ib2 ib3 ib4 ib5 ib6 ib7 ib8
  have HXc : Hid (Blk V6 Tc [.slice ac 1 cc] 25) := Lib.hid ((((((((((Kd.out.trans Md.out (by simp)).trans Ke.out (by simp)).trans Me.out (by simp)).trans N1.out (by simp)).trans N2.out (by simp)).trans N3.out (by simp)).trans N4.out (by simp)).trans N5.out (by simp)).trans N6.out (by simp)).blk HTc.out (by simp))
  obtain ⟨pc, uc, ucc, hac, hcac, huc, ic0, ic1, ic2, ic3, ic4, ic5, ic6, ic7, ic8⟩ := itm_first (HLc.out.keep (kp_i _) ((((((((((Mc.out.trans Kd.out (by simp)).trans Md.out (by simp)).trans Ke.out (by simp)).trans Me.out (by simp)).trans N1.out (by simp)).trans N2.out (by simp)).trans N3.out (by simp)).trans N4.out (by simp)).trans N5.out (by simp)).trans N6.out (by simp)) (TyB.nil _ _ _))
  subst hac
  have HUc := Lib.hid huc
  clear huc
  have Ic0 := Lib.hid ic0
  have Ic1 := Lib.hid ic1
  have Ic2 := Lib.hid ic2
  have Ic3 := Lib.hid ic3
  have Ic4 := Lib.hid ic4
  have Ic5 := Lib.hid ic5
  have Ic6 := Lib.hid ic6
  have Ic7 := Lib.hid ic7
  have Ic8 := Lib.hid ic8
  clear ic0 ic1 ic2 ic3 ic4 ic5 ic6 ic7 ic8
  have R1 : ListS 0 48 5 Ct [⟨[116, 105, 109, 101], 6, [], 100, 21⟩, ⟨[109, 101, 109, 98, 101, 114], 1, [], 1, 37⟩] (.slice (some ⟨g1, 0, none⟩) 2 2) V6 := one_row (l := [⟨[116, 105, 109, 101], 6, [], 100, 21⟩, ⟨[109, 101, 109, 98, 101, 114], 1, [], 1, 37⟩]) ((N5.out.trans N6.out (by simp)).blk Hg1.out (by simp)) (Nat.zero_le _) (by simp)
  have R2 : ListS 0 48 5 Ct [⟨[97, 103, 101], 3, [], 18, 51⟩] (.slice (some ⟨g2, 0, none⟩) 1 1) V6 := one_row (l := [⟨[97, 103, 101], 3, [], 18, 51⟩]) ((N5.out.trans N6.out (by simp)).blk Hg2.out (by simp)) (Nat.zero_le _) (by simp)
  have R3 : ListS 0 48 5 Ct [⟨[98, 108, 111, 99, 107], 1, [115, 116, 97, 108, 108, 115, 46, 97], 0, 12⟩] (.slice (some ⟨g4, 0, none⟩) 1 1) V6 := one_row (l := [⟨[98, 108, 111, 99, 107], 1, [115, 116, 97, 108, 108, 115, 46, 97], 0, 12⟩]) Hg4.out (Nat.zero_le _) (by simp)
  have LA : Hid (ListS 0 46 1 (Cr 0) ita.whn (.slice (some ⟨g3, 0, none⟩) 2 2) V6) := Lib.hid (ListS.of_blk (l := ita.whn) (css := [[.slice (some ⟨g1, 0, none⟩) 2 2], [.slice (some ⟨g2, 0, none⟩) 1 1]]) rfl (fun i r cs hr hc => by
    match i, hr, hc with
    | 0, hr, hc => cases hr; cases hc; exact ⟨rfl, _, rfl, R1⟩
    | 1, hr, hc => cases hr; cases hc; exact ⟨rfl, _, rfl, R2⟩) ((N5.out.trans N6.out (by simp)).blk Hg3.out (by simp)) (Nat.zero_le _) (by decide))
  have LB : Hid (ListS 0 46 1 (Cr 0) itb.whn (.slice none 0 0) V6) := Lib.hid (ListS.nil _ _ _ _ _)
  have LC : Hid (ListS 0 46 1 (Cr 0) itc.whn (.slice (some ⟨g5, 0, none⟩) 1 1) V6) := Lib.hid (ListS.of_blk (l := itc.whn) (css := [[.slice (some ⟨g4, 0, none⟩) 1 1]]) rfl (fun i r cs hr hc => by
    match i, hr, hc with
    | 0, hr, hc => cases hr; cases hc; exact ⟨rfl, _, rfl, R3⟩) Hg5.out (Nat.zero_le _) (by decide))
  have H19 : Hid (Blk V6 t19 [.int .i64 1, .string ⟨#[97]⟩, .slice (some ⟨g3, 0, none⟩) 2 2, .int .i64 4, .int .i64 0, .int .i64 0, .int .i64 0, .int .i64 0, .int .i64 0] 42) := Lib.hid ((N5.out.trans N6.out (by simp)).blk Ht19.out (by simp))
  have H20 : Hid (Blk V6 t20 [.int .i64 3, .string ⟨#[112]⟩, .slice none 0 0, .int .i64 5000, .int .i64 1, .int .i64 10, .int .i64 0, .int .i64 1, .int .i64 0] 42) := Lib.hid (N6.out.blk Ht20.out (by simp))
  have HCW : Hid (Chg [] w V6) := Lib.hid (((((((((((((((Ka.out.trans Ma.out (by simp)).trans Kb.out (by simp)).trans Mb.out (by simp)).trans Kc.out (by simp)).trans Mc.out (by simp)).trans Kd.out (by simp)).trans Md.out (by simp)).trans Ke.out (by simp)).trans Me.out (by simp)).trans N1.out (by simp)).trans N2.out (by simp)).trans N3.out (by simp)).trans N4.out (by simp)).trans N5.out (by simp)).trans N6.out (by simp))
  clear R1 R2 R3
  refine wp_region_held_drew (S := fun W => Chg [] V6 W) (by kernel_rfl) (Chg.refl _ _).drew (fun hHeld => ?_)
  refine wpAnyH_take (i := 0) (v := ?vh0) rfl (by kernel_rfl) (by kernel_rfl) (by kernel_rfl) (fun _ _ _ h => h) (Or.inl ⟨by kernel_rfl, ?hyh0⟩) (by assumption) ?rsh0
  case hyh0 => (intro w9 hSw; skip; go_simp; try with_reducible rfl)
  try simp only [Act.put, List.setIfInBounds_toArray, List.set_cons_zero, List.set_cons_succ, List.getElem_toArray, List.getElem_cons_succ, List.getElem_cons_zero]
  refine wpAnyH_take (i := 1) (v := ?vh1) rfl (by kernel_rfl) (by kernel_rfl) (by kernel_rfl) (fun _ _ _ h => h) (Or.inl ⟨by kernel_rfl, ?hyh1⟩) (by assumption) ?rsh1
  case hyh1 => (intro w9 hSw; skip; go_simp; try with_reducible rfl)
  try simp only [Act.put, List.setIfInBounds_toArray, List.set_cons_zero, List.set_cons_succ, List.getElem_toArray, List.getElem_cons_succ, List.getElem_cons_zero]
  refine wpAnyH_take (i := 2) (v := ?vh2) rfl (by kernel_rfl) (by kernel_rfl) (by kernel_rfl) (fun _ _ _ h => h) (Or.inl ⟨by kernel_rfl, ?hyh2⟩) (by assumption) ?rsh2
  case hyh2 => (intro w9 hSw; skip; go_simp; try with_reducible rfl)
  try simp only [Act.put, List.setIfInBounds_toArray, List.set_cons_zero, List.set_cons_succ, List.getElem_toArray, List.getElem_cons_succ, List.getElem_cons_zero]
  refine wpAnyH_take (i := 3) (v := ?vh3) rfl (by kernel_rfl) (by kernel_rfl) (by kernel_rfl) (fun _ _ _ h => h) (Or.inl ⟨by kernel_rfl, ?hyh3⟩) (by assumption) ?rsh3
  case hyh3 => (intro w9 hSw; skip; go_simp; try with_reducible rfl)
  try simp only [Act.put, List.setIfInBounds_toArray, List.set_cons_zero, List.set_cons_succ, List.getElem_toArray, List.getElem_cons_succ, List.getElem_cons_zero]
  refine wpAnyH_take (i := 4) (v := ?vh4) rfl (by kernel_rfl) (by kernel_rfl) (by kernel_rfl) (fun _ _ _ h => h) (Or.inl ⟨by kernel_rfl, ?hyh4⟩) (by assumption) ?rsh4
  case hyh4 => (intro w9 hSw; have d := cell_quiet hSw (HXa.out.cell (i := 0) rfl) (by simp); go_simp; try with_reducible rfl)
  try simp only [Act.put, List.setIfInBounds_toArray, List.set_cons_zero, List.set_cons_succ, List.getElem_toArray, List.getElem_cons_succ, List.getElem_cons_zero]
  refine wpAnyH_take (i := 5) (v := ?vh5) rfl (by kernel_rfl) (by kernel_rfl) (by kernel_rfl) (fun _ _ _ h => h) (Or.inl ⟨by kernel_rfl, ?hyh5⟩) (by assumption) ?rsh5
  case hyh5 => (intro w9 hSw; skip; go_simp; try with_reducible rfl)
  try simp only [Act.put, List.setIfInBounds_toArray, List.set_cons_zero, List.set_cons_succ, List.getElem_toArray, List.getElem_cons_succ, List.getElem_cons_zero]
  refine wpAnyH_take (i := 6) (v := ?vh6) rfl (by kernel_rfl) (by kernel_rfl) (by kernel_rfl) (fun _ _ _ h => h) (Or.inl ⟨by kernel_rfl, ?hyh6⟩) (by assumption) ?rsh6
  case hyh6 => (intro w9 hSw; have d0 := cell_quiet hSw Ia0.out (by simp); have d1 := cell_quiet hSw Ia1.out (by simp); have d2 := cell_quiet hSw Ia2.out (by simp); have d3 := cell_quiet hSw Ia3.out (by simp); have d4 := cell_quiet hSw Ia4.out (by simp); have d5 := cell_quiet hSw Ia5.out (by simp); have d6 := cell_quiet hSw Ia6.out (by simp); have d7 := cell_quiet hSw Ia7.out (by simp); have d8 := cell_quiet hSw Ia8.out (by simp); go_simp; try with_reducible rfl)
  try simp only [Act.put, List.setIfInBounds_toArray, List.set_cons_zero, List.set_cons_succ, List.getElem_toArray, List.getElem_cons_succ, List.getElem_cons_zero]
  refine wpAnyH_take (i := 7) (v := ?vh7) rfl (by kernel_rfl) (by kernel_rfl) (by kernel_rfl) (fun _ _ _ h => h) (Or.inl ⟨by kernel_rfl, ?hyh7⟩) (by assumption) ?rsh7
  case hyh7 => (intro w9 hSw; have d0 := cell_quiet hSw (H19.out.cell (i := 0) rfl) (by simp); have d1 := cell_quiet hSw (H19.out.cell (i := 1) rfl) (by simp); have d2 := cell_quiet hSw (H19.out.cell (i := 2) rfl) (by simp); have d3 := cell_quiet hSw (H19.out.cell (i := 3) rfl) (by simp); have d4 := cell_quiet hSw (H19.out.cell (i := 4) rfl) (by simp); have d5 := cell_quiet hSw (H19.out.cell (i := 5) rfl) (by simp); have d6 := cell_quiet hSw (H19.out.cell (i := 6) rfl) (by simp); have d7 := cell_quiet hSw (H19.out.cell (i := 7) rfl) (by simp); have d8 := cell_quiet hSw (H19.out.cell (i := 8) rfl) (by simp); go_simp; try with_reducible rfl)
  try simp only [Act.put, List.setIfInBounds_toArray, List.set_cons_zero, List.set_cons_succ, List.getElem_toArray, List.getElem_cons_succ, List.getElem_cons_zero]
  refine wpAnyH_ready (rs := [8]) (by kernel_rfl) (by simp) (AllReadyH.cons rfl (fun K hK => ?_) AllReadyH.nil)
  go_simp
  refine (sameitem_spec _ ita ita true (Lib.hid (SimI.refl ita)) _ 0 ua (some ⟨g3, 0, none⟩) _ 2 uca 2 (Lib.hid (HUa.out.keep (kp_r _) hHeld (TyB.nil _ _ _))) (Lib.hid (LA.out.keep (kp_r _) hHeld (TyB.nil _ _ _)))).mono ?_
  rintro e9 w9 ⟨rfl, hcx⟩
  refine hK.out _ _ (hHeld.trans hcx (by simp)) (fun hHeld => ?_)
  clear hK K
  try simp only [Act.put, List.setIfInBounds_toArray, List.set_cons_zero, List.set_cons_succ, List.getElem_toArray, List.getElem_cons_succ, List.getElem_cons_zero]
  refine wpAnyH_take (i := 9) (v := ?vh9) rfl (by kernel_rfl) (by kernel_rfl) (by kernel_rfl) (fun _ _ _ h => h) (Or.inl ⟨by kernel_rfl, ?hyh9⟩) (by assumption) ?rsh9
  case hyh9 => (intro w9 hSw; skip; go_simp; try with_reducible rfl)
  try simp only [Act.put, List.setIfInBounds_toArray, List.set_cons_zero, List.set_cons_succ, List.getElem_toArray, List.getElem_cons_succ, List.getElem_cons_zero]
  refine wpAnyH_take (i := 10) (v := ?vh10) rfl (by kernel_rfl) (by kernel_rfl) (by kernel_rfl) (fun _ _ _ h => h) (Or.inl ⟨by kernel_rfl, ?hyh10⟩) (by assumption) ?rsh10
  case hyh10 => (intro w9 hSw; skip; go_simp; try with_reducible rfl)
  try simp only [Act.put, List.setIfInBounds_toArray, List.set_cons_zero, List.set_cons_succ, List.getElem_toArray, List.getElem_cons_succ, List.getElem_cons_zero]
  refine wpAnyH_take (i := 11) (v := ?vh11) rfl (by kernel_rfl) (by kernel_rfl) (by kernel_rfl) (fun _ _ _ h => h) (Or.inl ⟨by kernel_rfl, ?hyh11⟩) (by assumption) ?rsh11
  case hyh11 => (intro w9 hSw; skip; go_simp; try with_reducible rfl)
  try simp only [Act.put, List.setIfInBounds_toArray, List.set_cons_zero, List.set_cons_succ, List.getElem_toArray, List.getElem_cons_succ, List.getElem_cons_zero]
  refine wpAnyH_take (i := 12) (v := ?vh12) rfl (by kernel_rfl) (by kernel_rfl) (by kernel_rfl) (fun _ _ _ h => h) (Or.inl ⟨by kernel_rfl, ?hyh12⟩) (by assumption) ?rsh12
  case hyh12 => (intro w9 hSw; have d := cell_quiet hSw (HXb.out.cell (i := 0) rfl) (by simp); go_simp; try with_reducible rfl)
  try simp only [Act.put, List.setIfInBounds_toArray, List.set_cons_zero, List.set_cons_succ, List.getElem_toArray, List.getElem_cons_succ, List.getElem_cons_zero]
  refine wpAnyH_take (i := 13) (v := ?vh13) rfl (by kernel_rfl) (by kernel_rfl) (by kernel_rfl) (fun _ _ _ h => h) (Or.inl ⟨by kernel_rfl, ?hyh13⟩) (by assumption) ?rsh13
  case hyh13 => (intro w9 hSw; skip; go_simp; try with_reducible rfl)
  try simp only [Act.put, List.setIfInBounds_toArray, List.set_cons_zero, List.set_cons_succ, List.getElem_toArray, List.getElem_cons_succ, List.getElem_cons_zero]
  refine wpAnyH_take (i := 14) (v := ?vh14) rfl (by kernel_rfl) (by kernel_rfl) (by kernel_rfl) (fun _ _ _ h => h) (Or.inl ⟨by kernel_rfl, ?hyh14⟩) (by assumption) ?rsh14
  case hyh14 => (intro w9 hSw; have d0 := cell_quiet hSw Ib0.out (by simp); have d1 := cell_quiet hSw Ib1.out (by simp); have d2 := cell_quiet hSw Ib2.out (by simp); have d3 := cell_quiet hSw Ib3.out (by simp); have d4 := cell_quiet hSw Ib4.out (by simp); have d5 := cell_quiet hSw Ib5.out (by simp); have d6 := cell_quiet hSw Ib6.out (by simp); have d7 := cell_quiet hSw Ib7.out (by simp); have d8 := cell_quiet hSw Ib8.out (by simp); go_simp; try with_reducible rfl)
  try simp only [Act.put, List.setIfInBounds_toArray, List.set_cons_zero, List.set_cons_succ, List.getElem_toArray, List.getElem_cons_succ, List.getElem_cons_zero]
  refine wpAnyH_take (i := 15) (v := ?vh15) rfl (by kernel_rfl) (by kernel_rfl) (by kernel_rfl) (fun _ _ _ h => h) (Or.inl ⟨by kernel_rfl, ?hyh15⟩) (by assumption) ?rsh15
  case hyh15 => (intro w9 hSw; have d0 := cell_quiet hSw (H20.out.cell (i := 0) rfl) (by simp); have d1 := cell_quiet hSw (H20.out.cell (i := 1) rfl) (by simp); have d2 := cell_quiet hSw (H20.out.cell (i := 2) rfl) (by simp); have d3 := cell_quiet hSw (H20.out.cell (i := 3) rfl) (by simp); have d4 := cell_quiet hSw (H20.out.cell (i := 4) rfl) (by simp); have d5 := cell_quiet hSw (H20.out.cell (i := 5) rfl) (by simp); have d6 := cell_quiet hSw (H20.out.cell (i := 6) rfl) (by simp); have d7 := cell_quiet hSw (H20.out.cell (i := 7) rfl) (by simp); have d8 := cell_quiet hSw (H20.out.cell (i := 8) rfl) (by simp); go_simp; try with_reducible rfl)
  try simp only [Act.put, List.setIfInBounds_toArray, List.set_cons_zero, List.set_cons_succ, List.getElem_toArray, List.getElem_cons_succ, List.getElem_cons_zero]
  refine wpAnyH_ready (rs := [16]) (by kernel_rfl) (by simp) (AllReadyH.cons rfl (fun K hK => ?_) AllReadyH.nil)
  go_simp
  refine (sameitem_spec _ itb itb true (Lib.hid (SimI.refl itb)) _ 0 ub (none) _ 0 ucb 0 (Lib.hid (HUb.out.keep (kp_r _) hHeld (TyB.nil _ _ _))) (Lib.hid (LB.out.keep (kp_r _) hHeld (TyB.nil _ _ _)))).mono ?_
  rintro e9 w9 ⟨rfl, hcx⟩
  refine hK.out _ _ (hHeld.trans hcx (by simp)) (fun hHeld => ?_)
  clear hK K
  try simp only [Act.put, List.setIfInBounds_toArray, List.set_cons_zero, List.set_cons_succ, List.getElem_toArray, List.getElem_cons_succ, List.getElem_cons_zero]
  refine wpAnyH_take (i := 17) (v := ?vh17) rfl (by kernel_rfl) (by kernel_rfl) (by kernel_rfl) (fun _ _ _ h => h) (Or.inl ⟨by kernel_rfl, ?hyh17⟩) (by assumption) ?rsh17
  case hyh17 => (intro w9 hSw; skip; go_simp; try with_reducible rfl)
  try simp only [Act.put, List.setIfInBounds_toArray, List.set_cons_zero, List.set_cons_succ, List.getElem_toArray, List.getElem_cons_succ, List.getElem_cons_zero]
  refine wpAnyH_take (i := 18) (v := ?vh18) rfl (by kernel_rfl) (by kernel_rfl) (by kernel_rfl) (fun _ _ _ h => h) (Or.inl ⟨by kernel_rfl, ?hyh18⟩) (by assumption) ?rsh18
  case hyh18 => (intro w9 hSw; skip; go_simp; try with_reducible rfl)
  try simp only [Act.put, List.setIfInBounds_toArray, List.set_cons_zero, List.set_cons_succ, List.getElem_toArray, List.getElem_cons_succ, List.getElem_cons_zero]
  refine wpAnyH_take (i := 19) (v := ?vh19) rfl (by kernel_rfl) (by kernel_rfl) (by kernel_rfl) (fun _ _ _ h => h) (Or.inl ⟨by kernel_rfl, ?hyh19⟩) (by assumption) ?rsh19
  case hyh19 => (intro w9 hSw; skip; go_simp; try with_reducible rfl)
  try simp only [Act.put, List.setIfInBounds_toArray, List.set_cons_zero, List.set_cons_succ, List.getElem_toArray, List.getElem_cons_succ, List.getElem_cons_zero]
  refine wpAnyH_take (i := 20) (v := ?vh20) rfl (by kernel_rfl) (by kernel_rfl) (by kernel_rfl) (fun _ _ _ h => h) (Or.inl ⟨by kernel_rfl, ?hyh20⟩) (by assumption) ?rsh20
  case hyh20 => (intro w9 hSw; have d := cell_quiet hSw (HXc.out.cell (i := 0) rfl) (by simp); go_simp; try with_reducible rfl)
  try simp only [Act.put, List.setIfInBounds_toArray, List.set_cons_zero, List.set_cons_succ, List.getElem_toArray, List.getElem_cons_succ, List.getElem_cons_zero]
  refine wpAnyH_take (i := 21) (v := ?vh21) rfl (by kernel_rfl) (by kernel_rfl) (by kernel_rfl) (fun _ _ _ h => h) (Or.inl ⟨by kernel_rfl, ?hyh21⟩) (by assumption) ?rsh21
  case hyh21 => (intro w9 hSw; skip; go_simp; try with_reducible rfl)
  try simp only [Act.put, List.setIfInBounds_toArray, List.set_cons_zero, List.set_cons_succ, List.getElem_toArray, List.getElem_cons_succ, List.getElem_cons_zero]
  refine wpAnyH_take (i := 22) (v := ?vh22) rfl (by kernel_rfl) (by kernel_rfl) (by kernel_rfl) (fun _ _ _ h => h) (Or.inl ⟨by kernel_rfl, ?hyh22⟩) (by assumption) ?rsh22
  case hyh22 => (intro w9 hSw; have d0 := cell_quiet hSw Ic0.out (by simp); have d1 := cell_quiet hSw Ic1.out (by simp); have d2 := cell_quiet hSw Ic2.out (by simp); have d3 := cell_quiet hSw Ic3.out (by simp); have d4 := cell_quiet hSw Ic4.out (by simp); have d5 := cell_quiet hSw Ic5.out (by simp); have d6 := cell_quiet hSw Ic6.out (by simp); have d7 := cell_quiet hSw Ic7.out (by simp); have d8 := cell_quiet hSw Ic8.out (by simp); go_simp; try with_reducible rfl)
  try simp only [Act.put, List.setIfInBounds_toArray, List.set_cons_zero, List.set_cons_succ, List.getElem_toArray, List.getElem_cons_succ, List.getElem_cons_zero]
  refine wpAnyH_take (i := 23) (v := ?vh23) rfl (by kernel_rfl) (by kernel_rfl) (by kernel_rfl) (fun _ _ _ h => h) (Or.inl ⟨by kernel_rfl, ?hyh23⟩) (by assumption) ?rsh23
  case hyh23 => (intro w9 hSw; have d0 := cell_quiet hSw (Ht21.out.cell (i := 0) rfl) (by simp); have d1 := cell_quiet hSw (Ht21.out.cell (i := 1) rfl) (by simp); have d2 := cell_quiet hSw (Ht21.out.cell (i := 2) rfl) (by simp); have d3 := cell_quiet hSw (Ht21.out.cell (i := 3) rfl) (by simp); have d4 := cell_quiet hSw (Ht21.out.cell (i := 4) rfl) (by simp); have d5 := cell_quiet hSw (Ht21.out.cell (i := 5) rfl) (by simp); have d6 := cell_quiet hSw (Ht21.out.cell (i := 6) rfl) (by simp); have d7 := cell_quiet hSw (Ht21.out.cell (i := 7) rfl) (by simp); have d8 := cell_quiet hSw (Ht21.out.cell (i := 8) rfl) (by simp); go_simp; try with_reducible rfl)
  try simp only [Act.put, List.setIfInBounds_toArray, List.set_cons_zero, List.set_cons_succ, List.getElem_toArray, List.getElem_cons_succ, List.getElem_cons_zero]
  refine wpAnyH_ready (rs := [24]) (by kernel_rfl) (by simp) (AllReadyH.cons rfl (fun K hK => ?_) AllReadyH.nil)
  go_simp
  refine (sameitem_spec _ itc itc true (Lib.hid (SimI.refl itc)) _ 0 uc (some ⟨g5, 0, none⟩) _ 1 ucc 1 (Lib.hid (HUc.out.keep (kp_r _) hHeld (TyB.nil _ _ _))) (Lib.hid (LC.out.keep (kp_r _) hHeld (TyB.nil _ _ _)))).mono ?_
  rintro e9 w9 ⟨rfl, hcx⟩
  refine hK.out _ _ (hHeld.trans hcx (by simp)) (fun hHeld => ?_)
  clear hK K
  try simp only [Act.put, List.setIfInBounds_toArray, List.set_cons_zero, List.set_cons_succ, List.getElem_toArray, List.getElem_cons_succ, List.getElem_cons_zero]
  refine wpAnyH_take (i := 25) (v := ?vh25) rfl (by kernel_rfl) (by kernel_rfl) (by kernel_rfl) (fun _ _ _ h => h) (Or.inl ⟨by kernel_rfl, ?hyh25⟩) (by assumption) ?rsh25
  case hyh25 => (intro w9 hSw; skip; go_simp; try with_reducible rfl)
  try simp only [Act.put, List.setIfInBounds_toArray, List.set_cons_zero, List.set_cons_succ, List.getElem_toArray, List.getElem_cons_succ, List.getElem_cons_zero]
  refine wpAnyH_take (i := 26) (v := ?vh26) rfl (by kernel_rfl) (by kernel_rfl) (by kernel_rfl) (fun _ _ _ h => h) (Or.inl ⟨by kernel_rfl, ?hyh26⟩) (by assumption) ?rsh26
  case hyh26 => (intro w9 hSw; skip; go_simp; try with_reducible rfl)
  try simp only [Act.put, List.setIfInBounds_toArray, List.set_cons_zero, List.set_cons_succ, List.getElem_toArray, List.getElem_cons_succ, List.getElem_cons_zero]
  refine wpAnyH_done (by kernel_rfl) ?_ _
  try simp only [Act.put, List.setIfInBounds_toArray, List.set_cons_zero, List.set_cons_succ, List.getElem_toArray, List.getElem_cons_succ, List.getElem_cons_zero]
  have HH := Lib.hid hHeld
  go_wp2_with fail
  go_ret
  exact ⟨rfl, HCW.out.trans HH.out (by simp)⟩
end Go.Proofs.YtmfjebpefneboaaDoor
